/- How deep, and what slots there are, in plain words: always an answer, and it hangs on what is used alone. By this session. -/
import Derived.Test.YthllmcijlhlimaaGreatDoorCodeLoadsU
namespace Go.Proofs.YthllmcijlhlimaaGreatDoor.Pure
open Go Go.Proofs.YthllmcijlhlimaaGreatDoor.Cm
open Classical
set_option linter.unusedVariables false
set_option linter.unusedSimpArgs false
set_option maxRecDepth 100000
/-- Alike as to these names. -/
abbrev Ag (N : SL) (m0 m : MO) : Prop := ∀ s ∈ N, mf s m = mf s m0
theorem depths_in {n : Nat} (names : SL) (s : ByteArray) (z4 z5 : Int) (nm2 : SL) (z7 z8 : Int) (done : List (ByteArray × Int)) (is : List InstT) (hlen : is.length < 1000) : ∀ (q i : Nat) (d : Int), i + q = is.length → ∃ d' : Int, ∀ (m : MO) (k : Nat), q < k →
    lay_depths_l9 n k ((names, (), (), s, d, z4, z5, nm2, z7, z8, is, (is.length : Int), (i : Int), ()), (m, done, ())) = some (.inl ((names, (), (), s, d', z4, z5, nm2, z7, z8, ()), (m, done, ()))) := by
  intro q
  induction q with
  | zero =>
    intro i d hi
    refine ⟨d, fun m k hk => ?_⟩
    obtain ⟨k, rfl⟩ : ∃ m, k = m + 1 := ⟨k - 1, by omega⟩
    simp only [lay_depths_l9]
    rw [if_neg (by simp; omega)]
  | succ q ih =>
    intro i d hi
    by_cases h0 : ((mfind (keyEq (.str : Ty)) (is.getD i (Ty.dflt ty11)).2 done).getD 0 == 0) = true
    · refine ⟨0, fun m k hk => ?_⟩
      obtain ⟨k, rfl⟩ : ∃ m, k = m + 1 := ⟨k - 1, by omega⟩
      simp only [lay_depths_l9]
      rw [if_pos (decide_eq_true (show (i : Int) < (is.length : Int) by omega)), if_pos (show 0 ≤ (i : Int) ∧ (i : Int) < (is.length : Int) from ⟨by omega, by omega⟩), rdT_nat, if_pos h0]
    · obtain ⟨d', h⟩ := ih (i + 1) (mx d (IntKind.i64.wrap ((mfind (keyEq (.str : Ty)) (is.getD i (Ty.dflt ty11)).2 done).getD 0 + 1))) (by omega)
      refine ⟨d', fun m k hk => ?_⟩
      obtain ⟨k, rfl⟩ : ∃ m, k = m + 1 := ⟨k - 1, by omega⟩
      simp only [lay_depths_l9]
      rw [if_pos (decide_eq_true (show (i : Int) < (is.length : Int) by omega)), if_pos (show 0 ≤ (i : Int) ∧ (i : Int) < (is.length : Int) from ⟨by omega, by omega⟩), rdT_nat, if_neg h0, w64_up i (by omega)]
      exact h m k (by omega)
theorem depths_mid {n : Nat} (hn : 60 < n) {m0 : MO} (hM : ∀ s, (ins m0 s).length ≤ 30) (N : SL) (hN : N.length < 1000) (z2 z3 : Int) : ∀ (q i : Nat) (done : List (ByteArray × Int)), i + q = N.length → ∃ done', ∀ (m : MO) (k : Nat), Ag N m0 m → q < k →
    lay_depths_l5 n k ((N, (), (), z2, z3, N, (N.length : Int), (i : Int), ()), (m, done, ())) = some (.inl ((N, (), (), z2, z3, ()), (m, done', ()))) := by
  intro q
  induction q with
  | zero =>
    intro i done hi
    refine ⟨done, fun m k _ hk => ?_⟩
    obtain ⟨k, rfl⟩ : ∃ m, k = m + 1 := ⟨k - 1, by omega⟩
    simp only [lay_depths_l5]
    rw [if_neg (by simp; omega)]
  | succ q ih =>
    intro i done hi
    have hs : N.getD i (Ty.dflt .str) ∈ N := getD_mem N i (by omega) _
    generalize hsd : N.getD i (Ty.dflt .str) = s at hs
    have hf := hM s
    obtain ⟨d', hd⟩ := depths_in (n := n) N s z2 z3 N (N.length : Int) (i : Int) done (ins m0 s) (by omega) (ins m0 s).length 0 1 (by omega)
    have step : ∀ (m : MO) (k : Nat), Ag N m0 m → lay_depths_l5 n (k + 1) ((N, (), (), z2, z3, N, (N.length : Int), (i : Int), ()), (m, done, ())) = if decide (d' > 0) then lay_depths_l5 n k ((N, (), (), z2, z3, N, (N.length : Int), ((i + 1 : Nat) : Int), ()), (m, mset (keyEq (.str : Ty)) s d' done, ())) else lay_depths_l5 n k ((N, (), (), z2, z3, N, (N.length : Int), ((i + 1 : Nat) : Int), ()), (m, done, ())) := fun m k hag => by
      have h := hd m n (by omega)
      simp only [lay_depths_l5]
      rw [if_pos (decide_eq_true (show (i : Int) < (N.length : Int) by omega)), if_pos (show 0 ≤ (i : Int) ∧ (i : Int) < (N.length : Int) from ⟨by omega, by omega⟩), rdT_nat, hsd]
      rw [show mfind (keyEq (.str : Ty)) s m = mfind (keyEq (.str : Ty)) s m0 from hag s hs]
      rw [show lay_depths_l9 n n ((N, (), (), s, 1, z2, z3, N, (N.length : Int), (i : Int), ((mfind (keyEq (.str : Ty)) s m0).getD dO).2.2.2.2.2.1, (((mfind (keyEq (.str : Ty)) s m0).getD dO).2.2.2.2.2.1.length : Int), 0, ()), (m, done, ())) = _ from h]
      simp only []
      rw [w64_up i (by omega)]
    by_cases hpos : d' > 0
    · obtain ⟨done', h⟩ := ih (i + 1) (mset (keyEq (.str : Ty)) s d' done) (by omega)
      refine ⟨done', fun m k hag hk => ?_⟩
      obtain ⟨k, rfl⟩ : ∃ m, k = m + 1 := ⟨k - 1, by omega⟩
      rw [step m k hag, if_pos (decide_eq_true hpos)]
      exact h m k hag (by omega)
    · obtain ⟨done', h⟩ := ih (i + 1) done (by omega)
      refine ⟨done', fun m k hag hk => ?_⟩
      obtain ⟨k, rfl⟩ : ∃ m, k = m + 1 := ⟨k - 1, by omega⟩
      rw [step m k hag, if_neg (by simpa using hpos)]
      exact h m k hag (by omega)
theorem depths_out {n : Nat} (hn : 60 < n) {m0 : MO} (hM : ∀ s, (ins m0 s).length ≤ 30) (N : SL) (hN : N.length < n) (hN2 : N.length < 1000) : ∀ (q i : Nat) (done : List (ByteArray × Int)), i + q = N.length → ∃ done', ∀ (m : MO) (k : Nat), Ag N m0 m → q < k →
    lay_depths_l3 n k ((N, (), (), (N.length : Int), (i : Int), ()), (m, done, ())) = some (.inl ((N, (), ()), (m, done', ()))) := by
  intro q
  induction q with
  | zero =>
    intro i done hi
    refine ⟨done, fun m k _ hk => ?_⟩
    obtain ⟨k, rfl⟩ : ∃ m, k = m + 1 := ⟨k - 1, by omega⟩
    simp only [lay_depths_l3]
    rw [if_neg (by simp; omega)]
  | succ q ih =>
    intro i done hi
    obtain ⟨done1, h1⟩ := depths_mid (n := n) hn hM N hN2 (N.length : Int) (i : Int) N.length 0 done (by omega)
    obtain ⟨done', h⟩ := ih (i + 1) done1 (by omega)
    refine ⟨done', fun m k hag hk => ?_⟩
    obtain ⟨k, rfl⟩ : ∃ m, k = m + 1 := ⟨k - 1, by omega⟩
    have h1 := h1 m n hag hN
    simp only [lay_depths_l3]
    rw [if_pos (decide_eq_true (show (i : Int) < (N.length : Int) by omega))]
    rw [show lay_depths_l5 n n ((N, (), (), (N.length : Int), (i : Int), N, (N.length : Int), 0, ()), (m, done, ())) = _ from h1]
    simp only []
    rw [w64_up i (by omega)]
    exact h m k hag (by omega)
theorem depths_at {n : Nat} (hn : 200 < n) {m0 : MO} (hM : ∀ s, (ins m0 s).length ≤ 30) (N : SL) (hN : N.length ≤ 8) : ∃ (b : Bool) (done : List (ByteArray × Int)), ∀ m : MO, Ag N m0 m → lay_depths n ((N, (), ()), (m, ())) = some (((((), ()), (b, ()), ()), ()), (m, done, ())) := by
  obtain ⟨n, rfl⟩ : ∃ q, n = q + 1 := ⟨n - 1, by omega⟩
  obtain ⟨done, h⟩ := depths_out (n := n) (by omega) hM N (by omega) (by omega) N.length 0 [] (by omega)
  refine ⟨((List.length (α := ByteArray × Int) done : Nat) : Int) == ((N.length : Nat) : Int), done, fun m hag => ?_⟩
  have h := h m n hag (by omega)
  simp only [lay_depths]
  rw [show lay_depths_l3 n n ((N, (), (), (N.length : Int), 0, ()), (m, [], ())) = _ from h]
/-! ### slots -/
abbrev SlotT := ByteArray × Int × Int
/-- What is used is among the names; nothing is too great. -/
structure Shut (m0 : MO) (N : SL) : Prop where
  cl : ∀ s ∈ N, ∀ i ∈ ins m0 s, i.2 ∈ N
  few : ∀ s, (ins m0 s).length ≤ 30
  isz : ∀ s, ∀ i ∈ ins m0 s, i.1.size ≤ 300
  cells : ∀ s, ((mf s m0).getD dO).2.2.2.2.1.length ≤ 60
  csz : ∀ s, ∀ c ∈ ((mf s m0).getD dO).2.2.2.2.1, c.1.size ≤ 300
theorem app_size (a b : ByteArray) : (a ++ b).size = a.size + b.size := ByteArray.size_append
theorem walk_cells {n : Nat} (rc) (ahead : ByteArray) (ha : ahead.size ≤ 1000000) (c : Int) (m : MO) (at_ : List (ByteArray × Int)) (x8 : ByteArray) (x9 x10 : List Int) (x11 : Int) (x12 : List CellT) (x13 : List InstT) (x14 : List InstrT) (cs : List CellT) (hc : ∀ c ∈ cs, c.1.size ≤ 300) (hlen : cs.length ≤ 600) : ∀ (q i : Nat) (out : List SlotT), i + q = cs.length → out.length + q ≤ 10000 → ∀ k, q < k →
    lay_layer_walk_2_l11 n rc k (((), ahead, (), cs, (cs.length : Int), (i : Int), ()), (((), (), (), c, ()), m, (), at_, (x8, x9, x10, x11, x12, x13, x14, ()), out, ())) = some (.inl (((), ahead, (), ()), (((), (), (), c, ()), m, (), at_, (x8, x9, x10, x11, x12, x13, x14, ()), out ++ (cs.drop i).map (fun c => (ahead ++ c.1, c.2)), ()))) := by
  intro q
  induction q with
  | zero =>
    intro i out hi ho k hk
    obtain ⟨k, rfl⟩ : ∃ m, k = m + 1 := ⟨k - 1, by omega⟩
    simp only [lay_layer_walk_2_l11]
    rw [if_neg (by simp; omega), List.drop_of_length_le (by omega), List.map_nil, List.append_nil]
  | succ q ih =>
    intro i out hi ho k hk
    obtain ⟨k, rfl⟩ : ∃ m, k = m + 1 := ⟨k - 1, by omega⟩
    have hb := hc _ (getD_mem cs i (by omega) (Ty.dflt ty7))
    simp only [lay_layer_walk_2_l11]
    rw [if_pos (decide_eq_true (show (i : Int) < (cs.length : Int) by omega)), if_pos (show 0 ≤ (i : Int) ∧ (i : Int) < (cs.length : Int) from ⟨by omega, by omega⟩), rdT_nat, if_pos (by omega), if_pos (by simp only [List.length_cons, List.length_nil]; omega), w64_up i (by omega), ih (i + 1) _ (by omega) (by simp; omega) k (by omega), List.append_assoc]
    have hd : cs.drop i = (cs.getD i (Ty.dflt ty7) : CellT) :: cs.drop (i + 1) := by
      rw [List.drop_eq_getElem_cons (show i < cs.length by omega), List.getD_eq_getElem?_getD, List.getElem?_eq_getElem (show i < cs.length by omega)]
      rfl
    rw [hd]
    rfl
theorem walk_two {m0 : MO} {N : SL} (hS : Shut m0 N) : ∀ (d n c : Nat) (node ahead : ByteArray) (out : List SlotT) (at_ : List (ByteArray × Int)), c + d = 513 → d + 700 < n → c ≤ 512 → node ∈ N → ahead.size ≤ 302 * c → out.length ≤ 512 →
    ∃ (e : ErrV) (c' : Nat) (at' : List (ByteArray × Int)) (out' : List SlotT), c + 1 ≤ c' ∧ (errNil e = true → c' ≤ 512) ∧ out'.length ≤ 512 ∧ ∀ m : MO, Ag N m0 m →
      lay_layer_walk_2 n (((), node, ahead, ()), (((), (), (), (c : Int), ()), m, out, at_, ())) = some ((e, ()), (((), (), (), (c' : Int), ()), m, (), at', out', ())) := by
  intro d
  induction d using Nat.strongRecOn with
  | ind d IH =>
  intro n c node ahead out at_ hcd hn hc hnode hah hout
  obtain ⟨n, rfl⟩ : ∃ q, n = q + 1 := ⟨n - 1, by omega⟩
  have hc1 : IntKind.i64.wrap ((c : Int) + 1) = ((c + 1 : Nat) : Int) := w64_up c (by omega)
  by_cases hbig : c + 1 > 512
  · refine ⟨.sent 103, c + 1, at_, out, by omega, (fun h => by cases h), hout, fun m _ => ?_⟩
    simp only [lay_layer_walk_2]
    rw [hc1, if_pos (decide_eq_true (show ((c + 1 : Nat) : Int) > 512 by omega))]
  have hw : IntKind.i64.wrap (512 - (out.length : Int)) = 512 - (out.length : Int) := w64_id (by omega) (by omega)
  by_cases hcel : ((((mf node m0).getD dO).2.2.2.2.1.length : Nat) : Int) > 512 - (out.length : Int)
  · refine ⟨.sent 103, c + 1, at_, out, by omega, (fun h => by cases h), hout, fun m hag => ?_⟩
    simp only [lay_layer_walk_2]
    rw [hc1, if_neg (by simp; omega), hw, show mfind (keyEq (.str : Ty)) node m = mf node m0 from hag node hnode, if_pos (decide_eq_true hcel)]
  generalize hod : (mf node m0).getD dO = o at hcel
  have hins : ins m0 node = o.2.2.2.2.2.1 := by rw [← hod]
  have hcs : ∀ c ∈ o.2.2.2.2.1, c.1.size ≤ 300 := by rw [← hod]; exact hS.csz node
  have hcl : o.2.2.2.2.1.length ≤ 60 := by rw [← hod]; exact hS.cells node
  have hil : o.2.2.2.2.2.1.length ≤ 30 := by rw [← hins]; exact hS.few node
  have hisz : ∀ i ∈ o.2.2.2.2.2.1, i.1.size ≤ 300 := by rw [← hins]; exact hS.isz node
  have hicl : ∀ i ∈ o.2.2.2.2.2.1, i.2 ∈ N := by rw [← hins]; exact hS.cl node hnode
  obtain ⟨at1, hat⟩ : ∃ at1, ∀ (m : MO), lay_layer_walk_2_c10 n (lay_layer_walk_2 n) (((), ahead, (), ()), (((), (), (), ((c + 1 : Nat) : Int), ()), m, out, at_, (o.1, o.2.1, o.2.2.1, o.2.2.2.1, o.2.2.2.2.1, o.2.2.2.2.2.1, o.2.2.2.2.2.2, ()), ())) = some (.inl (((), ahead, (), ()), (((), (), (), ((c + 1 : Nat) : Int), ()), m, out, at1, (o.1, o.2.1, o.2.2.1, o.2.2.2.1, o.2.2.2.2.1, o.2.2.2.2.2.1, o.2.2.2.2.2.2, ()), ()))) := by
    by_cases hin : (mfind (keyEq (.str : Ty)) ahead at_).isSome = true
    · refine ⟨at_, fun m => ?_⟩
      simp only [lay_layer_walk_2_c10]
      rw [hin, if_neg (by simp)]
    · refine ⟨mset (keyEq (.str : Ty)) ahead (out.length : Int) at_, fun m => ?_⟩
      simp only [lay_layer_walk_2_c10]
      rw [if_pos (by simpa using hin)]
  have loop : ∀ (q i c1 : Nat) (out1 : List SlotT) (at2 : List (ByteArray × Int)), i + q = o.2.2.2.2.2.1.length → c + 1 ≤ c1 → c1 ≤ 512 → out1.length ≤ 512 →
      ∃ (e : ErrV) (c' : Nat) (at' : List (ByteArray × Int)) (out' : List SlotT), c1 ≤ c' ∧ (errNil e = true → c' ≤ 512) ∧ out'.length ≤ 512 ∧ ∀ (m : MO) (k : Nat), Ag N m0 m → q < k →
        lay_layer_walk_2_l16 n (lay_layer_walk_2 n) k (((), ahead, o.2.2.2.2.2.1, (o.2.2.2.2.2.1.length : Int), (i : Int), ()), (((), (), (), (c1 : Int), ()), m, (), at2, out1, ())) = if errNil e then some (.inl ((), (((), (), (), (c' : Int), ()), m, (), at', out', ()))) else some (.inr (.inl ((e, ()), (((), (), (), (c' : Int), ()), m, (), at', out', ())))) := by
    intro q
    induction q with
    | zero =>
      intro i c1 out1 at2 hi h1 h2 h3
      refine ⟨.nil, c1, at2, out1, by omega, fun _ => h2, h3, fun m k hag hk => ?_⟩
      obtain ⟨k, rfl⟩ : ∃ m, k = m + 1 := ⟨k - 1, by omega⟩
      simp only [lay_layer_walk_2_l16]
      rw [if_neg (by simp; omega)]
      rfl
    | succ q ih =>
      intro i c1 out1 at2 hi h1 h2 h3
      have hmem := getD_mem o.2.2.2.2.2.1 i (by omega) (Ty.dflt ty11)
      generalize hid : o.2.2.2.2.2.1.getD i (Ty.dflt ty11) = ii at hmem
      have hz := hisz _ hmem
      have hz2 : (ahead ++ ii.1).size = ahead.size + ii.1.size := app_size _ _
      have hz3 : ((ahead ++ ii.1) ++ (⟨#[47]⟩ : ByteArray)).size = ahead.size + ii.1.size + 1 := by rw [app_size, hz2]; rfl
      obtain ⟨e, c2, at3, out2, r1, r2, r3, r4⟩ := IH (513 - c1) (by omega) n c1 ii.2 ((ahead ++ ii.1) ++ (⟨#[47]⟩ : ByteArray)) out1 at2 (by omega) (by omega) h2 (hicl _ hmem) (by omega) h3
      have step : ∀ (m : MO) (k : Nat), Ag N m0 m → lay_layer_walk_2_l16 n (lay_layer_walk_2 n) (k + 1) (((), ahead, o.2.2.2.2.2.1, (o.2.2.2.2.2.1.length : Int), (i : Int), ()), (((), (), (), (c1 : Int), ()), m, (), at2, out1, ())) =
          if !(errNil e) then some (.inr (.inl ((e, ()), (((), (), (), (c2 : Int), ()), m, (), at3, out2, ())))) else lay_layer_walk_2_l16 n (lay_layer_walk_2 n) k (((), ahead, o.2.2.2.2.2.1, (o.2.2.2.2.2.1.length : Int), ((i + 1 : Nat) : Int), ()), (((), (), (), (c2 : Int), ()), m, (), at3, out2, ())) := fun m k hag => by
        simp only [lay_layer_walk_2_l16]
        rw [if_pos (decide_eq_true (show (i : Int) < (o.2.2.2.2.2.1.length : Int) by omega)), if_pos (show 0 ≤ (i : Int) ∧ (i : Int) < (o.2.2.2.2.2.1.length : Int) from ⟨by omega, by omega⟩), rdT_nat, hid, if_pos (by omega), if_pos (by rw [hz2]; show _ + 1 ≤ _; omega)]
        have r4 := r4 m hag
        rw [r4]
        simp only []
        rw [w64_up i (by omega)]
      cases he : errNil e with
      | false =>
        refine ⟨e, c2, at3, out2, by omega, r2, r3, fun m k hag hk => ?_⟩
        obtain ⟨k, rfl⟩ : ∃ m, k = m + 1 := ⟨k - 1, by omega⟩
        rw [step m k hag, he]
        rfl
      | true =>
        obtain ⟨e', c', at', out', s1, s2, s3, s4⟩ := ih (i + 1) c2 out2 at3 (by omega) (by omega) (r2 he) r3
        refine ⟨e', c', at', out', by omega, s2, s3, fun m k hag hk => ?_⟩
        obtain ⟨k, rfl⟩ : ∃ m, k = m + 1 := ⟨k - 1, by omega⟩
        rw [step m k hag, he]
        exact s4 m k hag (by omega)
  have hol : (out ++ (o.2.2.2.2.1.drop 0).map (fun c => (ahead ++ c.1, c.2)) : List SlotT).length ≤ 512 := by
    simp only [List.drop_zero, List.length_append, List.length_map]
    omega
  obtain ⟨e, c', at', out', s1, s2, s3, s4⟩ := loop o.2.2.2.2.2.1.length 0 (c + 1) _ at1 (by omega) (by omega) (by omega) hol
  refine ⟨e, c', at', out', s1, s2, s3, fun m hag => ?_⟩
  have hcells := walk_cells (n := n) (lay_layer_walk_2 n) ahead (by omega) ((c + 1 : Nat) : Int) m at1 o.1 o.2.1 o.2.2.1 o.2.2.2.1 o.2.2.2.2.1 o.2.2.2.2.2.1 o.2.2.2.2.2.2 o.2.2.2.2.1 hcs (by omega) o.2.2.2.2.1.length 0 out (by omega) (by omega) n (by omega)
  have s4 := s4 m n hag (by omega)
  simp only [lay_layer_walk_2]
  rw [hc1, if_neg (by simp; omega), hw, show mfind (keyEq (.str : Ty)) node m = mf node m0 from hag node hnode, show (mf node m0).getD ((⟨#[]⟩ : ByteArray), ([], ([], (0, ([], ([], [])))))) = o from hod, if_neg (by simpa using hcel), hat m]
  simp only []
  rw [show lay_layer_walk_2_l11 n (lay_layer_walk_2 n) n (((), ahead, (), o.2.2.2.2.1, (o.2.2.2.2.1.length : Int), 0, ()), (((), (), (), ((c + 1 : Nat) : Int), ()), m, (), at1, (o.1, o.2.1, o.2.2.1, o.2.2.2.1, o.2.2.2.2.1, o.2.2.2.2.2.1, o.2.2.2.2.2.2, ()), out, ())) = _ from hcells]
  simp only []
  rw [show lay_layer_walk_2_l16 n (lay_layer_walk_2 n) n (((), ahead, o.2.2.2.2.2.1, (o.2.2.2.2.2.1.length : Int), 0, ()), (((), (), (), ((c + 1 : Nat) : Int), ()), m, (), at1, out ++ (o.2.2.2.2.1.drop 0).map (fun c => (ahead ++ c.1, c.2)), ())) = _ from s4]
  cases he : errNil e with
  | true =>
    have e0 : e = .nil := by cases e with | nil => rfl | sent _ => cases he | at_ _ _ => cases he
    rw [if_pos rfl, e0]
  | false => rw [if_neg (by simp)]
end Go.Proofs.YthllmcijlhlimaaGreatDoor.Pure

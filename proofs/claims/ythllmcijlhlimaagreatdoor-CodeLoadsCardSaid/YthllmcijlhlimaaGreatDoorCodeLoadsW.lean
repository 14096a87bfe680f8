/- The slots of a program, in plain words: an answer, and it hangs on what is used alone. By this session. -/
import Derived.Test.YthllmcijlhlimaaGreatDoorCodeLoadsV
namespace Go.Proofs.YthllmcijlhlimaaGreatDoor.Pure
open Go Go.Proofs.YthllmcijlhlimaaGreatDoor.Cm
open Classical
set_option linter.unusedVariables false
set_option linter.unusedSimpArgs false
set_option maxRecDepth 100000
theorem walk_cells1 {n : Nat} (rc) (ahead : ByteArray) (ha : ahead.size ≤ 1000000) (c : Int) (m : MO) (at_ : List (ByteArray × Int)) (x8 : ByteArray) (x9 x10 : List Int) (x11 : Int) (x12 : List CellT) (x13 : List InstT) (x14 : List InstrT) (cs : List CellT) (hc : ∀ c ∈ cs, c.1.size ≤ 300) (hlen : cs.length ≤ 600) : ∀ (q i : Nat) (out : List SlotT), i + q = cs.length → out.length + q ≤ 10000 → ∀ k, q < k →
    lay_layer_walk_l11 n rc k (((), ahead, (), cs, (cs.length : Int), (i : Int), ()), (((), (), (), c, ()), m, at_, (x8, x9, x10, x11, x12, x13, x14, ()), out, ())) = some (.inl (((), ahead, (), ()), (((), (), (), c, ()), m, at_, (x8, x9, x10, x11, x12, x13, x14, ()), out ++ (cs.drop i).map (fun c => (ahead ++ c.1, c.2)), ()))) := by
  intro q
  induction q with
  | zero =>
    intro i out hi ho k hk
    obtain ⟨k, rfl⟩ : ∃ m, k = m + 1 := ⟨k - 1, by omega⟩
    simp only [lay_layer_walk_l11]
    rw [if_neg (by simp; omega), List.drop_of_length_le (by omega), List.map_nil, List.append_nil]
  | succ q ih =>
    intro i out hi ho k hk
    obtain ⟨k, rfl⟩ : ∃ m, k = m + 1 := ⟨k - 1, by omega⟩
    have hb := hc _ (getD_mem cs i (by omega) (Ty.dflt ty7))
    simp only [lay_layer_walk_l11]
    rw [if_pos (decide_eq_true (show (i : Int) < (cs.length : Int) by omega)), if_pos (show 0 ≤ (i : Int) ∧ (i : Int) < (cs.length : Int) from ⟨by omega, by omega⟩), rdT_nat, if_pos (by omega), if_pos (by simp only [List.length_cons, List.length_nil]; omega), w64_up i (by omega), ih (i + 1) _ (by omega) (by simp; omega) k (by omega), List.append_assoc]
    have hd : cs.drop i = (cs.getD i (Ty.dflt ty7) : CellT) :: cs.drop (i + 1) := by
      rw [List.drop_eq_getElem_cons (show i < cs.length by omega), List.getD_eq_getElem?_getD, List.getElem?_eq_getElem (show i < cs.length by omega)]
      rfl
    rw [hd]
    rfl
theorem walk_one {m0 : MO} {N : SL} (hS : Shut m0 N) {n : Nat} (hn : 2000 < n) {node : ByteArray} (hnode : node ∈ N) :
    ∃ (e : ErrV) (c' : Int) (at' : List (ByteArray × Int)) (out' : List SlotT), ∀ m : MO, Ag N m0 m →
      lay_layer_walk n (((), node, (⟨#[]⟩ : ByteArray), ()), (((), (), (), 0, ()), m, [], ())) = some ((e, ()), (((), (), (), c', ()), m, at', out', ())) := by
  obtain ⟨n, rfl⟩ : ∃ q, n = q + 1 := ⟨n - 1, by omega⟩
  have hz0 : (⟨#[]⟩ : ByteArray).size = 0 := rfl
  generalize (⟨#[]⟩ : ByteArray) = ahead at hz0
  have hc1 : IntKind.i64.wrap ((0 : Int) + 1) = ((1 : Nat) : Int) := w64_up 0 (by omega)
  generalize hod : (mf node m0).getD dO = o
  have hins : ins m0 node = o.2.2.2.2.2.1 := by rw [← hod]
  have hcs : ∀ c ∈ o.2.2.2.2.1, c.1.size ≤ 300 := by rw [← hod]; exact hS.csz node
  have hcl : o.2.2.2.2.1.length ≤ 60 := by rw [← hod]; exact hS.cells node
  have hil : o.2.2.2.2.2.1.length ≤ 30 := by rw [← hins]; exact hS.few node
  have hisz : ∀ i ∈ o.2.2.2.2.2.1, i.1.size ≤ 300 := by rw [← hins]; exact hS.isz node
  have hicl : ∀ i ∈ o.2.2.2.2.2.1, i.2 ∈ N := by rw [← hins]; exact hS.cl node hnode
  have hat : ∀ (m : MO), lay_layer_walk_c10 n (lay_layer_walk n) (((), ahead, (), ()), (((), (), (), ((1 : Nat) : Int), ()), m, [], (o.1, o.2.1, o.2.2.1, o.2.2.2.1, o.2.2.2.2.1, o.2.2.2.2.2.1, o.2.2.2.2.2.2, ()), ())) = some (.inl (((), ahead, (), ()), (((), (), (), ((1 : Nat) : Int), ()), m, mset (keyEq (.str : Ty)) ahead (0 : Int) [], (o.1, o.2.1, o.2.2.1, o.2.2.2.1, o.2.2.2.2.1, o.2.2.2.2.2.1, o.2.2.2.2.2.2, ()), ()))) := fun m => by
    simp only [lay_layer_walk_c10]
    rw [if_pos (by simp [mfind])]
  generalize mset (keyEq (.str : Ty)) ahead (0 : Int) [] = at1 at hat
  have loop : ∀ (q i c1 : Nat) (out1 : List SlotT) (at2 : List (ByteArray × Int)), i + q = o.2.2.2.2.2.1.length → 1 ≤ c1 → c1 ≤ 512 → out1.length ≤ 512 →
      ∃ (e : ErrV) (c' : Nat) (at' : List (ByteArray × Int)) (out' : List SlotT), ∀ (m : MO) (k : Nat), Ag N m0 m → q < k →
        lay_layer_walk_l16 n (lay_layer_walk n) k (((), ahead, o.2.2.2.2.2.1, (o.2.2.2.2.2.1.length : Int), (i : Int), ()), (((), (), (), (c1 : Int), ()), m, at2, out1, ())) = if errNil e then some (.inl ((), (((), (), (), (c' : Int), ()), m, at', out', ()))) else some (.inr (.inl ((e, ()), (((), (), (), (c' : Int), ()), m, at', out', ())))) := by
    intro q
    induction q with
    | zero =>
      intro i c1 out1 at2 hi h1 h2 h3
      refine ⟨.nil, c1, at2, out1, fun m k hag hk => ?_⟩
      obtain ⟨k, rfl⟩ : ∃ m, k = m + 1 := ⟨k - 1, by omega⟩
      simp only [lay_layer_walk_l16]
      rw [if_neg (by simp; omega)]
      rfl
    | succ q ih =>
      intro i c1 out1 at2 hi h1 h2 h3
      have hmem := getD_mem o.2.2.2.2.2.1 i (by omega) (Ty.dflt ty11)
      generalize hid : o.2.2.2.2.2.1.getD i (Ty.dflt ty11) = ii at hmem
      have hz := hisz _ hmem
      have hz2 : (ahead ++ ii.1).size = ahead.size + ii.1.size := app_size _ _
      have hz3 : ((ahead ++ ii.1) ++ (⟨#[47]⟩ : ByteArray)).size = ahead.size + ii.1.size + 1 := by rw [app_size, hz2]; rfl
      obtain ⟨e, c2, at3, out2, r1, r2, r3, r4⟩ := walk_two hS (513 - c1) n c1 ii.2 ((ahead ++ ii.1) ++ (⟨#[47]⟩ : ByteArray)) out1 at2 (by omega) (by omega) h2 (hicl _ hmem) (by omega) h3
      have step : ∀ (m : MO) (k : Nat), Ag N m0 m → lay_layer_walk_l16 n (lay_layer_walk n) (k + 1) (((), ahead, o.2.2.2.2.2.1, (o.2.2.2.2.2.1.length : Int), (i : Int), ()), (((), (), (), (c1 : Int), ()), m, at2, out1, ())) =
          if !(errNil e) then some (.inr (.inl ((e, ()), (((), (), (), (c2 : Int), ()), m, at3, out2, ())))) else lay_layer_walk_l16 n (lay_layer_walk n) k (((), ahead, o.2.2.2.2.2.1, (o.2.2.2.2.2.1.length : Int), ((i + 1 : Nat) : Int), ()), (((), (), (), (c2 : Int), ()), m, at3, out2, ())) := fun m k hag => by
        simp only [lay_layer_walk_l16]
        rw [if_pos (decide_eq_true (show (i : Int) < (o.2.2.2.2.2.1.length : Int) by omega)), if_pos (show 0 ≤ (i : Int) ∧ (i : Int) < (o.2.2.2.2.2.1.length : Int) from ⟨by omega, by omega⟩), rdT_nat, hid, if_pos (by omega), if_pos (by rw [hz2]; show _ + 1 ≤ _; omega)]
        have r4 := r4 m hag
        rw [r4]
        simp only []
        rw [w64_up i (by omega)]
      cases he : errNil e with
      | false =>
        refine ⟨e, c2, at3, out2, fun m k hag hk => ?_⟩
        obtain ⟨k, rfl⟩ : ∃ m, k = m + 1 := ⟨k - 1, by omega⟩
        rw [step m k hag, he]
        rfl
      | true =>
        obtain ⟨e', c', at', out', s4⟩ := ih (i + 1) c2 out2 at3 (by omega) (by omega) (r2 he) r3
        refine ⟨e', c', at', out', fun m k hag hk => ?_⟩
        obtain ⟨k, rfl⟩ : ∃ m, k = m + 1 := ⟨k - 1, by omega⟩
        rw [step m k hag, he]
        exact s4 m k hag (by omega)
  have hol : (([] : List SlotT) ++ (o.2.2.2.2.1.drop 0).map (fun c => (ahead ++ c.1, c.2)) : List SlotT).length ≤ 512 := by
    simp only [List.drop_zero, List.length_append, List.length_map, List.length_nil]
    omega
  obtain ⟨e, c', at', out', s4⟩ := loop o.2.2.2.2.2.1.length 0 1 _ at1 (by omega) (by omega) (by omega) hol
  refine ⟨e, (c' : Int), at', out', fun m hag => ?_⟩
  have hcells := walk_cells1 (n := n) (lay_layer_walk n) ahead (by omega) ((1 : Nat) : Int) m at1 o.1 o.2.1 o.2.2.1 o.2.2.2.1 o.2.2.2.2.1 o.2.2.2.2.2.1 o.2.2.2.2.2.2 o.2.2.2.2.1 hcs (by omega) o.2.2.2.2.1.length 0 [] (by omega) (by simp; omega) n (by omega)
  have s4 := s4 m n hag (by omega)
  simp only [lay_layer_walk]
  rw [hc1, if_neg (by decide), show mfind (keyEq (.str : Ty)) node m = mf node m0 from hag node hnode, show (mf node m0).getD ((⟨#[]⟩ : ByteArray), ([], ([], (0, ([], ([], [])))))) = o from hod, if_neg (by simp; omega), hat m]
  simp only []
  rw [show lay_layer_walk_l11 n (lay_layer_walk n) n (((), ahead, (), o.2.2.2.2.1, (o.2.2.2.2.1.length : Int), 0, ()), (((), (), (), ((1 : Nat) : Int), ()), m, at1, (o.1, o.2.1, o.2.2.1, o.2.2.2.1, o.2.2.2.2.1, o.2.2.2.2.2.1, o.2.2.2.2.2.2, ()), [], ())) = _ from hcells]
  simp only []
  rw [show lay_layer_walk_l16 n (lay_layer_walk n) n (((), ahead, o.2.2.2.2.2.1, (o.2.2.2.2.2.1.length : Int), 0, ()), (((), (), (), ((1 : Nat) : Int), ()), m, at1, ([] : List SlotT) ++ (o.2.2.2.2.1.drop 0).map (fun c => (ahead ++ c.1, c.2)), ())) = _ from s4]
  cases he : errNil e with
  | true =>
    have e0 : e = .nil := by cases e with | nil => rfl | sent _ => cases he | at_ _ _ => cases he
    rw [if_pos rfl, e0]
  | false => rw [if_neg (by simp)]
/-- An object as it may be. -/
structure OneOk (o : ObjT) : Prop where
  ok : ObjOk o.1 o.2.1 o.2.2.1 o.2.2.2.1 o.2.2.2.2.1 o.2.2.2.2.2.1 o.2.2.2.2.2.2
  gd : ObjGood o.2.1 o.2.2.1 o.2.2.2.1 o.2.2.2.2.1 o.2.2.2.2.2.2
theorem few_of {l : List ObjT} (h : ∀ o ∈ l, OneOk o) (hl : l.length ≤ 8) : Few l := ⟨hl, fun o ho => (h o ho).ok.n1, fun o ho => (h o ho).ok.n6⟩
theorem shut_of {l : List ObjT} (h : ∀ o ∈ l, OneOk o) (hl : l.length ≤ 8) {root : ByteArray} {N : SL} (hN : Names l root N) : Shut (objs l) N := by
  have hF := few_of h hl
  refine ⟨hN.cl, hF.ins, fun s i hi => ?_, fun s => ?_, fun s c hc => ?_⟩
  · cases e : mf s (objs l) with
    | none => simp [Pure.ins, e] at hi
    | some o => simp [Pure.ins, e] at hi; exact ((h o (mf_mem e).1).ok.c6 i hi).1
  · cases e : mf s (objs l) with
    | none => simp
    | some o => simpa using (h o (mf_mem e).1).ok.n5
  · cases e : mf s (objs l) with
    | none => simp [e] at hc
    | some o => simp [e] at hc; exact (h o (mf_mem e).1).ok.c5 c hc
theorem errNil_iff {e : ErrV} (h : errNil e = true) : e = .nil := by cases e with | nil => rfl | sent _ => cases h | at_ _ _ => cases h
theorem Of_at {n : Nat} (hn : 3000 < n) {l : List ObjT} (h : ∀ o ∈ l, OneOk o) (hl : l.length ≤ 8) (root : ByteArray) :
    (∃ e, errNil e = false ∧ lay_Of n ((root, l, ()), ()) = some (((((), ()), (e, ()), ()), ()), ([], ()))) ∨
    (∃ N slots, Names l root N ∧ ∀ l2 : List ObjT, l2.length ≤ 8 → (keys (objs l2)).Nodup → Ag N (objs l) (objs l2) → lay_Of n ((root, l2, ()), ()) = some (((((), ()), (ErrV.nil, ()), ()), ()), (slots, ())) ∧ ∀ k, 1000 < k → lay_Uses k ((root, l2, ()), ()) = some (((((), ()), (ErrV.nil, ()), ()), ()), (N, ()))) := by
  obtain ⟨n, rfl⟩ : ∃ q, n = q + 1 + 1 := ⟨n - 2, by omega⟩
  have hF := few_of h hl
  rcases Uses_at hF root with hU | ⟨N, hN, hU⟩
  · obtain ⟨e, he, hU⟩ := hU n (by omega)
    refine .inl ⟨e, he, ?_⟩
    simp only [lay_Of, lay_all, hU]
    rw [he, if_pos (by decide)]
    simp only []
    rw [he, if_pos (by decide)]
  · have hS := shut_of h hl hN
    obtain ⟨b, done, hD⟩ := depths_at (n := n) (by omega) hF.ins N (by have := hN.len; omega)
    obtain ⟨e, c', at', out', hW⟩ := walk_one hS (n := n) (by omega) hN.rt
    have hnm : ∀ l2 : List ObjT, l2.length ≤ 8 → (keys (objs l2)).Nodup → lay_named n ((l2, ()), ()) = some (.inl (((((), ()), (ErrV.nil, ()), ()), ()), (objs l2, ()))) := fun l2 h1 h2 => by
      rcases named_at (n := n) l2 (by omega) (by omega) with ⟨-, h⟩ | ⟨h, -⟩
      · exact h
      · exact absurd h2 h
    have hall : ∀ l2 : List ObjT, l2.length ≤ 8 → (keys (objs l2)).Nodup → Ag N (objs l) (objs l2) → lay_all (n + 1) ((root, l2, ()), ()) =
        (if !b then
            some (.inr (.inr ((((((), ()), (ErrV.sent 113, ()), ()), ()), ()))))
          else if decide ((mfind (keyEq (.str : Ty)) root done).getD 0 > 8) then
              some (.inr (.inr ((((((), ()), (ErrV.sent 108, ()), ()), ()), ()))))
            else if !(errNil e) then
                  some (.inr (.inr ((((((), ()), (e, ()), ()), ()), ()))))
                else
                  some (.inl (((((), ()), (ErrV.nil, ()), ()), ()), (((), (), (), c', ()), objs l2, out', at', ())))) := fun l2 h1 h2 h3 => by
      simp only [lay_all, hU n (by omega) l2 h1 h2 h3, hnm l2 h1 h2, hD (objs l2) h3, hW (objs l2) h3]
      rfl
    by_cases hb : b = true
    · by_cases hd : (mfind (keyEq (.str : Ty)) root done).getD 0 > 8
      · refine .inl ⟨.sent 108, rfl, ?_⟩
        simp only [lay_Of, hall l hl hN.nd (fun s _ => rfl)]
        rw [hb, if_neg (by decide), if_pos (decide_eq_true hd)]
        rfl
      · cases he : errNil e with
        | false =>
          refine .inl ⟨e, he, ?_⟩
          simp only [lay_Of, hall l hl hN.nd (fun s _ => rfl)]
          rw [hb, if_neg (by decide), if_neg (by simpa using hd), he, if_pos (by decide)]
          simp only []
          rw [he, if_pos (by decide)]
        | true =>
          refine .inr ⟨N, out', hN, fun l2 h1 h2 h3 => ⟨?_, fun k hk => hU k hk l2 h1 h2 h3⟩⟩
          simp only [lay_Of, hall l2 h1 h2 h3]
          rw [hb, if_neg (by decide), if_neg (by simpa using hd), he, if_neg (by decide)]
          rfl
    · refine .inl ⟨.sent 113, rfl, ?_⟩
      simp only [lay_Of, hall l hl hN.nd (fun s _ => rfl)]
      rw [if_pos (by simpa using hb)]
      rfl
end Go.Proofs.YthllmcijlhlimaaGreatDoor.Pure

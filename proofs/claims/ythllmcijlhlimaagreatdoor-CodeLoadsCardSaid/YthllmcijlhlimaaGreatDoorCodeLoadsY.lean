/- What is loaded, in plain words. By this session. -/
import Derived.Test.YthllmcijlhlimaaGreatDoorCodeLoadsX
namespace Go.Proofs.YthllmcijlhlimaaGreatDoor.Pure
open Go Go.Proofs.YthllmcijlhlimaaGreatDoor.Cm
open Classical
set_option linter.unusedVariables false
set_option linter.unusedSimpArgs false
set_option maxRecDepth 100000
theorem At_at {n : Nat} (hn : 1 ≤ n) (b : List Int) (a : Int) (e : ErrV) : wire_Reader_At n (((), ()), ((b, a, e, ()), ())) = some ((a, ()), ((b, a, e, ()), ())) := by
  obtain ⟨n, rfl⟩ : ∃ m, n = m + 1 := ⟨n - 1, by omega⟩
  simp only [wire_Reader_At]
theorem Left_at {n : Nat} (hn : 1 ≤ n) {b : List Int} (hb : b.length < 1000000000) {a : Nat} (ha : a ≤ b.length) (e : ErrV) : wire_Reader_Left n (((), ()), ((b, (a : Int), e, ()), ())) = some ((((b.length - a : Nat) : Int), ()), ((b, (a : Int), e, ()), ())) := by
  obtain ⟨n, rfl⟩ : ∃ m, n = m + 1 := ⟨n - 1, by omega⟩
  simp only [wire_Reader_Left]
  rw [w64_id (by omega) (by omega), show (b.length : Int) - (a : Int) = ((b.length - a : Nat) : Int) by omega]
theorem load_stop {n k : Nat} (hn : 1 ≤ n) (hk : 0 < k) (root : ByteArray) (bad r : Int) (orig b : List Int) (a : Int) {e : ErrV} (he : errNil e = false) (out : List ObjT) :
    code_Load_l6 n k (((), root, (), bad, r, ()), (orig, (b, a, e, ()), out, ())) = some (.inl (((), root, (), bad, ()), (orig, (b, a, e, ()), out, ()))) ∧
    code_Load_2_l6 n k (((), root, (), bad, r, ()), ((b, a, e, ()), out, ())) = some (.inl (((), root, (), bad, ()), ((b, a, e, ()), out, ()))) := by
  obtain ⟨k, rfl⟩ : ∃ m, k = m + 1 := ⟨k - 1, by omega⟩
  refine ⟨?_, ?_⟩
  · simp only [code_Load_l6, Err_at hn, he]
    split <;> rfl
  · simp only [code_Load_2_l6, Err_at hn, he]
    split <;> rfl
theorem rising_at {N : SL} (h : Rising N) {i j : Nat} (hij : i < j) (hj : j < N.length) : strLt (N.getD i (Ty.dflt .str)) (N.getD j (Ty.dflt .str)) = true := by
  have := List.pairwise_iff_getElem.1 h i j (by omega) hj hij
  rw [List.getD_eq_getElem?_getD, List.getD_eq_getElem?_getD, List.getElem?_eq_getElem (show i < N.length by omega), List.getElem?_eq_getElem hj]
  exact this
theorem load_run {n : Nat} (hn : 9000 < n) {t : Option Nat} {b : List Int} (hb : b.length < 1000000000) {l : List ObjT} (hO : ∀ o ∈ l, OneOk o) {root : ByteArray} {N : SL} (hN : Names l root N) (hNl : N.length ≤ 8) (hF : ∀ s ∈ N, OFit (ob l s)) (r0 : ByteArray) (orig : List Int) {B : List Int} : ∀ (q i a : Nat), i + q = N.length → G t b a .nil ((N.drop i).flatMap (fun s => oE (ob l s)) ++ B) →
    ∃ (out : List ObjT) (bad : Int) (a' : Nat) (e' : ErrV), (∀ k, q + 1 < k → code_Load_l6 n k (((), r0, (), (-1), (q : Int), ()), (orig, (b, (a : Int), .nil, ()), (N.take i).map (ob l), ())) = some (.inl (((), r0, (), bad, ()), (orig, (b, (a' : Int), e', ()), out, ()))) ∧
      code_Load_2_l6 n k (((), r0, (), (-1), (q : Int), ()), ((b, (a : Int), .nil, ()), (N.take i).map (ob l), ())) = some (.inl (((), r0, (), bad, ()), ((b, (a' : Int), e', ()), out, ())))) ∧ G t b a' e' B ∧ (e' = .nil → out = N.map (ob l) ∧ bad = -1) := by
  intro q
  induction q with
  | zero =>
    intro i a hi g
    refine ⟨(N.take i).map (ob l), -1, a, .nil, fun k hk => ?_, ?_, fun _ => ⟨by rw [List.take_of_length_le (by omega)], rfl⟩⟩
    · obtain ⟨k, rfl⟩ : ∃ m, k = m + 1 := ⟨k - 1, by omega⟩
      refine ⟨?_, ?_⟩
      · simp only [code_Load_l6]
        rw [if_neg (by simp)]
      · simp only [code_Load_2_l6]
        rw [if_neg (by simp)]
    · rw [List.drop_of_length_le (by omega)] at g
      exact g
  | succ q ih =>
    intro i a hi g
    have hs := getD_mem N i (by omega) (Ty.dflt .str)
    have hdrop : N.drop i = N.getD i (Ty.dflt .str) :: N.drop (i + 1) := by
      rw [List.drop_eq_getElem_cons (show i < N.length by omega), List.getD_eq_getElem?_getD, List.getElem?_eq_getElem (show i < N.length by omega)]
      rfl
    have htake : N.take (i + 1) = N.take i ++ [N.getD i (Ty.dflt .str)] := take_succ N i (by omega) _
    have hup : ∀ j, j < i → strLt (N.getD j (Ty.dflt .str)) (N.getD i (Ty.dflt .str)) = true := fun j hj => rising_at hN.up hj (by omega)
    generalize hsd : N.getD i (Ty.dflt .str) = s at hs hdrop htake hup
    obtain ⟨hom, hon⟩ := ob_in (hN.k s hs)
    have hok := hO _ hom
    rw [hdrop, List.flatMap_cons, List.append_assoc] at g
    obtain ⟨y1, y2, y3, y4, y5, y6, y7, a1, e1, hC, g1, hv⟩ := codeobj_at (n := n) (by omega) hb hok.ok hok.gd (hF s hs) g
    have hlen : ((N.take i).map (ob l)).length = i := by simp; omega
    rcases errNil_cases e1 with rfl | ⟨he, hne⟩
    · obtain ⟨v1, v2, v3, v4, v5, v6, v7⟩ := hv rfl
      obtain ⟨out, bad, a', e', hR, g2, hv2⟩ := ih (i + 1) a1 (by omega) g1
      refine ⟨out, bad, a', e', fun k hk => ?_, g2, hv2⟩
      obtain ⟨k, rfl⟩ : ∃ m, k = m + 1 := ⟨k - 1, by omega⟩
      have hR := hR k (by omega)
      rw [htake, List.map_append] at hR
      have hone : [s].map (ob l) = [((y1, (y2, (y3, (y4, (y5, (y6, y7)))))) : ObjT)] := by
        rw [v1, v2, v3, v4, v5, v6, v7]
        rfl
      rw [hone] at hR
      have hw : IntKind.i64.wrap (((q + 1 : Nat) : Int) - 1) = (q : Int) := by rw [w64_id (by omega) (by omega)]; omega
      have hy : y1 = s := v1.trans hon
      have hlast : 0 < i → ∃ u : ObjT, rdT ty0 ((N.take i).map (ob l)) (IntKind.i64.wrap ((((N.take i).map (ob l)).length : Int) - 1)) = u ∧ (strLt y1 u.1 || strEq y1 u.1) = false := fun hi0 => by
        refine ⟨_, rfl, ?_⟩
        have hw2 : IntKind.i64.wrap ((((N.take i).map (ob l)).length : Int) - 1) = ((i - 1 : Nat) : Int) := by rw [hlen, w64_id (by omega) (by omega)]; omega
        rw [hw2, rdT_nat]
        have hg : ((N.take i).map (ob l)).getD (i - 1) (Ty.dflt ty0) = ob l (N.getD (i - 1) (Ty.dflt .str)) := by
          rw [List.getD_eq_getElem?_getD, List.getElem?_map, List.getElem?_take_of_lt (by omega), List.getD_eq_getElem?_getD, List.getElem?_eq_getElem (show i - 1 < N.length by omega)]
          rfl
        rw [hg]
        have hm := getD_mem N (i - 1) (by omega) (Ty.dflt .str)
        have hn2 := (ob_in (hN.k _ hm)).2
        have hu := hup (i - 1) (by omega)
        rw [hn2, hy, strLt_asym hu, strEq_iff]
        rw [Bool.false_or]
        refine decide_eq_false (fun h => ?_)
        rw [h, strLt_irr] at hu
        cases hu
      refine ⟨?_, ?_⟩
      · simp only [code_Load_l6, Err_at (show 1 ≤ n by omega), At_at (show 1 ≤ n by omega), hC]
        rw [if_pos (by simp <;> omega), if_pos (by decide), if_pos (by decide), if_pos (by decide)]
        by_cases hi0 : 0 < i
        · obtain ⟨u, hu, hlt⟩ := hlast hi0
          rw [if_pos (decide_eq_true (show (((N.take i).map (ob l)).length : Int) > 0 by omega)), hu, if_pos (by rw [hlen, w64_id (by omega) (by omega)]; exact ⟨by omega, by omega⟩), hlt, if_neg (by decide), if_pos (by simp only [List.length_cons, List.length_nil]; omega), hw]
          exact hR.1
        · rw [if_neg (by simp; omega), if_pos (by simp only [List.length_cons, List.length_nil]; omega), hw]
          exact hR.1
      · simp only [code_Load_2_l6, Err_at (show 1 ≤ n by omega), At_at (show 1 ≤ n by omega), hC]
        rw [if_pos (by simp <;> omega), if_pos (by decide), if_pos (by decide), if_pos (by decide)]
        by_cases hi0 : 0 < i
        · obtain ⟨u, hu, hlt⟩ := hlast hi0
          rw [if_pos (decide_eq_true (show (((N.take i).map (ob l)).length : Int) > 0 by omega)), hu, if_pos (by rw [hlen, w64_id (by omega) (by omega)]; exact ⟨by omega, by omega⟩), hlt, if_neg (by decide), if_pos (by simp only [List.length_cons, List.length_nil]; omega), hw]
          exact hR.2
        · rw [if_neg (by simp; omega), if_pos (by simp only [List.length_cons, List.length_nil]; omega), hw]
          exact hR.2
    · refine ⟨(N.take i).map (ob l) ++ [((y1, (y2, (y3, (y4, (y5, (y6, y7)))))) : ObjT)], -1, a1, e1, fun k hk => ?_, g1.bad he g1.1 he, fun h => absurd h hne⟩
      obtain ⟨k, rfl⟩ : ∃ m, k = m + 1 := ⟨k - 1, by omega⟩
      have hst := load_stop (n := n) (k := k) (by omega) (by omega) r0 (-1) (IntKind.i64.wrap (((q + 1 : Nat) : Int) - 1)) orig b (a1 : Int) he ((N.take i).map (ob l) ++ [((y1, (y2, (y3, (y4, (y5, (y6, y7)))))) : ObjT)])
      refine ⟨?_, ?_⟩
      · simp only [code_Load_l6, Err_at (show 1 ≤ n by omega), At_at (show 1 ≤ n by omega), hC]
        rw [if_pos (by simp <;> omega), if_pos (by decide), if_neg (by rw [he]; decide), if_pos (by simp only [List.length_cons, List.length_nil]; omega)]
        exact hst.1
      · simp only [code_Load_2_l6, Err_at (show 1 ≤ n by omega), At_at (show 1 ≤ n by omega), hC]
        rw [if_pos (by simp <;> omega), if_pos (by decide), if_neg (by rw [he]; decide), if_pos (by simp only [List.length_cons, List.length_nil]; omega)]
        exact hst.2
/-- The reading of a link: its head and its objects. -/
theorem load_body {n : Nat} (hn : 9000 < n) {t : Option Nat} {b : List Int} (hb : b.length < 1000000000) {l : List ObjT} (hO : ∀ o ∈ l, OneOk o) {root : ByteArray} (hr : root.size ≤ 60) {N : SL} (hN : Names l root N) (hNl : N.length ≤ 8) (hF : ∀ s ∈ N, OFit (ob l s)) (orig : List Int) {B : List Int} (g : G t b 0 .nil (linkE l root N ++ B)) :
    ∃ (r1 : ByteArray) (a1 : Nat) (e1 : ErrV) (v : Int) (a2 : Nat) (e2 : ErrV) (r2 : ByteArray) (out : List ObjT) (bad : Int) (a' : Nat) (e' : ErrV),
      wire_Reader_Text n (((), 200, ()), ((b, 0, .nil, ()), ())) = some ((r1, ()), ((b, (a1 : Int), e1, ()), ())) ∧
      wire_Reader_Num n (((), 0, 512, ()), ((b, (a1 : Int), e1, ()), ())) = some ((v, ()), ((b, (a2 : Int), e2, ()), ())) ∧
      code_Load_l6 n n (((), r1, (), (-1), v, ()), (orig, (b, (a2 : Int), e2, ()), [], ())) = some (.inl (((), r2, (), bad, ()), (orig, (b, (a' : Int), e', ()), out, ()))) ∧
      code_Load_2_l6 n n (((), r1, (), (-1), v, ()), ((b, (a2 : Int), e2, ()), [], ())) = some (.inl (((), r2, (), bad, ()), ((b, (a' : Int), e', ()), out, ()))) ∧
      G t b a' e' B ∧ (e' = .nil → r2 = root ∧ out = N.map (ob l) ∧ bad = -1) := by
  rw [linkE, List.append_assoc, List.append_assoc] at g
  obtain ⟨r1, a1, e1, h1, g1, v1⟩ := Text_at (n := n) (by omega) hb (most := 200) (by omega) (by omega) g
  obtain ⟨v, a2, e2, h2, g2, v2⟩ := Num_at (n := n) (by omega) hb (lo := 0) (hi := 512) ⟨by omega, by omega⟩ (by omega) (by omega) g1
  rcases errNil_cases e2 with rfl | ⟨he, hne⟩
  · obtain ⟨q1, rfl⟩ := v2 rfl
    obtain ⟨-, rfl⟩ := v1 q1
    obtain ⟨out, bad, a', e', hR, g3, v3⟩ := load_run (n := n) hn hb hO hN hNl hF r1 orig (B := B) N.length 0 a2 (by omega) (by rw [List.drop_zero]; exact g2)
    have hR := hR n (by omega)
    exact ⟨r1, a1, e1, _, a2, .nil, r1, out, bad, a', e', h1, h2, hR.1, hR.2, g3, fun h => ⟨rfl, v3 h⟩⟩
  · have hst := load_stop (n := n) (k := n) (by omega) (by omega) r1 (-1) v orig b (a2 : Int) he []
    exact ⟨r1, a1, e1, v, a2, e2, r1, [], -1, a2, e2, h1, h2, hst.1, hst.2, g2.bad he g2.1 he, fun h => absurd h hne⟩
theorem new_at {n : Nat} (hn : 2 ≤ n) (b : List Int) (hb : b.length < 1000000000) : wire_NewReader n (((), ()), (b, ())) = some (((), ()), (b, (b, 0, ErrV.nil, ()), ())) := by
  obtain ⟨n, rfl⟩ : ∃ m, n = m + 1 := ⟨n - 1, by omega⟩
  simp only [wire_NewReader]
  rw [clone_at (by omega) _ (by omega)]
theorem new2_at {n : Nat} (hn : 2 ≤ n) (b : List Int) (hb : b.length < 1000000000) : wire_NewReader_2 n ((b, ()), ()) = some (((), ()), ((b, 0, ErrV.nil, ()), ())) := by
  obtain ⟨n, rfl⟩ : ∃ m, n = m + 1 := ⟨n - 1, by omega⟩
  simp only [wire_NewReader_2]
  rw [clone_at (by omega) _ (by omega)]
theorem same_fault {n : Nat} (hn : 20 ≤ n) (m : Int) : pendulumsee_Same n ((.at_ m (.sent 102), (102, true, false, m, 0, ()), ()), ()) = some ((true, ()), ()) := by
  obtain ⟨n, rfl⟩ : ∃ q, n = q + 12 := ⟨n - 12, by omega⟩
  have h : pendulumsee_Fault (n + 11) ((.at_ m (.sent 102), ()), ()) = some (((102, true, false, m, 0, ()), ()), ()) := by kernel_rfl
  simp only [pendulumsee_Same, h, ref_SameFault]
  simp
end Go.Proofs.YthllmcijlhlimaaGreatDoor.Pure

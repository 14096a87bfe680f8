/- DepsFits, in plain words: how deep; what is asked of each. By this session. -/
import Derived.Test.YtkmeghmhgbbmhaaDoorDepsFitsC
namespace Go.Proofs.YtkmeghmhgbbmhaaDoor.Pure
open Go Go.Proofs.YtkmeghmhgbbmhaaDoor.Cm
open Classical
set_option linter.unusedVariables false
set_option maxRecDepth 100000
abbrev DM := List (ByteArray × Int)
def Bnd (d : DM) (B : Int) : Prop := ∀ s v, mfind (keyEq (.str : Ty)) s d = some v → 0 ≤ v ∧ v ≤ B
theorem Bnd.get {d : DM} {B : Int} (h : Bnd d B) (hB : 0 ≤ B) (s : ByteArray) : 0 ≤ (mfind (keyEq (.str : Ty)) s d).getD 0 ∧ (mfind (keyEq (.str : Ty)) s d).getD 0 ≤ B := by
  cases e : mfind (keyEq (.str : Ty)) s d with
  | none => exact ⟨Int.le_refl _, hB⟩
  | some v => exact h s v e
theorem Bnd.set {d : DM} {B B' : Int} (h : Bnd d B) (hB : B ≤ B') {k : ByteArray} {v : Int} (h0 : 0 ≤ v) (h1 : v ≤ B') : Bnd (mset (keyEq (.str : Ty)) k v d) B' := by
  intro s w hw
  rw [mfind_mset] at hw
  split at hw
  · obtain rfl := Option.some.inj hw; exact ⟨h0, h1⟩
  · have := h s w hw; exact ⟨this.1, by omega⟩
theorem mx_b {x y B : Int} (hx : 0 ≤ x ∧ x ≤ B) (hy : 0 ≤ y ∧ y ≤ B) : 0 ≤ mx x y ∧ mx x y ≤ B := by unfold mx; split <;> omega
theorem depth_in {n : Nat} {m : GM} {all us : SL} (root s : ByteArray) (x3 x4 B : Int) (hB : 0 ≤ B) (hl : us.length < 1000) :
    ∀ q k i (d : DM), i + q = us.length → q < k → Bnd d B → ∃ d', Bnd d' B ∧ deps_Graph_Depth_l9 n k (((), root, (), s, (), x3, x4, us, (us.length : Int), (i : Int), ()), (((), ()), m, d, all, ())) = some (.inl (((), root, (), s, (), x3, x4, ()), (((), ()), m, d', all, ()))) := by
  intro q
  induction q with
  | zero =>
    intro k i d hi hk hb
    obtain ⟨k, rfl⟩ : ∃ q, k = q + 1 := ⟨k - 1, by omega⟩
    exact ⟨d, hb, by rw [deps_Graph_Depth_l9, if_neg (by simp; omega)]⟩
  | succ q ih =>
    intro k i d hi hk hb
    obtain ⟨k, rfl⟩ : ∃ q, k = q + 1 := ⟨k - 1, by omega⟩
    have h1 := hb.get hB s
    have h2 := hb.get hB (List.getD us i (Ty.dflt .str))
    obtain ⟨d', h3, h4⟩ := ih k (i + 1) (mset (keyEq (.str : Ty)) s (mx ((mfind (keyEq (.str : Ty)) s d).getD 0) ((mfind (keyEq (.str : Ty)) (List.getD us i (Ty.dflt .str)) d).getD 0)) d) (by omega) (by omega) (hb.set (Int.le_refl _) (mx_b h1 h2).1 (mx_b h1 h2).2)
    refine ⟨d', h3, ?_⟩
    rw [deps_Graph_Depth_l9, if_pos (decide_eq_true (show (i : Int) < (us.length : Int) by omega)), if_pos (show (0 : Int) ≤ (i : Int) ∧ (i : Int) < (us.length : Int) by omega), w64_up i (by omega)]
    exact h4
theorem depth_out {n : Nat} {m : GM} {all : SL} (root : ByteArray) (hf : ∀ s ∈ all, (mget m s).length ≤ 20) (ha : all.length ≤ 20) (hn : 30 < n) :
    ∀ q k i (d : DM), i + q = all.length → q < k → Bnd d (i : Int) → ∃ d', Bnd d' (all.length : Int) ∧ deps_Graph_Depth_l6 n k (((), root, (), (), (all.length : Int), (i : Int), ()), (((), ()), m, d, all, ())) = some (.inl ((root, (), ()), (((), ()), m, d', ()))) := by
  intro q
  induction q with
  | zero =>
    intro k i d hi hk hb
    obtain ⟨k, rfl⟩ : ∃ q, k = q + 1 := ⟨k - 1, by omega⟩
    obtain rfl : i = all.length := by omega
    exact ⟨d, hb, by rw [deps_Graph_Depth_l6, if_neg (by simp)]⟩
  | succ q ih =>
    intro k i d hi hk hb
    obtain ⟨k, rfl⟩ : ∃ q, k = q + 1 := ⟨k - 1, by omega⟩
    have hfl := hf _ (getD_mem all i (by omega) ByteArray.empty)
    obtain ⟨d1, h1, h2⟩ := depth_in (n := n) (m := m) (all := all) (us := mget m (all.getD i ByteArray.empty)) root (all.getD i ByteArray.empty) (all.length : Int) (i : Int) (i : Int) (by omega) (by omega) (mget m (all.getD i ByteArray.empty)).length n 0 d (by omega) (by omega) hb
    have h3 := h1.get (by omega) (all.getD i ByteArray.empty)
    have hw : IntKind.i64.wrap ((mfind (keyEq (.str : Ty)) (all.getD i ByteArray.empty) d1).getD 0 + 1) = (mfind (keyEq (.str : Ty)) (all.getD i ByteArray.empty) d1).getD 0 + 1 := w64_id (by omega) (by omega)
    obtain ⟨d', h4, h5⟩ := ih k (i + 1) (mset (keyEq (.str : Ty)) (all.getD i ByteArray.empty) ((mfind (keyEq (.str : Ty)) (all.getD i ByteArray.empty) d1).getD 0 + 1) d1) (by omega) (by omega) (h1.set (by omega) (by omega) (by omega))
    refine ⟨d', h4, ?_⟩
    rw [deps_Graph_Depth_l6, if_pos (decide_eq_true (show (i : Int) < (all.length : Int) by omega)), if_pos (show (0 : Int) ≤ (i : Int) ∧ (i : Int) < (all.length : Int) by omega)]
    have h2' : deps_Graph_Depth_l9 n n (((), root, (), rdT (.str : Ty) all (i : Int), (), (all.length : Int), (i : Int), (mfind (keyEq (.str : Ty)) (rdT (.str : Ty) all (i : Int)) m).getD [], (((mfind (keyEq (.str : Ty)) (rdT (.str : Ty) all (i : Int)) m).getD []).length : Int), 0, ()), (((), ()), m, d, all, ())) = _ := h2
    dsimp only
    rw [h2']
    dsimp only
    rw [hw, w64_up i (by omega)]
    exact h5
theorem depth_at {n : Nat} {m : GM} {rank : ByteArray → Nat} {M : Nat} (U : Up m rank M) {root : ByteArray} (hr : root ∈ keys m) {out : SL} (hO : Order m root out) (hn : 700 < n) (hN : n < 1000000) :
    ∃ v : Int, v ≤ (out.length : Int) ∧ deps_Graph_Depth n (((), root, ()), (((), ()), m, ())) = some ((v, ()), (((), ()), m, ())) := by
  obtain ⟨n, rfl⟩ : ∃ q, n = q + 1 := ⟨n - 1, by omega⟩
  obtain ⟨out2, hO2, he⟩ := all_at (n := n) U hr (by omega) (by omega)
  have hM := U.M
  have hl := hO2.len
  obtain ⟨d', h1, h2⟩ := depth_out (n := n) (m := m) (all := out2) root (fun s hs => Nat.le_trans (U.few s (hO2.k s hs)) hM) hO2.len (by omega) out2.length n 0 [] (by omega) (by omega) (fun s v h => by simp [mfind] at h)
  have h3 := h1.get (by omega) root
  refine ⟨(mfind (keyEq (.str : Ty)) root d').getD 0, by rw [hO.same U hO2]; exact h3.2, ?_⟩
  rw [deps_Graph_Depth, he]
  show (if (!(errNil ErrV.nil)) = true then _ else _) = _
  rw [if_neg (by simp [errNil])]
  have h2' : deps_Graph_Depth_l6 n n (((), root, (), (), (out2.length : Int), 0, ()), (((), ()), m, [], out2, ())) = _ := h2
  rw [h2']
/-! ### what is asked of each -/
theorem cut0 {l : SL} (i : Nat) : cutL l 0 (i : Int) = l.take i := by simp [cutL]
theorem ask_in {n : Nat} {m : GM} {rank : ByteArray → Nat} {M : Nat} (U : Up m rank M) {all us : SL} {i : Nat} (hi : i < all.length) (ha : all.length ≤ 20) (hk : all.getD i ByteArray.empty ∈ keys m) (hus : ∀ u ∈ us, u ∈ all.take i ∧ u ∈ mget m (all.getD i ByteArray.empty)) (hn : 60 < n) (hN : n < 1000000) (hl : us.length ≤ 20) :
    ∀ q k j, j + q = us.length → q < k → law24_DepsFits_l29 n k (((), all, (i : Int), (), (j : Int), ()), (((), ()), us, m, ())) = some (.inl (((), all, (i : Int), ()), (((), ()), m, ()))) := by
  intro q
  induction q with
  | zero =>
    intro k j hj hk
    obtain ⟨k, rfl⟩ : ∃ q, k = q + 1 := ⟨k - 1, by omega⟩
    rw [law24_DepsFits_l29, if_neg (by simp; omega)]
  | succ q ih =>
    intro k j hj hk'
    obtain ⟨k, rfl⟩ : ∃ q, k = q + 1 := ⟨k - 1, by omega⟩
    have hu := hus _ (getD_mem us j (by omega) ByteArray.empty)
    have hlt : (all.take i).length + 1 < n := by rw [List.length_take]; omega
    rcases among_at (n := n) (l := all.take i) (us.getD j ByteArray.empty) hlt hN with ⟨_, j1, e1⟩ | ⟨h1, _⟩
    · obtain ⟨L, hL, hL2, e2⟩ := used_at (n := n) U (us.getD j ByteArray.empty) (by omega) hN
      rcases among2_at (n := n) (l := L) (all.getD i ByteArray.empty) (by omega) hN with ⟨_, j2, e3⟩ | ⟨h3, _⟩
      · rw [law24_DepsFits_l29, if_pos (decide_eq_true (show (j : Int) < (us.length : Int) by omega)), if_pos (show (0 : Int) ≤ (i : Int) ∧ (i : Int) ≤ (all.length : Int) by omega), if_pos (show (0 : Int) ≤ (j : Int) ∧ (j : Int) < (us.length : Int) by omega), cut0]
        have e1' : ref_Among n ((all.take i, rdT (.str : Ty) us (j : Int), ()), ()) = _ := e1
        have e2' : deps_Graph_Used n (((), rdT (.str : Ty) us (j : Int), ()), (((), ()), m, ())) = _ := e2
        have e3' : ref_Among_2 n (((), rdT (.str : Ty) all (i : Int), ()), (L, ())) = _ := e3
        rw [e1']
        dsimp only
        rw [if_neg (show ¬ decide ((j1 : Int) < 0) = true by simp), if_pos (show (0 : Int) ≤ (j : Int) ∧ (j : Int) < (us.length : Int) by omega), e2']
        dsimp only
        rw [if_pos (show (0 : Int) ≤ (i : Int) ∧ (i : Int) < (all.length : Int) by omega), e3']
        dsimp only
        rw [if_neg (show ¬ decide ((j2 : Int) < 0) = true by simp), w64_up j (by omega)]
        exact ih k (j + 1) (by omega) (by omega)
      · exact absurd (hL2 _ hk hu.2) h3
    · exact absurd hu.1 h1
theorem not_before {l : SL} (h : l.Nodup) {i : Nat} (hi : i < l.length) : l.getD i ByteArray.empty ∉ l.take i := by
  intro hm
  obtain ⟨j, hj, e⟩ := mem_getD.1 hm
  rw [List.length_take] at hj
  have hj' : j < l.length := by omega
  have e2 : l.getD j ByteArray.empty = l.getD i ByteArray.empty := by
    rw [← e]
    simp only [List.getD_eq_getElem?_getD, List.getElem?_take_of_lt (show j < i by omega)]
  rw [List.getD_eq_getElem?_getD, List.getD_eq_getElem?_getD, List.getElem?_eq_getElem hj', List.getElem?_eq_getElem hi] at e2
  simp only [Option.getD_some] at e2
  have := (List.getElem_inj h).1 e2
  omega
theorem ask_all {n : Nat} {m : GM} {rank : ByteArray → Nat} {M : Nat} (U : Up m rank M) {root : ByteArray} {all : SL} (hO : Order m root all) (hn : 60 < n) (hN : n < 1000000) :
    ∀ q k i, i + q = all.length → q < k → law24_DepsFits_l25 n k (((), all, (i : Int), ()), (((), ()), m, ())) = some (.inl (((), all, ()), (((), ()), m, ()))) := by
  intro q
  induction q with
  | zero =>
    intro k i hi hk
    obtain ⟨k, rfl⟩ : ∃ q, k = q + 1 := ⟨k - 1, by omega⟩
    rw [law24_DepsFits_l25, if_neg (by simp; omega)]
  | succ q ih =>
    intro k i hi hk
    obtain ⟨k, rfl⟩ : ∃ q, k = q + 1 := ⟨k - 1, by omega⟩
    have hil : i < all.length := by omega
    have hM := U.M
    have hal := hO.len
    have hk1 := hO.k _ (getD_mem all i hil ByteArray.empty)
    have hfl := Nat.le_trans (U.few _ hk1) hM
    have e1 := uses_at (n := n) (m := m) (all.getD i ByteArray.empty) hfl (by omega)
    have e1' : deps_Graph_Uses n (((), rdT (.str : Ty) all (i : Int), ()), (((), ()), m, ())) = _ := e1
    have e2 := ask_in (n := n) U (us := mget m (all.getD i ByteArray.empty)) hil hal hk1 (fun u hu => ⟨hO.behind i hil u hu, hu⟩) hn hN hfl (mget m (all.getD i ByteArray.empty)).length n 0 (by omega) (by omega)
    have e2' : law24_DepsFits_l29 n n (((), all, (i : Int), (), 0, ()), (((), ()), mget m (all.getD i ByteArray.empty), m, ())) = _ := e2
    rw [law24_DepsFits_l25, if_pos (decide_eq_true (show (i : Int) < (all.length : Int) by omega)), if_pos (show (0 : Int) ≤ (i : Int) ∧ (i : Int) < (all.length : Int) by omega), e1']
    dsimp only
    rw [e2']
    dsimp only
    rw [if_pos (show (0 : Int) ≤ (i : Int) ∧ (i : Int) ≤ (all.length : Int) by omega), if_pos (show (0 : Int) ≤ (i : Int) ∧ (i : Int) < (all.length : Int) by omega), cut0]
    have hlt : (all.take i).length + 1 < n := by rw [List.length_take]; omega
    rcases among_at (n := n) (l := all.take i) (all.getD i ByteArray.empty) hlt hN with ⟨h3, _⟩ | ⟨_, e3⟩
    · exact absurd h3 (not_before hO.nd hil)
    · have e3' : ref_Among n ((all.take i, rdT (.str : Ty) all (i : Int), ()), ()) = _ := e3
      rw [e3']
      dsimp only
      rw [if_neg (show ¬ decide ((-1 : Int) ≥ 0) = true by simp), w64_up i (by omega)]
      exact ih k (i + 1) (by omega) (by omega)
end Go.Proofs.YtkmeghmhgbbmhaaDoor.Pure

/- DiskPlays, in plain words. By this session. -/
import Derived.Test.YtgpoomkbkckbaaaDoorDiskPlaysW
import Derived.Test.YtgpoomkbkckbaaaDoorDiskPlaysX
namespace Go.Proofs.YtgpoomkbkckbaaaDoor.Pure
open Go Go.Proofs.YtgpoomkbkckbaaaDoor.Cm
set_option linter.unusedVariables false
set_option linter.unusedSimpArgs false
set_option maxRecDepth 100000
theorem first_at (x : law3_first_ins.T) : law3_first 400 x = some ((true, ()), ()) := by
  obtain ⟨⟨⟩, ⟨⟩⟩ := x
  kernel_rfl
theorem is0 : pendulumsee_Is 400 ((ErrV.nil, 0, ()), ()) = some ((true, ()), ()) := id (by kernel_rfl)
theorem is103 : pendulumsee_Is 400 ((ErrV.sent 103, 103, ()), ()) = some ((true, ()), ()) := id (by kernel_rfl)
theorem is104 : pendulumsee_Is 400 ((ErrV.sent 104, 104, ()), ()) = some ((true, ()), ()) := id (by kernel_rfl)
theorem is118 : pendulumsee_Is 400 ((ErrV.sent 118, 118, ()), ()) = some ((true, ()), ()) := id (by kernel_rfl)
theorem is119 : pendulumsee_Is 400 ((ErrV.sent 119, 119, ()), ()) = some ((true, ()), ()) := id (by kernel_rfl)
/-- The disk and the document's are alike. -/
structure Inv (i : Nat) (s c a : Int) (f p kept pend : M) : Prop where
  i0 : i ≤ 60
  s0 : 1 ≤ s ∧ s ≤ 16384
  c0 : 0 ≤ c ∧ c ≤ i
  a0 : 0 ≤ a ∧ a ≤ 9223372036854775807
  kf : KB s f
  kp : KB s p
  sf : Sim f kept
  sp : Sim p pend
  vf : VB f
  vp : VB p
  len : f.length + p.length ≤ i
theorem Inv.sec {i : Nat} {s c a : Int} {f p kept pend : M} (h : Inv i s c a f p kept pend) (k : Int) : sec f p k = Pure.sec kept pend k := by
  unfold Pure.sec
  rw [h.sf.find, h.sp.find]
theorem Inv.vlen {i : Nat} {s c a : Int} {f p kept pend : M} (h : Inv i s c a f p kept pend) (k : Int) : ((Pure.sec f p k).getD []).length ≤ 128 := by
  unfold Pure.sec
  cases h1 : mfind ki k p with
  | some v => exact h.vp.find h1
  | none =>
    cases h2 : mfind ki k f with
    | some v => exact h.vf.find h2
    | none => simp
theorem reads {i : Nat} {s c a : Int} {d : Bool} {f p kept pend : M} (h : Inv i s c a f p kept pend) {l : List ty1.T} {x2 : Int} :
    law3_DiskPlays_l35 400 400 ((l, (), (), x2, -1, ()), ((s, (), (), c, a, d, ()), (s, c, kept, pend, a, d, ()), f, p, ())) = some (.inl ((l, (), (), x2, ()), ((s, (), (), c, a, d, ()), (s, c, kept, pend, a, d, ()), f, p, ()))) := by
  have hs := h.s0
  have hi := h.i0
  have hl := h.len
  have hk1 := h.sf.1.length_eq
  have hk2 := h.sp.1.length_eq
  have hw : IntKind.i64.wrap (s + 1) = s + 1 := w64_id (by omega) (by omega)
  have hm : 0 ≤ mn (s + 1) 14 ∧ mn (s + 1) 14 ≤ 14 ∧ mn (s + 1) 14 ≤ s + 1 := by
    unfold mn
    split <;> omega
  have h := for_all (F := law3_DiskPlays_l35 400) (len := (mn (s + 1) 14 + 1).toNat) (fun j => ((l, (), (), x2, (j : Int) - 1, ()), ((s, (), (), c, a, d, ()), (s, c, kept, pend, a, d, ()), f, p, ()))) (r := some (.inl ((l, (), (), x2, ()), ((s, (), (), c, a, d, ()), (s, c, kept, pend, a, d, ()), f, p, ())))) (fun j k hj => by
    have e : IntKind.i64.wrap ((j : Int) - 1 + 1) = ((j + 1 : Nat) : Int) - 1 := by
      rw [w64_id (by omega) (by omega)]; omega
    simp only [law3_DiskPlays_l35, hw]
    rw [if_pos (decide_eq_true (show (j : Int) - 1 < mn (s + 1) 14 by omega))]
    cases d with
    | true =>
      rw [read_down (by omega), xread_down (by omega)]
      simp only []
      rw [same_at (by simp) (by simp)]
      simp only [Bool.not_true, Bool.false_eq_true, if_false, beq_self_eq_true]
      rw [is119]
      simp only [Bool.not_true, Bool.false_eq_true, if_false, e]
    | false =>
      by_cases hr : (j : Int) - 1 < 0 ∨ s ≤ (j : Int) - 1
      · rw [read_full (by omega) _ _ _ _ hr, xread_full (by omega) hr]
        simp only []
        rw [same_at (by simp) (by simp)]
        simp only [Bool.not_true, Bool.false_eq_true, if_false, beq_self_eq_true]
        rw [is118]
        simp only [Bool.not_true, Bool.false_eq_true, if_false, e]
      · have hv := h.vlen ((j : Int) - 1)
        rw [read_at (by omega) c a f p (by omega) (by omega) (by omega), xread_at (by omega) (by omega) (by omega) (by omega), h.sec]
        rw [h.sec] at hv
        simp only []
        rw [same_at (by omega) (by omega)]
        simp only [Bool.not_true, Bool.false_eq_true, if_false, beq_self_eq_true]
        rw [is0]
        simp only [Bool.not_true, Bool.false_eq_true, if_false, e]) (fun k => by
    simp only [law3_DiskPlays_l35, hw]
    rw [if_neg (by
      have : ¬ (((mn (s + 1) 14 + 1).toNat : Nat) : Int) - 1 < mn (s + 1) 14 := by omega
      simpa using this)]) (k := 400) (by omega)
  exact h
theorem step {i : Nat} {s c a : Int} {d : Bool} {f p kept pend : M} (h : Inv i s c a f p kept pend) (hi : i < 60) {l : List ty1.T} {x2 w K N : Int} {B Pk : List Int} (hN : -9223372036854775808 ≤ N ∧ N ≤ 9223372036854775807) {s2 c2 a2 : Int} {d2 : Bool} {f2 p2 : M} :
    ∃ c' a' d' f' p' kept' pend', law3_DiskPlays_c32 400 ((l, (), (), x2, (), (), w, ()), ((s, (), (), c, a, d, ()), (s, c, kept, pend, a, d, ()), (K, N, B, Pk, ()), (s2, (), (), c2, a2, d2, ()), f, p, f2, p2, ())) =
      some (.inl ((l, (), (), x2, (), w, ()), ((s, (), (), c', a', d', ()), (s, c', kept', pend', a', d', ()), (s2, (), (), c2, a2, d2, ()), f', p', f2, p2, ()))) ∧ Inv (i + 1) s c' a' f' p' kept' pend' := by
  have hs := h.s0
  have hc := h.c0
  have hl := h.len
  have hk1 := h.sf.1.length_eq
  have hk2 := h.sp.1.length_eq
  have har := ar_le (d := d) h.a0
  have same : Inv (i + 1) s c (ar d a) f p kept pend := { h with i0 := by omega, c0 := by omega, a0 := har, len := by omega }
  by_cases h1 : K = 1
  · cases hd : dn d a with
    | true =>
      refine ⟨c, ar d a, true, f, p, kept, pend, ?_, same⟩
      simp only [law3_DiskPlays_c32]
      rw [if_pos (by simpa using h1), write2_down (by omega) h.a0 hd, xwrite_down (by omega) h.a0 hd]
      simp only []
      rw [is119]
      simp only [Bool.not_true, Bool.false_eq_true, if_false]
    | false =>
      by_cases hr : N < 0 ∨ s ≤ N
      · refine ⟨c, ar d a, false, f, p, kept, pend, ?_, same⟩
        simp only [law3_DiskPlays_c32]
        rw [if_pos (by simpa using h1), write2_full (by omega) h.a0 hd hr, xwrite_full (by omega) h.a0 hd hr]
        simp only []
        rw [is118]
        simp only [Bool.not_true, Bool.false_eq_true, if_false]
      · by_cases hb : 128 < B.length
        · refine ⟨c, ar d a, false, f, p, kept, pend, ?_, same⟩
          simp only [law3_DiskPlays_c32]
          rw [if_pos (by simpa using h1), write2_many (by omega) h.a0 hd (by omega) (by omega) hb, xwrite_many (by omega) h.a0 hd (by omega) (by omega) hb]
          simp only []
          rw [is103]
          simp only [Bool.not_true, Bool.false_eq_true, if_false]
        · refine ⟨c + 1, ar d a, false, f, mset ki N B p, kept, insB (N, B) pend, ?_, { h with i0 := by omega, c0 := by omega, a0 := har, kp := h.kp.set (by omega) (by omega), sp := h.sp.ins N B, vp := h.vp.set (by omega), len := by have := mset_len N B p; omega }⟩
          simp only [law3_DiskPlays_c32]
          rw [if_pos (by simpa using h1), write2_ok (by omega) h.a0 hd (by omega) (by omega) (by omega) (by omega), xwrite_ok h.a0 hd (by omega) (by omega) (by omega) (by omega) h.sp.2 (by omega) (by omega)]
          simp only []
          rw [is0]
          simp only [Bool.not_true, Bool.false_eq_true, if_false]
  · by_cases h2 : K = 2
    · cases hd : dn d a with
      | true =>
        refine ⟨c, ar d a, true, f, p, kept, pend, ?_, same⟩
        simp only [law3_DiskPlays_c32]
        rw [if_neg (by simpa using h1), if_pos (by simpa using h2), flush_down h.a0 (by omega) hd, xflush_down (by omega) h.a0 hd]
        simp only []
        rw [is119]
        simp only [Bool.not_true, Bool.false_eq_true, if_false]
      | false =>
        refine ⟨c + 1, ar d a, false, mergeM f p, [], pend.foldl (fun l x => insB x l) kept, [], ?_, { h with i0 := by omega, c0 := by omega, a0 := har, kf := h.kf.merge h.kp, kp := KB.nil, sf := h.sf.merge h.sp, sp := Sim.nil, vf := h.vf.merge h.vp, vp := VB.nil, len := by have := merge_len f p; simp only [List.length_nil]; omega }⟩
        simp only [law3_DiskPlays_c32]
        rw [if_neg (by simpa using h1), if_pos (by simpa using h2), flush_ok h.a0 (by omega) hd (by omega) (by omega) h.kf h.kp (by omega), xflush_ok h.a0 hd (by omega) h.sf.2 (by omega) (by omega)]
        simp only []
        rw [is0]
        simp only [Bool.not_true, Bool.false_eq_true, if_false]
    · by_cases h3 : K = 3
      · have hx : 0 ≤ mx N 0 ∧ mx N 0 ≤ 9223372036854775807 := by
          unfold mx
          split <;> omega
        refine ⟨c, mx N 0, d, f, p, kept, pend, ?_, { h with i0 := by omega, c0 := by omega, a0 := hx, len := by omega }⟩
        simp only [law3_DiskPlays_c32]
        rw [if_neg (by simpa using h1), if_neg (by simpa using h2), if_pos (by simpa using h3)]
        simp only [disk_Disk_Arm, ref3_Disk_Arm_3]
      · refine ⟨c, 0, false, cgo f p (keys p) Pk p.length, [], xgo kept pend Pk pend.length, [], ?_, { h with i0 := by omega, c0 := by omega, a0 := by omega, kf := cgo_KB h.kf h.kp _ (Nat.le_refl _), kp := KB.nil, sf := by rw [hk2]; exact h.sf.crash h.sp Pk _ (Nat.le_refl _), sp := Sim.nil, vf := VB.cgo h.vf h.vp _, vp := VB.nil, len := by have := cgo_len f p (keys p) Pk p.length; simp only [List.length_nil]; omega }⟩
        simp only [law3_DiskPlays_c32]
        rw [if_neg (by simpa using h1), if_neg (by simpa using h2), if_neg (by simpa using h3), crash_at h.kp (by omega) (by omega) (by omega), xcrash_at h.sf.2 (by omega) (by omega)]
theorem dclone {s c a : Int} {d : Bool} {f p : M} : disk_Disk_Clone 400 (((), ()), ((s, (), (), c, a, d, ()), f, p, ())) = some (((), ()), ((s, (), (), c, a, d, ()), f, p, (s, (), (), c, a, d, ()), f, p, ())) := rfl
theorem main {s : Int} {l : List ty1.T} (hl : l.length ≤ 60) (hg : ∀ t ∈ l, (Lit.int .i64 t.2.1).wf = true) : ∀ (r k i : Nat) (c a : Int) (d : Bool) (f p kept pend : M), i + r = l.length → r < k → Inv i s c a f p kept pend →
    law3_DiskPlays_l13 400 k ((l, (), (), (i : Int), ()), ((s, (), (), c, a, d, ()), (s, c, kept, pend, a, d, ()), f, p, ())) = some (.inl ((), ())) ∨ law3_DiskPlays_l13 400 k ((l, (), (), (i : Int), ()), ((s, (), (), c, a, d, ()), (s, c, kept, pend, a, d, ()), f, p, ())) = some (.inr (.inl ((true, ()), ())))
  | 0, k, i, c, a, d, f, p, kept, pend, hi, hk, h => by
    obtain ⟨k, rfl⟩ : ∃ m, k = m + 1 := ⟨k - 1, by omega⟩
    left
    simp only [law3_DiskPlays_l13]
    rw [if_neg (by simp; omega)]
  | r + 1, k, i, c, a, d, f, p, kept, pend, hi, hk, h => by
    obtain ⟨k, rfl⟩ : ∃ m, k = m + 1 := ⟨k - 1, by omega⟩
    obtain ⟨t, ht⟩ : ∃ t, rdT ty1 l (i : Int) = t := ⟨_, rfl⟩
    have htm : t ∈ l := by
      rw [← ht, rdT_nat]
      exact getD_mem _ _ (by omega) _
    have hN := lit_i64 (hg t htm)
    obtain ⟨K, N, B, Pk⟩ := t
    simp only [law3_DiskPlays_l13, ht]
    rw [if_pos (decide_eq_true (show (i : Int) < (l.length : Int) by omega)), if_pos (show (0 : Int) ≤ (i : Int) ∧ (i : Int) < (l.length : Int) by omega)]
    by_cases hb : (B.length : Int) > 400
    · right
      rw [if_pos (decide_eq_true hb)]
    · by_cases hp : (Pk.length : Int) > 30
      · right
        rw [if_neg (by simpa using hb), if_pos (decide_eq_true hp)]
      · rw [if_neg (by simpa using hb), if_neg (by simpa using hp), dclone]
        simp only [disk_Disk_Calls]
        obtain ⟨c', a', d', f', p', kept', pend', e, h'⟩ := step (d := d) h (by omega) (l := l) (x2 := (i : Int)) (w := c) (K := K) (N := N) (B := B) (Pk := Pk) hN (s2 := s) (c2 := c) (a2 := a) (d2 := d) (f2 := f) (p2 := p)
        rw [e]
        simp only [disk_Disk_Sectors, disk_Disk_Pending, disk_Disk_Calls, disk_Disk_Down, bne_self_eq_false, Bool.false_eq_true, if_false, h'.sp.1.length_eq, beq_self_eq_true, Bool.not_true]
        rw [reads h']
        simp only [w64_up i (by omega)]
        exact main hl hg r k (i + 1) c' a' d' f' p' kept' pend' (by omega) (by omega) h'
theorem DiskPlays : law3_DiskPlays.Pure := by
  intro s l g0 g1
  refine ⟨400 + 1, ?_⟩
  change Int at s
  change List ty1.T at l
  simp only [law3_DiskPlays, first_at, Bool.not_true, Bool.false_eq_true, if_false]
  by_cases hl : (l.length : Int) > 60
  · rw [if_pos (decide_eq_true hl)]
  · rw [if_neg (by simpa using hl)]
    by_cases h1 : s < 1
    · have e1 : disk_New 400 ((s, ()), ()) = some (.inr ((((((), ()), (ErrV.sent 104, ()), ()), ()), ()))) := by simp only [disk_New]; rw [if_pos (decide_eq_true h1)]
      have e2 : ref3_New 400 ((s, ()), ()) = some (.inr ((((((), ()), (104, ()), ()), ()), ()))) := by simp only [ref3_New]; rw [if_pos (decide_eq_true h1)]
      rw [e1, e2]
      simp only []
      rw [is104]
      rfl
    · by_cases h2 : s > 16384
      · have e1 : disk_New 400 ((s, ()), ()) = some (.inr ((((((), ()), (ErrV.sent 104, ()), ()), ()), ()))) := by simp only [disk_New]; rw [if_neg (by simpa using h1), if_pos (decide_eq_true h2)]
        have e2 : ref3_New 400 ((s, ()), ()) = some (.inr ((((((), ()), (104, ()), ()), ()), ()))) := by simp only [ref3_New]; rw [if_neg (by simpa using h1), if_pos (decide_eq_true h2)]
        rw [e1, e2]
        simp only []
        rw [is104]
        rfl
      · have e1 : disk_New 400 ((s, ()), ()) = some (.inl (((((), ()), (ErrV.nil, ()), ()), ()), ((s, (), (), 0, 0, false, ()), [], [], ()))) := by simp only [disk_New]; rw [if_neg (by simpa using h1), if_neg (by simpa using h2)]
        have e2 : ref3_New 400 ((s, ()), ()) = some (.inl (((((), ()), (0, ()), ()), ()), ((s, 0, (), (), 0, false, ()), ()))) := by simp only [ref3_New]; rw [if_neg (by simpa using h1), if_neg (by simpa using h2)]
        rw [e1, e2]
        simp only []
        rw [is0]
        simp only [Bool.not_true, Bool.false_eq_true, if_false]
        have hm := main (s := s) (l := l) (by omega) (fun t ht => (g1.2 t ht).2.1) l.length 400 0 0 0 false [] [] [] [] (by omega) (by omega) ⟨by omega, by omega, by omega, by omega, KB.nil, KB.nil, Sim.nil, Sim.nil, VB.nil, VB.nil, by simp⟩
        rcases hm with hm | hm
        · have hm' : law3_DiskPlays_l13 400 400 ((l, (), (), 0, ()), ((s, (), (), 0, 0, false, ()), (s, 0, [], [], 0, false, ()), [], [], ())) = some (.inl ((), ())) := hm
          rw [hm']
        · have hm' : law3_DiskPlays_l13 400 400 ((l, (), (), 0, ()), ((s, (), (), 0, 0, false, ()), (s, 0, [], [], 0, false, ()), [], [], ())) = some (.inr (.inl ((true, ()), ()))) := hm
          rw [hm']
end Go.Proofs.YtgpoomkbkckbaaaDoor.Pure

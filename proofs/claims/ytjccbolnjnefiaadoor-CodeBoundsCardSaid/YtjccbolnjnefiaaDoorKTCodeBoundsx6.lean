/- By a program of this session (kprint.py) over the printer: functions of the code as plain Lean functions, and the walks that say so. -/
import Derived.Test.YtjccbolnjnefiaaDoorKTCodeBoundsx0
import Derived.Test.YtjccbolnjnefiaaDoorKTCodeBoundsx1
import Derived.Test.YtjccbolnjnefiaaDoorKTCodeBoundsx5
namespace Go.Proofs.YtjccbolnjnefiaaDoor.KTCodeBounds
open Go.RowKit Go.Proofs.YtjccbolnjnefiaaDoorW.PrintWords Go.Proofs.YtjccbolnjnefiaaDoorW.PrintLast Go.Proofs.YtjccbolnjnefiaaDoorW.PrintMore
attribute [local go_sem] max2_int min2_int max_two min_two max_three min_three max_four min_four   -- for this text's walks alone
set_option linter.unusedVariables false
set_option linter.unusedSimpArgs false

/-! ### pendulumref_Bare: function 21 -/
def pendulumref_Bare.f (a0 : Int) : Option (Int × Bool × Bool × Int × Int) := some (a0, false, false, 0, 0)
set_option maxHeartbeats 8000000 in
set_option maxRecDepth 100000 in
theorem pendulumref_Bare.calls [Sent] (a0 : Int) (r1 : Int) (r2 : Bool) (r3 : Bool) (r4 : Int) (r5 : Int) (w : World) (h : pendulumref_Bare.f a0 = some (r1, r2, r3, r4, r5)) :
    Calls Tryd.prog 21 #[.int .i64 a0] w fun e w' => e = .returned (.agg #[.int .i64 r1, .bool r2, .bool r3, .int .i64 r4, .int .i64 r5]) ∧ Below w.heap.size w w' := by
  have hu57 := Tryd.underlying57
  have HB := Aside0.mk (Below.refl w.heap.size w)
  have H : (some (a0, false, false, 0, 0)) = some (r1, r2, r3, r4, r5) := h
  clear h
  simp only [Option.some.injEq, Prod.mk.injEq] at H
  obtain ⟨rfl, rfl, rfl, rfl, rfl⟩ := H
  go_enter Tryd.func21, Tryd.ntmps21
  go_wp2_with (first | ((with_reducible refine gate_dst (N := 2) rfl ?_); refine box_event ?hg (N := 2) ?hd (cs := #[.int .i64 0, .bool false, .bool false, .int .i64 0, .int .i64 0]) (t := 57) ?hr ?_; (case hd => rfl); (case hg => rfl); (case hr => first | (go_simp; done) | (go_simp; rfl)); intro gb267 hg w2 hbox hb; have n0_ := Aside0.mk (below_step (by repeat (first | (with_reducible first | exact HB.out | apply below_alloc | apply pw_below_drewN | apply below_drew1) | exact HB.out)) hb); have n1_ := Aside0.mk (hbox); have n2_ := Aside0.mk ((by rw [hg]; exact (below_size (by repeat (first | (with_reducible first | exact HB.out | apply below_alloc | apply pw_below_drewN | apply below_drew1) | exact HB.out))) : w.heap.size ≤ gb267)); have n3_ := Aside0.mk ((by rw [hg]; exact (below_size (by repeat (first | (with_reducible first | exact HB.out | apply below_alloc | apply pw_below_drewN | apply below_drew1) | exact HB.out))) : w.heap.size ≤ gb267)); clear HB; have HB := n0_; have BK267 := n1_; have GW267 := n2_; have GE267 := n3_; clear n0_ n1_ n2_ n3_; clear hb hbox hg; have hcz3_0 : w2.cell? ⟨gb267, 0, none⟩ = some (.int .i64 0) := (blk_cell BK267.out 0).trans rfl; have hcz3_1 : w2.cell? ⟨gb267, 1, none⟩ = some (.bool false) := (blk_cell BK267.out 1).trans rfl; have hcz3_2 : w2.cell? ⟨gb267, 2, none⟩ = some (.bool false) := (blk_cell BK267.out 2).trans rfl; have hcz3_3 : w2.cell? ⟨gb267, 3, none⟩ = some (.int .i64 0) := (blk_cell BK267.out 3).trans rfl; have hcz3_4 : w2.cell? ⟨gb267, 4, none⟩ = some (.int .i64 0) := (blk_cell BK267.out 4).trans rfl; have hfz3_0 := blk_frozen BK267.out 0; have hfz3_1 := blk_frozen BK267.out 1; have hfz3_2 := blk_frozen BK267.out 2; have hfz3_3 := blk_frozen BK267.out 3; have hfz3_4 := blk_frozen BK267.out 4))
  refine bodyPost_ret (results_cell_row rfl _ _ gb267 57 #[.int .i64 a0, .bool false, .bool false, .int .i64 0, .int .i64 0] (0, 0) _ rfl (by (with_reducible repeat (first | refine blk_drewN ?_ _ | refine blk_drew ?_ | refine blk_alloc ?_ _)); refine blk_put (cs := #[.int .i64 a0, .bool false, .bool false, .int .i64 0, .int .i64 0]) ?_ 4 _ rfl; (with_reducible repeat (first | refine blk_drewN ?_ _ | refine blk_drew ?_ | refine blk_alloc ?_ _)); refine blk_put (cs := #[.int .i64 a0, .bool false, .bool false, .int .i64 0, .int .i64 0]) ?_ 3 _ rfl; (with_reducible repeat (first | refine blk_drewN ?_ _ | refine blk_drew ?_ | refine blk_alloc ?_ _)); refine blk_put (cs := #[.int .i64 a0, .bool false, .bool false, .int .i64 0, .int .i64 0]) ?_ 2 _ rfl; (with_reducible repeat (first | refine blk_drewN ?_ _ | refine blk_drew ?_ | refine blk_alloc ?_ _)); refine blk_put (cs := #[.int .i64 a0, .bool false, .bool false, .int .i64 0, .int .i64 0]) ?_ 1 _ rfl; (with_reducible repeat (first | refine blk_drewN ?_ _ | refine blk_drew ?_ | refine blk_alloc ?_ _)); refine blk_put (cs := #[.int .i64 0, .bool false, .bool false, .int .i64 0, .int .i64 0]) ?_ 0 _ rfl; (with_reducible repeat (first | refine blk_drewN ?_ _ | refine blk_drew ?_ | refine blk_alloc ?_ _)); exact BK267.out) Tryd.underlying57 rfl (by kernel_rfl)) rfl ?_
  exact ⟨by first | rfl | (simp [errW_none, errW_some] <;> rfl) | (simp [*, errW_none, errW_some] <;> rfl), by repeat (first | (with_reducible first | exact HB.out | apply below_alloc | apply pw_below_drewN | apply below_drew1 | refine below_set ?_ GE267.out) | exact HB.out)⟩

/-! ### pendulumref_SameFault: function 42 -/
def pendulumref_SameFault.f (a0_0 : Int) (a0_1 : Bool) (a0_2 : Bool) (a0_3 : Int) (a0_4 : Int) (a1_0 : Int) (a1_1 : Bool) (a1_2 : Bool) (a1_3 : Int) (a1_4 : Int) : Option (Bool) := if a0_0 = a1_0 then (if (a0_1 == a1_1) = true then (if a0_3 = a1_3 then (if (a0_2 == a1_2) = true then (some (a0_4 == a1_4)) else (some false)) else (some false)) else (some false)) else (some false)
set_option maxHeartbeats 8000000 in
set_option maxRecDepth 100000 in
theorem pendulumref_SameFault.calls [Sent] (a0_0 : Int) (a0_1 : Bool) (a0_2 : Bool) (a0_3 : Int) (a0_4 : Int) (a1_0 : Int) (a1_1 : Bool) (a1_2 : Bool) (a1_3 : Int) (a1_4 : Int) (r : Bool) (w : World) (h : pendulumref_SameFault.f a0_0 a0_1 a0_2 a0_3 a0_4 a1_0 a1_1 a1_2 a1_3 a1_4 = some r) :
    Calls Tryd.prog 42 #[.agg #[.int .i64 a0_0, .bool a0_1, .bool a0_2, .int .i64 a0_3, .int .i64 a0_4], .agg #[.int .i64 a1_0, .bool a1_1, .bool a1_2, .int .i64 a1_3, .int .i64 a1_4]] w fun e w' => e = .returned (.bool r) ∧ Below w.heap.size w w' := by
  have hu57 := Tryd.underlying57
  have HB := Aside0.mk (Below.refl w.heap.size w)
  have H : (if a0_0 = a1_0 then (if (a0_1 == a1_1) = true then (if a0_3 = a1_3 then (if (a0_2 == a1_2) = true then (some (a0_4 == a1_4)) else (some false)) else (some false)) else (some false)) else (some false)) = some r := h
  clear h
  by_cases c3 : a0_0 = a1_0
  · rw [if_pos c3] at H
    have c3b0 : (a0_0 == a1_0) = true := beq_iff_eq.mpr c3
    have c3b1 : (a0_0 != a1_0) = false := bne_eq_false_iff_eq.mpr c3
    clear c3
    by_cases c4 : (a0_1 == a1_1) = true
    · rw [if_pos c4] at H
      have c4b0 : (a0_1 == a1_1) = true := c4
      (try (have c4b1 : decide (a0_1 = a1_1) = true := by simpa using c4))
      (try (have c4b2 : (a0_1 == a1_1) = true := by simpa using c4))
      clear c4
      by_cases c5 : a0_3 = a1_3
      · rw [if_pos c5] at H
        have c5b0 : (a0_3 == a1_3) = true := beq_iff_eq.mpr c5
        have c5b1 : (a0_3 != a1_3) = false := bne_eq_false_iff_eq.mpr c5
        clear c5
        by_cases c6 : (a0_2 == a1_2) = true
        · rw [if_pos c6] at H
          have c6b0 : (a0_2 == a1_2) = true := c6
          (try (have c6b1 : decide (a0_2 = a1_2) = true := by simpa using c6))
          (try (have c6b2 : (a0_2 == a1_2) = true := by simpa using c6))
          clear c6
          obtain rfl := Option.some.inj H
          simp only [Option.some.injEq, Prod.mk.injEq] at H
          obtain ⟨rfl⟩ := H
          go_enter Tryd.func42, Tryd.ntmps42
          go_wp2_with (first | ((with_reducible refine gate_dst (N := 2) rfl ?_); refine box_event ?hg (N := 2) ?hd (cs := #[.int .i64 a0_0, .bool a0_1, .bool a0_2, .int .i64 a0_3, .int .i64 a0_4]) (t := 57) ?hr ?_; (case hd => rfl); (case hg => rfl); (case hr => first | (go_simp; done) | (go_simp; rfl)); intro gb268 hg w7 hbox hb; have n0_ := Aside0.mk (below_step (by repeat (first | (with_reducible first | exact HB.out | apply below_alloc | apply pw_below_drewN | apply below_drew1) | exact HB.out)) hb); have n1_ := Aside0.mk (hbox); have n2_ := Aside0.mk ((by rw [hg]; exact (below_size (by repeat (first | (with_reducible first | exact HB.out | apply below_alloc | apply pw_below_drewN | apply below_drew1) | exact HB.out))) : w.heap.size ≤ gb268)); have n3_ := Aside0.mk ((by rw [hg]; exact (below_size (by repeat (first | (with_reducible first | exact HB.out | apply below_alloc | apply pw_below_drewN | apply below_drew1) | exact HB.out))) : w.heap.size ≤ gb268)); clear HB; have HB := n0_; have BK268 := n1_; have GW268 := n2_; have GE268 := n3_; clear n0_ n1_ n2_ n3_; clear hb hbox hg) | ((with_reducible refine gate_dst (N := 3) rfl ?_); refine box_event ?hg (N := 3) ?hd (cs := #[.int .i64 a1_0, .bool a1_1, .bool a1_2, .int .i64 a1_3, .int .i64 a1_4]) (t := 57) ?hr ?_; (case hd => rfl); (case hg => rfl); (case hr => first | (go_simp; done) | (go_simp; rfl)); intro gb269 hg w8 hbox hb; have n0_ := Aside0.mk (blk_below (g := gb268) (o := .cells #[.int .i64 a0_0, .bool a0_1, .bool a0_2, .int .i64 a0_3, .int .i64 a0_4] 57 (0, 0)) (by (with_reducible repeat (first | refine blk_drewN ?_ _ | refine blk_drew ?_ | refine blk_alloc ?_ _)); exact BK268.out) hb); have n1_ := Aside0.mk (below_step (by repeat (first | (with_reducible first | exact HB.out | apply below_alloc | apply pw_below_drewN | apply below_drew1 | refine below_set ?_ GE268.out) | exact HB.out)) hb); have n2_ := Aside0.mk (hbox); have n3_ := Aside0.mk ((by rw [hg]; exact (below_size (by repeat (first | (with_reducible first | exact HB.out | apply below_alloc | apply pw_below_drewN | apply below_drew1 | refine below_set ?_ GE268.out) | exact HB.out))) : w.heap.size ≤ gb269)); have n4_ := Aside0.mk ((by rw [hg]; exact (below_size (by repeat (first | (with_reducible first | exact HB.out | apply below_alloc | apply pw_below_drewN | apply below_drew1 | refine below_set ?_ GE268.out) | exact HB.out))) : w.heap.size ≤ gb269)); have n5_ := Aside0.mk ((by rw [hg]; exact Nat.ne_of_lt (blk_lt (g := gb268) (o := .cells #[.int .i64 a0_0, .bool a0_1, .bool a0_2, .int .i64 a0_3, .int .i64 a0_4] 57 (0, 0)) (by (with_reducible repeat (first | refine blk_drewN ?_ _ | refine blk_drew ?_ | refine blk_alloc ?_ _)); exact BK268.out)) : gb268 ≠ gb269)); have n6_ := Aside0.mk ((by rw [hg]; exact Nat.ne_of_gt (blk_lt (g := gb268) (o := .cells #[.int .i64 a0_0, .bool a0_1, .bool a0_2, .int .i64 a0_3, .int .i64 a0_4] 57 (0, 0)) (by (with_reducible repeat (first | refine blk_drewN ?_ _ | refine blk_drew ?_ | refine blk_alloc ?_ _)); exact BK268.out)) : gb269 ≠ gb268)); clear BK268; clear HB; have BK268 := n0_; have HB := n1_; have BK269 := n2_; have GW269 := n3_; have GE269 := n4_; have NB268_269 := n5_; have NB269_268 := n6_; clear n0_ n1_ n2_ n3_ n4_ n5_ n6_; clear hb hbox hg; have hnb9 := NB268_269.out; have hnc9 := NB269_268.out; have hcz10_0 : w8.cell? ⟨gb268, 0, none⟩ = some (.int .i64 a0_0) := (blk_cell BK268.out 0).trans rfl; have hcz10_1 : w8.cell? ⟨gb268, 1, none⟩ = some (.bool a0_1) := (blk_cell BK268.out 1).trans rfl; have hcz10_2 : w8.cell? ⟨gb268, 2, none⟩ = some (.bool a0_2) := (blk_cell BK268.out 2).trans rfl; have hcz10_3 : w8.cell? ⟨gb268, 3, none⟩ = some (.int .i64 a0_3) := (blk_cell BK268.out 3).trans rfl; have hcz10_4 : w8.cell? ⟨gb268, 4, none⟩ = some (.int .i64 a0_4) := (blk_cell BK268.out 4).trans rfl; have hfz10_0 := blk_frozen BK268.out 0; have hfz10_1 := blk_frozen BK268.out 1; have hfz10_2 := blk_frozen BK268.out 2; have hfz10_3 := blk_frozen BK268.out 3; have hfz10_4 := blk_frozen BK268.out 4; have hcz11_0 : w8.cell? ⟨gb269, 0, none⟩ = some (.int .i64 a1_0) := (blk_cell BK269.out 0).trans rfl; have hcz11_1 : w8.cell? ⟨gb269, 1, none⟩ = some (.bool a1_1) := (blk_cell BK269.out 1).trans rfl; have hcz11_2 : w8.cell? ⟨gb269, 2, none⟩ = some (.bool a1_2) := (blk_cell BK269.out 2).trans rfl; have hcz11_3 : w8.cell? ⟨gb269, 3, none⟩ = some (.int .i64 a1_3) := (blk_cell BK269.out 3).trans rfl; have hcz11_4 : w8.cell? ⟨gb269, 4, none⟩ = some (.int .i64 a1_4) := (blk_cell BK269.out 4).trans rfl; have hfz11_0 := blk_frozen BK269.out 0; have hfz11_1 := blk_frozen BK269.out 1; have hfz11_2 := blk_frozen BK269.out 2; have hfz11_3 := blk_frozen BK269.out 3; have hfz11_4 := blk_frozen BK269.out 4))
          go_ret
          exact ⟨by first | rfl | (simp [errW_none, errW_some] <;> rfl) | (simp [*, errW_none, errW_some] <;> rfl), by repeat (first | (with_reducible first | exact HB.out | apply below_alloc | apply pw_below_drewN | apply below_drew1 | refine below_set ?_ GE268.out | refine below_set ?_ GE269.out) | exact HB.out)⟩
        · rw [if_neg c6] at H
          have c6b0 : (a0_2 == a1_2) = false := by simpa using c6
          (try (have c6b1 : decide (a0_2 = a1_2) = false := by simpa using c6))
          (try (have c6b2 : (a0_2 == a1_2) = false := by simpa using c6))
          (try (have c6b3 : ¬ (a0_2 = a1_2) := by simpa using c6))
          clear c6
          obtain rfl := Option.some.inj H
          simp only [Option.some.injEq, Prod.mk.injEq] at H
          obtain ⟨rfl⟩ := H
          go_enter Tryd.func42, Tryd.ntmps42
          go_wp2_with (first | ((with_reducible refine gate_dst (N := 2) rfl ?_); refine box_event ?hg (N := 2) ?hd (cs := #[.int .i64 a0_0, .bool a0_1, .bool a0_2, .int .i64 a0_3, .int .i64 a0_4]) (t := 57) ?hr ?_; (case hd => rfl); (case hg => rfl); (case hr => first | (go_simp; done) | (go_simp; rfl)); intro gb268 hg w12 hbox hb; have n0_ := Aside0.mk (below_step (by repeat (first | (with_reducible first | exact HB.out | apply below_alloc | apply pw_below_drewN | apply below_drew1) | exact HB.out)) hb); have n1_ := Aside0.mk (hbox); have n2_ := Aside0.mk ((by rw [hg]; exact (below_size (by repeat (first | (with_reducible first | exact HB.out | apply below_alloc | apply pw_below_drewN | apply below_drew1) | exact HB.out))) : w.heap.size ≤ gb268)); have n3_ := Aside0.mk ((by rw [hg]; exact (below_size (by repeat (first | (with_reducible first | exact HB.out | apply below_alloc | apply pw_below_drewN | apply below_drew1) | exact HB.out))) : w.heap.size ≤ gb268)); clear HB; have HB := n0_; have BK268 := n1_; have GW268 := n2_; have GE268 := n3_; clear n0_ n1_ n2_ n3_; clear hb hbox hg) | ((with_reducible refine gate_dst (N := 3) rfl ?_); refine box_event ?hg (N := 3) ?hd (cs := #[.int .i64 a1_0, .bool a1_1, .bool a1_2, .int .i64 a1_3, .int .i64 a1_4]) (t := 57) ?hr ?_; (case hd => rfl); (case hg => rfl); (case hr => first | (go_simp; done) | (go_simp; rfl)); intro gb269 hg w13 hbox hb; have n0_ := Aside0.mk (blk_below (g := gb268) (o := .cells #[.int .i64 a0_0, .bool a0_1, .bool a0_2, .int .i64 a0_3, .int .i64 a0_4] 57 (0, 0)) (by (with_reducible repeat (first | refine blk_drewN ?_ _ | refine blk_drew ?_ | refine blk_alloc ?_ _)); exact BK268.out) hb); have n1_ := Aside0.mk (below_step (by repeat (first | (with_reducible first | exact HB.out | apply below_alloc | apply pw_below_drewN | apply below_drew1 | refine below_set ?_ GE268.out) | exact HB.out)) hb); have n2_ := Aside0.mk (hbox); have n3_ := Aside0.mk ((by rw [hg]; exact (below_size (by repeat (first | (with_reducible first | exact HB.out | apply below_alloc | apply pw_below_drewN | apply below_drew1 | refine below_set ?_ GE268.out) | exact HB.out))) : w.heap.size ≤ gb269)); have n4_ := Aside0.mk ((by rw [hg]; exact (below_size (by repeat (first | (with_reducible first | exact HB.out | apply below_alloc | apply pw_below_drewN | apply below_drew1 | refine below_set ?_ GE268.out) | exact HB.out))) : w.heap.size ≤ gb269)); have n5_ := Aside0.mk ((by rw [hg]; exact Nat.ne_of_lt (blk_lt (g := gb268) (o := .cells #[.int .i64 a0_0, .bool a0_1, .bool a0_2, .int .i64 a0_3, .int .i64 a0_4] 57 (0, 0)) (by (with_reducible repeat (first | refine blk_drewN ?_ _ | refine blk_drew ?_ | refine blk_alloc ?_ _)); exact BK268.out)) : gb268 ≠ gb269)); have n6_ := Aside0.mk ((by rw [hg]; exact Nat.ne_of_gt (blk_lt (g := gb268) (o := .cells #[.int .i64 a0_0, .bool a0_1, .bool a0_2, .int .i64 a0_3, .int .i64 a0_4] 57 (0, 0)) (by (with_reducible repeat (first | refine blk_drewN ?_ _ | refine blk_drew ?_ | refine blk_alloc ?_ _)); exact BK268.out)) : gb269 ≠ gb268)); clear BK268; clear HB; have BK268 := n0_; have HB := n1_; have BK269 := n2_; have GW269 := n3_; have GE269 := n4_; have NB268_269 := n5_; have NB269_268 := n6_; clear n0_ n1_ n2_ n3_ n4_ n5_ n6_; clear hb hbox hg; have hnb14 := NB268_269.out; have hnc14 := NB269_268.out; have hcz15_0 : w13.cell? ⟨gb268, 0, none⟩ = some (.int .i64 a0_0) := (blk_cell BK268.out 0).trans rfl; have hcz15_1 : w13.cell? ⟨gb268, 1, none⟩ = some (.bool a0_1) := (blk_cell BK268.out 1).trans rfl; have hcz15_2 : w13.cell? ⟨gb268, 2, none⟩ = some (.bool a0_2) := (blk_cell BK268.out 2).trans rfl; have hcz15_3 : w13.cell? ⟨gb268, 3, none⟩ = some (.int .i64 a0_3) := (blk_cell BK268.out 3).trans rfl; have hcz15_4 : w13.cell? ⟨gb268, 4, none⟩ = some (.int .i64 a0_4) := (blk_cell BK268.out 4).trans rfl; have hfz15_0 := blk_frozen BK268.out 0; have hfz15_1 := blk_frozen BK268.out 1; have hfz15_2 := blk_frozen BK268.out 2; have hfz15_3 := blk_frozen BK268.out 3; have hfz15_4 := blk_frozen BK268.out 4; have hcz16_0 : w13.cell? ⟨gb269, 0, none⟩ = some (.int .i64 a1_0) := (blk_cell BK269.out 0).trans rfl; have hcz16_1 : w13.cell? ⟨gb269, 1, none⟩ = some (.bool a1_1) := (blk_cell BK269.out 1).trans rfl; have hcz16_2 : w13.cell? ⟨gb269, 2, none⟩ = some (.bool a1_2) := (blk_cell BK269.out 2).trans rfl; have hcz16_3 : w13.cell? ⟨gb269, 3, none⟩ = some (.int .i64 a1_3) := (blk_cell BK269.out 3).trans rfl; have hcz16_4 : w13.cell? ⟨gb269, 4, none⟩ = some (.int .i64 a1_4) := (blk_cell BK269.out 4).trans rfl; have hfz16_0 := blk_frozen BK269.out 0; have hfz16_1 := blk_frozen BK269.out 1; have hfz16_2 := blk_frozen BK269.out 2; have hfz16_3 := blk_frozen BK269.out 3; have hfz16_4 := blk_frozen BK269.out 4))
          go_ret
          exact ⟨by first | rfl | (simp [errW_none, errW_some] <;> rfl) | (simp [*, errW_none, errW_some] <;> rfl), by repeat (first | (with_reducible first | exact HB.out | apply below_alloc | apply pw_below_drewN | apply below_drew1 | refine below_set ?_ GE268.out | refine below_set ?_ GE269.out) | exact HB.out)⟩
      · rw [if_neg c5] at H
        have c5b0 : (a0_3 == a1_3) = false := beq_eq_false_iff_ne.mpr c5
        have c5b1 : (a0_3 != a1_3) = true := bne_iff_ne.mpr c5
        obtain rfl := Option.some.inj H
        simp only [Option.some.injEq, Prod.mk.injEq] at H
        obtain ⟨rfl⟩ := H
        go_enter Tryd.func42, Tryd.ntmps42
        go_wp2_with (first | ((with_reducible refine gate_dst (N := 2) rfl ?_); refine box_event ?hg (N := 2) ?hd (cs := #[.int .i64 a0_0, .bool a0_1, .bool a0_2, .int .i64 a0_3, .int .i64 a0_4]) (t := 57) ?hr ?_; (case hd => rfl); (case hg => rfl); (case hr => first | (go_simp; done) | (go_simp; rfl)); intro gb268 hg w17 hbox hb; have n0_ := Aside0.mk (below_step (by repeat (first | (with_reducible first | exact HB.out | apply below_alloc | apply pw_below_drewN | apply below_drew1) | exact HB.out)) hb); have n1_ := Aside0.mk (hbox); have n2_ := Aside0.mk ((by rw [hg]; exact (below_size (by repeat (first | (with_reducible first | exact HB.out | apply below_alloc | apply pw_below_drewN | apply below_drew1) | exact HB.out))) : w.heap.size ≤ gb268)); have n3_ := Aside0.mk ((by rw [hg]; exact (below_size (by repeat (first | (with_reducible first | exact HB.out | apply below_alloc | apply pw_below_drewN | apply below_drew1) | exact HB.out))) : w.heap.size ≤ gb268)); clear HB; have HB := n0_; have BK268 := n1_; have GW268 := n2_; have GE268 := n3_; clear n0_ n1_ n2_ n3_; clear hb hbox hg) | ((with_reducible refine gate_dst (N := 3) rfl ?_); refine box_event ?hg (N := 3) ?hd (cs := #[.int .i64 a1_0, .bool a1_1, .bool a1_2, .int .i64 a1_3, .int .i64 a1_4]) (t := 57) ?hr ?_; (case hd => rfl); (case hg => rfl); (case hr => first | (go_simp; done) | (go_simp; rfl)); intro gb269 hg w18 hbox hb; have n0_ := Aside0.mk (blk_below (g := gb268) (o := .cells #[.int .i64 a0_0, .bool a0_1, .bool a0_2, .int .i64 a0_3, .int .i64 a0_4] 57 (0, 0)) (by (with_reducible repeat (first | refine blk_drewN ?_ _ | refine blk_drew ?_ | refine blk_alloc ?_ _)); exact BK268.out) hb); have n1_ := Aside0.mk (below_step (by repeat (first | (with_reducible first | exact HB.out | apply below_alloc | apply pw_below_drewN | apply below_drew1 | refine below_set ?_ GE268.out) | exact HB.out)) hb); have n2_ := Aside0.mk (hbox); have n3_ := Aside0.mk ((by rw [hg]; exact (below_size (by repeat (first | (with_reducible first | exact HB.out | apply below_alloc | apply pw_below_drewN | apply below_drew1 | refine below_set ?_ GE268.out) | exact HB.out))) : w.heap.size ≤ gb269)); have n4_ := Aside0.mk ((by rw [hg]; exact (below_size (by repeat (first | (with_reducible first | exact HB.out | apply below_alloc | apply pw_below_drewN | apply below_drew1 | refine below_set ?_ GE268.out) | exact HB.out))) : w.heap.size ≤ gb269)); have n5_ := Aside0.mk ((by rw [hg]; exact Nat.ne_of_lt (blk_lt (g := gb268) (o := .cells #[.int .i64 a0_0, .bool a0_1, .bool a0_2, .int .i64 a0_3, .int .i64 a0_4] 57 (0, 0)) (by (with_reducible repeat (first | refine blk_drewN ?_ _ | refine blk_drew ?_ | refine blk_alloc ?_ _)); exact BK268.out)) : gb268 ≠ gb269)); have n6_ := Aside0.mk ((by rw [hg]; exact Nat.ne_of_gt (blk_lt (g := gb268) (o := .cells #[.int .i64 a0_0, .bool a0_1, .bool a0_2, .int .i64 a0_3, .int .i64 a0_4] 57 (0, 0)) (by (with_reducible repeat (first | refine blk_drewN ?_ _ | refine blk_drew ?_ | refine blk_alloc ?_ _)); exact BK268.out)) : gb269 ≠ gb268)); clear BK268; clear HB; have BK268 := n0_; have HB := n1_; have BK269 := n2_; have GW269 := n3_; have GE269 := n4_; have NB268_269 := n5_; have NB269_268 := n6_; clear n0_ n1_ n2_ n3_ n4_ n5_ n6_; clear hb hbox hg; have hnb19 := NB268_269.out; have hnc19 := NB269_268.out; have hcz20_0 : w18.cell? ⟨gb268, 0, none⟩ = some (.int .i64 a0_0) := (blk_cell BK268.out 0).trans rfl; have hcz20_1 : w18.cell? ⟨gb268, 1, none⟩ = some (.bool a0_1) := (blk_cell BK268.out 1).trans rfl; have hcz20_2 : w18.cell? ⟨gb268, 2, none⟩ = some (.bool a0_2) := (blk_cell BK268.out 2).trans rfl; have hcz20_3 : w18.cell? ⟨gb268, 3, none⟩ = some (.int .i64 a0_3) := (blk_cell BK268.out 3).trans rfl; have hcz20_4 : w18.cell? ⟨gb268, 4, none⟩ = some (.int .i64 a0_4) := (blk_cell BK268.out 4).trans rfl; have hfz20_0 := blk_frozen BK268.out 0; have hfz20_1 := blk_frozen BK268.out 1; have hfz20_2 := blk_frozen BK268.out 2; have hfz20_3 := blk_frozen BK268.out 3; have hfz20_4 := blk_frozen BK268.out 4; have hcz21_0 : w18.cell? ⟨gb269, 0, none⟩ = some (.int .i64 a1_0) := (blk_cell BK269.out 0).trans rfl; have hcz21_1 : w18.cell? ⟨gb269, 1, none⟩ = some (.bool a1_1) := (blk_cell BK269.out 1).trans rfl; have hcz21_2 : w18.cell? ⟨gb269, 2, none⟩ = some (.bool a1_2) := (blk_cell BK269.out 2).trans rfl; have hcz21_3 : w18.cell? ⟨gb269, 3, none⟩ = some (.int .i64 a1_3) := (blk_cell BK269.out 3).trans rfl; have hcz21_4 : w18.cell? ⟨gb269, 4, none⟩ = some (.int .i64 a1_4) := (blk_cell BK269.out 4).trans rfl; have hfz21_0 := blk_frozen BK269.out 0; have hfz21_1 := blk_frozen BK269.out 1; have hfz21_2 := blk_frozen BK269.out 2; have hfz21_3 := blk_frozen BK269.out 3; have hfz21_4 := blk_frozen BK269.out 4))
        go_ret
        exact ⟨by first | rfl | (simp [errW_none, errW_some] <;> rfl) | (simp [*, errW_none, errW_some] <;> rfl), by repeat (first | (with_reducible first | exact HB.out | apply below_alloc | apply pw_below_drewN | apply below_drew1 | refine below_set ?_ GE268.out | refine below_set ?_ GE269.out) | exact HB.out)⟩
    · rw [if_neg c4] at H
      have c4b0 : (a0_1 == a1_1) = false := by simpa using c4
      (try (have c4b1 : decide (a0_1 = a1_1) = false := by simpa using c4))
      (try (have c4b2 : (a0_1 == a1_1) = false := by simpa using c4))
      (try (have c4b3 : ¬ (a0_1 = a1_1) := by simpa using c4))
      clear c4
      obtain rfl := Option.some.inj H
      simp only [Option.some.injEq, Prod.mk.injEq] at H
      obtain ⟨rfl⟩ := H
      go_enter Tryd.func42, Tryd.ntmps42
      go_wp2_with (first | ((with_reducible refine gate_dst (N := 2) rfl ?_); refine box_event ?hg (N := 2) ?hd (cs := #[.int .i64 a0_0, .bool a0_1, .bool a0_2, .int .i64 a0_3, .int .i64 a0_4]) (t := 57) ?hr ?_; (case hd => rfl); (case hg => rfl); (case hr => first | (go_simp; done) | (go_simp; rfl)); intro gb268 hg w22 hbox hb; have n0_ := Aside0.mk (below_step (by repeat (first | (with_reducible first | exact HB.out | apply below_alloc | apply pw_below_drewN | apply below_drew1) | exact HB.out)) hb); have n1_ := Aside0.mk (hbox); have n2_ := Aside0.mk ((by rw [hg]; exact (below_size (by repeat (first | (with_reducible first | exact HB.out | apply below_alloc | apply pw_below_drewN | apply below_drew1) | exact HB.out))) : w.heap.size ≤ gb268)); have n3_ := Aside0.mk ((by rw [hg]; exact (below_size (by repeat (first | (with_reducible first | exact HB.out | apply below_alloc | apply pw_below_drewN | apply below_drew1) | exact HB.out))) : w.heap.size ≤ gb268)); clear HB; have HB := n0_; have BK268 := n1_; have GW268 := n2_; have GE268 := n3_; clear n0_ n1_ n2_ n3_; clear hb hbox hg) | ((with_reducible refine gate_dst (N := 3) rfl ?_); refine box_event ?hg (N := 3) ?hd (cs := #[.int .i64 a1_0, .bool a1_1, .bool a1_2, .int .i64 a1_3, .int .i64 a1_4]) (t := 57) ?hr ?_; (case hd => rfl); (case hg => rfl); (case hr => first | (go_simp; done) | (go_simp; rfl)); intro gb269 hg w23 hbox hb; have n0_ := Aside0.mk (blk_below (g := gb268) (o := .cells #[.int .i64 a0_0, .bool a0_1, .bool a0_2, .int .i64 a0_3, .int .i64 a0_4] 57 (0, 0)) (by (with_reducible repeat (first | refine blk_drewN ?_ _ | refine blk_drew ?_ | refine blk_alloc ?_ _)); exact BK268.out) hb); have n1_ := Aside0.mk (below_step (by repeat (first | (with_reducible first | exact HB.out | apply below_alloc | apply pw_below_drewN | apply below_drew1 | refine below_set ?_ GE268.out) | exact HB.out)) hb); have n2_ := Aside0.mk (hbox); have n3_ := Aside0.mk ((by rw [hg]; exact (below_size (by repeat (first | (with_reducible first | exact HB.out | apply below_alloc | apply pw_below_drewN | apply below_drew1 | refine below_set ?_ GE268.out) | exact HB.out))) : w.heap.size ≤ gb269)); have n4_ := Aside0.mk ((by rw [hg]; exact (below_size (by repeat (first | (with_reducible first | exact HB.out | apply below_alloc | apply pw_below_drewN | apply below_drew1 | refine below_set ?_ GE268.out) | exact HB.out))) : w.heap.size ≤ gb269)); have n5_ := Aside0.mk ((by rw [hg]; exact Nat.ne_of_lt (blk_lt (g := gb268) (o := .cells #[.int .i64 a0_0, .bool a0_1, .bool a0_2, .int .i64 a0_3, .int .i64 a0_4] 57 (0, 0)) (by (with_reducible repeat (first | refine blk_drewN ?_ _ | refine blk_drew ?_ | refine blk_alloc ?_ _)); exact BK268.out)) : gb268 ≠ gb269)); have n6_ := Aside0.mk ((by rw [hg]; exact Nat.ne_of_gt (blk_lt (g := gb268) (o := .cells #[.int .i64 a0_0, .bool a0_1, .bool a0_2, .int .i64 a0_3, .int .i64 a0_4] 57 (0, 0)) (by (with_reducible repeat (first | refine blk_drewN ?_ _ | refine blk_drew ?_ | refine blk_alloc ?_ _)); exact BK268.out)) : gb269 ≠ gb268)); clear BK268; clear HB; have BK268 := n0_; have HB := n1_; have BK269 := n2_; have GW269 := n3_; have GE269 := n4_; have NB268_269 := n5_; have NB269_268 := n6_; clear n0_ n1_ n2_ n3_ n4_ n5_ n6_; clear hb hbox hg; have hnb24 := NB268_269.out; have hnc24 := NB269_268.out; have hcz25_0 : w23.cell? ⟨gb268, 0, none⟩ = some (.int .i64 a0_0) := (blk_cell BK268.out 0).trans rfl; have hcz25_1 : w23.cell? ⟨gb268, 1, none⟩ = some (.bool a0_1) := (blk_cell BK268.out 1).trans rfl; have hcz25_2 : w23.cell? ⟨gb268, 2, none⟩ = some (.bool a0_2) := (blk_cell BK268.out 2).trans rfl; have hcz25_3 : w23.cell? ⟨gb268, 3, none⟩ = some (.int .i64 a0_3) := (blk_cell BK268.out 3).trans rfl; have hcz25_4 : w23.cell? ⟨gb268, 4, none⟩ = some (.int .i64 a0_4) := (blk_cell BK268.out 4).trans rfl; have hfz25_0 := blk_frozen BK268.out 0; have hfz25_1 := blk_frozen BK268.out 1; have hfz25_2 := blk_frozen BK268.out 2; have hfz25_3 := blk_frozen BK268.out 3; have hfz25_4 := blk_frozen BK268.out 4; have hcz26_0 : w23.cell? ⟨gb269, 0, none⟩ = some (.int .i64 a1_0) := (blk_cell BK269.out 0).trans rfl; have hcz26_1 : w23.cell? ⟨gb269, 1, none⟩ = some (.bool a1_1) := (blk_cell BK269.out 1).trans rfl; have hcz26_2 : w23.cell? ⟨gb269, 2, none⟩ = some (.bool a1_2) := (blk_cell BK269.out 2).trans rfl; have hcz26_3 : w23.cell? ⟨gb269, 3, none⟩ = some (.int .i64 a1_3) := (blk_cell BK269.out 3).trans rfl; have hcz26_4 : w23.cell? ⟨gb269, 4, none⟩ = some (.int .i64 a1_4) := (blk_cell BK269.out 4).trans rfl; have hfz26_0 := blk_frozen BK269.out 0; have hfz26_1 := blk_frozen BK269.out 1; have hfz26_2 := blk_frozen BK269.out 2; have hfz26_3 := blk_frozen BK269.out 3; have hfz26_4 := blk_frozen BK269.out 4))
      go_ret
      exact ⟨by first | rfl | (simp [errW_none, errW_some] <;> rfl) | (simp [*, errW_none, errW_some] <;> rfl), by repeat (first | (with_reducible first | exact HB.out | apply below_alloc | apply pw_below_drewN | apply below_drew1 | refine below_set ?_ GE268.out | refine below_set ?_ GE269.out) | exact HB.out)⟩
  · rw [if_neg c3] at H
    have c3b0 : (a0_0 == a1_0) = false := beq_eq_false_iff_ne.mpr c3
    have c3b1 : (a0_0 != a1_0) = true := bne_iff_ne.mpr c3
    obtain rfl := Option.some.inj H
    simp only [Option.some.injEq, Prod.mk.injEq] at H
    obtain ⟨rfl⟩ := H
    go_enter Tryd.func42, Tryd.ntmps42
    go_wp2_with (first | ((with_reducible refine gate_dst (N := 2) rfl ?_); refine box_event ?hg (N := 2) ?hd (cs := #[.int .i64 a0_0, .bool a0_1, .bool a0_2, .int .i64 a0_3, .int .i64 a0_4]) (t := 57) ?hr ?_; (case hd => rfl); (case hg => rfl); (case hr => first | (go_simp; done) | (go_simp; rfl)); intro gb268 hg w27 hbox hb; have n0_ := Aside0.mk (below_step (by repeat (first | (with_reducible first | exact HB.out | apply below_alloc | apply pw_below_drewN | apply below_drew1) | exact HB.out)) hb); have n1_ := Aside0.mk (hbox); have n2_ := Aside0.mk ((by rw [hg]; exact (below_size (by repeat (first | (with_reducible first | exact HB.out | apply below_alloc | apply pw_below_drewN | apply below_drew1) | exact HB.out))) : w.heap.size ≤ gb268)); have n3_ := Aside0.mk ((by rw [hg]; exact (below_size (by repeat (first | (with_reducible first | exact HB.out | apply below_alloc | apply pw_below_drewN | apply below_drew1) | exact HB.out))) : w.heap.size ≤ gb268)); clear HB; have HB := n0_; have BK268 := n1_; have GW268 := n2_; have GE268 := n3_; clear n0_ n1_ n2_ n3_; clear hb hbox hg) | ((with_reducible refine gate_dst (N := 3) rfl ?_); refine box_event ?hg (N := 3) ?hd (cs := #[.int .i64 a1_0, .bool a1_1, .bool a1_2, .int .i64 a1_3, .int .i64 a1_4]) (t := 57) ?hr ?_; (case hd => rfl); (case hg => rfl); (case hr => first | (go_simp; done) | (go_simp; rfl)); intro gb269 hg w28 hbox hb; have n0_ := Aside0.mk (blk_below (g := gb268) (o := .cells #[.int .i64 a0_0, .bool a0_1, .bool a0_2, .int .i64 a0_3, .int .i64 a0_4] 57 (0, 0)) (by (with_reducible repeat (first | refine blk_drewN ?_ _ | refine blk_drew ?_ | refine blk_alloc ?_ _)); exact BK268.out) hb); have n1_ := Aside0.mk (below_step (by repeat (first | (with_reducible first | exact HB.out | apply below_alloc | apply pw_below_drewN | apply below_drew1 | refine below_set ?_ GE268.out) | exact HB.out)) hb); have n2_ := Aside0.mk (hbox); have n3_ := Aside0.mk ((by rw [hg]; exact (below_size (by repeat (first | (with_reducible first | exact HB.out | apply below_alloc | apply pw_below_drewN | apply below_drew1 | refine below_set ?_ GE268.out) | exact HB.out))) : w.heap.size ≤ gb269)); have n4_ := Aside0.mk ((by rw [hg]; exact (below_size (by repeat (first | (with_reducible first | exact HB.out | apply below_alloc | apply pw_below_drewN | apply below_drew1 | refine below_set ?_ GE268.out) | exact HB.out))) : w.heap.size ≤ gb269)); have n5_ := Aside0.mk ((by rw [hg]; exact Nat.ne_of_lt (blk_lt (g := gb268) (o := .cells #[.int .i64 a0_0, .bool a0_1, .bool a0_2, .int .i64 a0_3, .int .i64 a0_4] 57 (0, 0)) (by (with_reducible repeat (first | refine blk_drewN ?_ _ | refine blk_drew ?_ | refine blk_alloc ?_ _)); exact BK268.out)) : gb268 ≠ gb269)); have n6_ := Aside0.mk ((by rw [hg]; exact Nat.ne_of_gt (blk_lt (g := gb268) (o := .cells #[.int .i64 a0_0, .bool a0_1, .bool a0_2, .int .i64 a0_3, .int .i64 a0_4] 57 (0, 0)) (by (with_reducible repeat (first | refine blk_drewN ?_ _ | refine blk_drew ?_ | refine blk_alloc ?_ _)); exact BK268.out)) : gb269 ≠ gb268)); clear BK268; clear HB; have BK268 := n0_; have HB := n1_; have BK269 := n2_; have GW269 := n3_; have GE269 := n4_; have NB268_269 := n5_; have NB269_268 := n6_; clear n0_ n1_ n2_ n3_ n4_ n5_ n6_; clear hb hbox hg; have hnb29 := NB268_269.out; have hnc29 := NB269_268.out; have hcz30_0 : w28.cell? ⟨gb268, 0, none⟩ = some (.int .i64 a0_0) := (blk_cell BK268.out 0).trans rfl; have hcz30_1 : w28.cell? ⟨gb268, 1, none⟩ = some (.bool a0_1) := (blk_cell BK268.out 1).trans rfl; have hcz30_2 : w28.cell? ⟨gb268, 2, none⟩ = some (.bool a0_2) := (blk_cell BK268.out 2).trans rfl; have hcz30_3 : w28.cell? ⟨gb268, 3, none⟩ = some (.int .i64 a0_3) := (blk_cell BK268.out 3).trans rfl; have hcz30_4 : w28.cell? ⟨gb268, 4, none⟩ = some (.int .i64 a0_4) := (blk_cell BK268.out 4).trans rfl; have hfz30_0 := blk_frozen BK268.out 0; have hfz30_1 := blk_frozen BK268.out 1; have hfz30_2 := blk_frozen BK268.out 2; have hfz30_3 := blk_frozen BK268.out 3; have hfz30_4 := blk_frozen BK268.out 4; have hcz31_0 : w28.cell? ⟨gb269, 0, none⟩ = some (.int .i64 a1_0) := (blk_cell BK269.out 0).trans rfl; have hcz31_1 : w28.cell? ⟨gb269, 1, none⟩ = some (.bool a1_1) := (blk_cell BK269.out 1).trans rfl; have hcz31_2 : w28.cell? ⟨gb269, 2, none⟩ = some (.bool a1_2) := (blk_cell BK269.out 2).trans rfl; have hcz31_3 : w28.cell? ⟨gb269, 3, none⟩ = some (.int .i64 a1_3) := (blk_cell BK269.out 3).trans rfl; have hcz31_4 : w28.cell? ⟨gb269, 4, none⟩ = some (.int .i64 a1_4) := (blk_cell BK269.out 4).trans rfl; have hfz31_0 := blk_frozen BK269.out 0; have hfz31_1 := blk_frozen BK269.out 1; have hfz31_2 := blk_frozen BK269.out 2; have hfz31_3 := blk_frozen BK269.out 3; have hfz31_4 := blk_frozen BK269.out 4))
    go_ret
    exact ⟨by first | rfl | (simp [errW_none, errW_some] <;> rfl) | (simp [*, errW_none, errW_some] <;> rfl), by repeat (first | (with_reducible first | exact HB.out | apply below_alloc | apply pw_below_drewN | apply below_drew1 | refine below_set ?_ GE268.out | refine below_set ?_ GE269.out) | exact HB.out)⟩

/-! ### pendulumref_None: function 59 -/
def pendulumref_None.f  : Option (Int × Bool × Bool × Int × Int) := some (0, false, false, 0, 0)
set_option maxHeartbeats 8000000 in
set_option maxRecDepth 100000 in
theorem pendulumref_None.calls [Sent]  (r1 : Int) (r2 : Bool) (r3 : Bool) (r4 : Int) (r5 : Int) (w : World) (h : pendulumref_None.f  = some (r1, r2, r3, r4, r5)) :
    Calls Tryd.prog 59 #[] w fun e w' => e = .returned (.agg #[.int .i64 r1, .bool r2, .bool r3, .int .i64 r4, .int .i64 r5]) ∧ Below w.heap.size w w' := by
  have hu57 := Tryd.underlying57
  have HB := Aside0.mk (Below.refl w.heap.size w)
  have H : (some (0, false, false, 0, 0)) = some (r1, r2, r3, r4, r5) := h
  clear h
  simp only [Option.some.injEq, Prod.mk.injEq] at H
  obtain ⟨rfl, rfl, rfl, rfl, rfl⟩ := H
  go_enter Tryd.func59, Tryd.ntmps59
  go_wp2_with (first | ((with_reducible refine gate_dst (N := 0) rfl ?_); refine box_event ?hg (N := 0) ?hd (cs := #[.int .i64 0, .bool false, .bool false, .int .i64 0, .int .i64 0]) (t := 57) ?hr ?_; (case hd => rfl); (case hg => rfl); (case hr => first | (go_simp; done) | (go_simp; rfl)); intro gb270 hg w1 hbox hb; have n0_ := Aside0.mk (below_step (by repeat (first | (with_reducible first | exact HB.out | apply below_alloc | apply pw_below_drewN | apply below_drew1) | exact HB.out)) hb); have n1_ := Aside0.mk (hbox); have n2_ := Aside0.mk ((by rw [hg]; exact (below_size (by repeat (first | (with_reducible first | exact HB.out | apply below_alloc | apply pw_below_drewN | apply below_drew1) | exact HB.out))) : w.heap.size ≤ gb270)); have n3_ := Aside0.mk ((by rw [hg]; exact (below_size (by repeat (first | (with_reducible first | exact HB.out | apply below_alloc | apply pw_below_drewN | apply below_drew1) | exact HB.out))) : w.heap.size ≤ gb270)); clear HB; have HB := n0_; have BK270 := n1_; have GW270 := n2_; have GE270 := n3_; clear n0_ n1_ n2_ n3_; clear hb hbox hg; have hcz2_0 : w1.cell? ⟨gb270, 0, none⟩ = some (.int .i64 0) := (blk_cell BK270.out 0).trans rfl; have hcz2_1 : w1.cell? ⟨gb270, 1, none⟩ = some (.bool false) := (blk_cell BK270.out 1).trans rfl; have hcz2_2 : w1.cell? ⟨gb270, 2, none⟩ = some (.bool false) := (blk_cell BK270.out 2).trans rfl; have hcz2_3 : w1.cell? ⟨gb270, 3, none⟩ = some (.int .i64 0) := (blk_cell BK270.out 3).trans rfl; have hcz2_4 : w1.cell? ⟨gb270, 4, none⟩ = some (.int .i64 0) := (blk_cell BK270.out 4).trans rfl; have hfz2_0 := blk_frozen BK270.out 0; have hfz2_1 := blk_frozen BK270.out 1; have hfz2_2 := blk_frozen BK270.out 2; have hfz2_3 := blk_frozen BK270.out 3; have hfz2_4 := blk_frozen BK270.out 4))
  refine bodyPost_ret (results_cell_row rfl _ _ gb270 57 #[.int .i64 0, .bool false, .bool false, .int .i64 0, .int .i64 0] (0, 0) _ rfl (by (with_reducible repeat (first | refine blk_drewN ?_ _ | refine blk_drew ?_ | refine blk_alloc ?_ _)); refine blk_put (cs := #[.int .i64 0, .bool false, .bool false, .int .i64 0, .int .i64 0]) ?_ 4 _ rfl; (with_reducible repeat (first | refine blk_drewN ?_ _ | refine blk_drew ?_ | refine blk_alloc ?_ _)); refine blk_put (cs := #[.int .i64 0, .bool false, .bool false, .int .i64 0, .int .i64 0]) ?_ 3 _ rfl; (with_reducible repeat (first | refine blk_drewN ?_ _ | refine blk_drew ?_ | refine blk_alloc ?_ _)); refine blk_put (cs := #[.int .i64 0, .bool false, .bool false, .int .i64 0, .int .i64 0]) ?_ 2 _ rfl; (with_reducible repeat (first | refine blk_drewN ?_ _ | refine blk_drew ?_ | refine blk_alloc ?_ _)); refine blk_put (cs := #[.int .i64 0, .bool false, .bool false, .int .i64 0, .int .i64 0]) ?_ 1 _ rfl; (with_reducible repeat (first | refine blk_drewN ?_ _ | refine blk_drew ?_ | refine blk_alloc ?_ _)); refine blk_put (cs := #[.int .i64 0, .bool false, .bool false, .int .i64 0, .int .i64 0]) ?_ 0 _ rfl; (with_reducible repeat (first | refine blk_drewN ?_ _ | refine blk_drew ?_ | refine blk_alloc ?_ _)); exact BK270.out) Tryd.underlying57 rfl (by kernel_rfl)) rfl ?_
  exact ⟨by first | rfl | (simp [errW_none, errW_some] <;> rfl) | (simp [*, errW_none, errW_some] <;> rfl), by repeat (first | (with_reducible first | exact HB.out | apply below_alloc | apply pw_below_drewN | apply below_drew1 | refine below_set ?_ GE270.out) | exact HB.out)⟩

/-! ### pendulumsee_Same: function 20 -/
theorem see_Alike [Sent] (a b : Int) (w : World) (h : GlobW w) (ha : ∃ c ∈ sentList, c.1 = a) (hb : ∃ c ∈ sentList, c.1 = b) (r : Bool) (hr : Aside0 (r = (a == b))) :
    Calls Tryd.prog 73 #[.iface 134 (.pointer (some (Sent.S a))), .iface 134 (.pointer (some (Sent.S b)))] w fun e w' => e = .returned (.bool r) ∧ w = w' := by
  obtain ⟨c, hc, rfl⟩ := ha
  obtain ⟨d, hd, rfl⟩ := hb
  obtain ⟨i, hi, hi1⟩ := Option.map_eq_some_iff.1 (show (Tryd.prog.info? 134).map (·.comparable) = some true by kernel_rfl)
  obtain ⟨j, hj, hj1⟩ := Option.map_eq_some_iff.1 (show (Tryd.prog.info? 148).map (·.size) = some 1 by kernel_rfl)
  have hu := Tryd.underlying34
  by_cases he : c.1 = d.1
  · obtain rfl : r = true := by rw [hr.out, he]; simp
    rw [he]
    have hq := run_eql_iface_ptr_same w (Sent.S d.1) Tryd.underlying34 Tryd.underlying134 hi hi1 hj
    clear hr he hi hi1 hj hj1 h
    go_enter Tryd.func73, Tryd.ntmps73
    go_wp2
    go_ret
    exact ⟨rfl, rfl⟩
  · obtain rfl : r = false := by rw [hr.out]; simp [he]
    obtain ⟨_, ca, ta, h1⟩ := h.1 c hc
    obtain ⟨_, cb, tb, h2⟩ := h.1 d hd
    have hq := run_eql_iface_ptr_other w Tryd.underlying34 Tryd.underlying134 hi hi1 hj (by rw [hj1]; decide) (fun e => he (h.2 c hc d hd e)) h1 h2
    clear hr he hi hi1 hj hj1 h h1 h2
    go_enter Tryd.func73, Tryd.ntmps73
    go_wp2
    go_ret
    exact ⟨rfl, rfl⟩
def sentVal [Sent] (c : Int) : Value := .iface 134 (.pointer (some (Sent.S c)))
def sentCells [Sent] : List Value := (List.range 21).map fun i : Nat => sentVal (101 + (i : Int))
theorem sentList_all : ∀ i : Fin 21, ∃ c ∈ sentList, c.1 = 101 + ((i.1 : Nat) : Int) := by decide
set_option maxRecDepth 100000 in
set_option maxHeartbeats 1000000 in
theorem see_sentinels [Sent] (w : World) (h : GlobW w) :
    Calls Tryd.prog 72 #[] w fun e w' => e = .returned (.slice (some ⟨w.heap.size, 0, none⟩) 21 21) ∧ w.alloc (.cells sentCells.toArray 34) = w' := by
  have f0 := (h.1 (101, 3) (by decide)).1
  have f1 := (h.1 (102, 4) (by decide)).1
  have f2 := (h.1 (103, 1) (by decide)).1
  have f3 := (h.1 (104, 2) (by decide)).1
  have f4 := (h.1 (105, 6) (by decide)).1
  have f5 := (h.1 (106, 7) (by decide)).1
  have f6 := (h.1 (107, 8) (by decide)).1
  have f7 := (h.1 (108, 9) (by decide)).1
  have f8 := (h.1 (109, 0) (by decide)).1
  have f9 := (h.1 (110, 10) (by decide)).1
  have f10 := (h.1 (111, 11) (by decide)).1
  have f11 := (h.1 (112, 12) (by decide)).1
  have f12 := (h.1 (113, 13) (by decide)).1
  have f13 := (h.1 (114, 14) (by decide)).1
  have f14 := (h.1 (115, 15) (by decide)).1
  have f15 := (h.1 (116, 16) (by decide)).1
  have f16 := (h.1 (117, 17) (by decide)).1
  have f17 := (h.1 (118, 18) (by decide)).1
  have f18 := (h.1 (119, 19) (by decide)).1
  have f19 := (h.1 (120, 20) (by decide)).1
  have f20 := (h.1 (121, 21) (by decide)).1
  have hC := Aside0.mk (show (sentCells.toArray : Array Value) = #[.iface 134 (.pointer (some (Sent.S 101))), .iface 134 (.pointer (some (Sent.S 102))), .iface 134 (.pointer (some (Sent.S 103))), .iface 134 (.pointer (some (Sent.S 104))), .iface 134 (.pointer (some (Sent.S 105))), .iface 134 (.pointer (some (Sent.S 106))), .iface 134 (.pointer (some (Sent.S 107))), .iface 134 (.pointer (some (Sent.S 108))), .iface 134 (.pointer (some (Sent.S 109))), .iface 134 (.pointer (some (Sent.S 110))), .iface 134 (.pointer (some (Sent.S 111))), .iface 134 (.pointer (some (Sent.S 112))), .iface 134 (.pointer (some (Sent.S 113))), .iface 134 (.pointer (some (Sent.S 114))), .iface 134 (.pointer (some (Sent.S 115))), .iface 134 (.pointer (some (Sent.S 116))), .iface 134 (.pointer (some (Sent.S 117))), .iface 134 (.pointer (some (Sent.S 118))), .iface 134 (.pointer (some (Sent.S 119))), .iface 134 (.pointer (some (Sent.S 120))), .iface 134 (.pointer (some (Sent.S 121)))] from rfl)
  clear h
  go_enter Tryd.func72, Tryd.ntmps72
  go_wp2
  go_ret
  exact ⟨rfl, by rw [hC.out]⟩
theorem see_sentinel_cell [Sent] (w : World) (k : Nat) (hk : k < 21) : (w.alloc (.cells sentCells.toArray 34)).cell? ⟨w.heap.size, k, none⟩ = some (.iface 134 (.pointer (some (Sent.S (101 + (k : Int)))))) := by
  have h1 : (w.alloc (.cells sentCells.toArray 34)).heap[w.heap.size]? = some (.cells sentCells.toArray 34 (0, 0)) := heap_alloc_new w _
  rw [blk_cell h1]
  simp [sentCells, hk, sentVal]
set_option maxRecDepth 100000 in
set_option maxHeartbeats 1000000 in
theorem see_sentinel [Sent] (c : Int) (w : World) (h : GlobW w) (hc0 : 101 ≤ c) (hc1 : c ≤ 121) :
    Calls Tryd.prog 60 #[.iface 134 (.pointer (some (Sent.S c)))] w fun e w' => e = .returned (.int .i64 c) ∧ Below w.heap.size w w' := by
  have HG := Aside0.mk h
  clear h
  have hcl : ∃ d ∈ sentList, d.1 = c := by
    obtain ⟨d, hd, he⟩ := sentList_all ⟨(c - 101).toNat, by omega⟩
    exact ⟨d, hd, by rw [he]; simp; omega⟩
  have HCL := Aside0.mk hcl
  clear hcl
  go_enter Tryd.func60, Tryd.ntmps60
  go_wp2_with (go_at_call 72; refine (see_sentinels _ HG.out).mono ?_; rintro e w' ⟨rfl, rfl⟩)
  obtain ⟨W, hW⟩ : ∃ W, W = w.alloc (.cells sentCells.toArray 34) := ⟨_, rfl⟩
  have HW := Aside0.mk hW
  have hcell : ∀ k : Nat, k < 21 → W.cell? ⟨w.heap.size, k, none⟩ = some (.iface 134 (.pointer (some (Sent.S (101 + (k : Int)))))) := fun k hk => by rw [hW]; exact see_sentinel_cell w k hk
  have HCE := Aside0.mk hcell
  clear hcell
  rw [← hW]
  clear hW
  go_loop [4] (fun i => ∃ k : Nat, i = .int .i64 k ∧ Aside0 (k ≤ 21 ∧ 101 + (k : Int) ≤ c)) (fun i => 21 - (intOf i).toNat)
  case atStart => exact ⟨0, rfl, ⟨by omega, by omega⟩⟩
  case round =>
    obtain ⟨k, rfl, HK⟩ := hrel
    have hk : k < 21 := by have := HK.out; omega
    have hx := HCE.out k hk
    have HGW : Aside0 (GlobW W) := ⟨by rw [HW.out]; exact HG.out.below (below_alloc (Below.refl _ _) _)⟩
    have hkl : ∃ d ∈ sentList, d.1 = 101 + (k : Int) := sentList_all ⟨k, hk⟩
    have HKL := Aside0.mk hkl
    clear hkl
    go_wp2_with fail
    refine (see_Alike c (101 + (k : Int)) _ HGW.out HCL.out HKL.out (c == 101 + (k : Int)) ⟨rfl⟩).mono ?_
    rintro e w1 ⟨rfl, rfl⟩
    by_cases he : c = 101 + (k : Int)
    · have hb : (c == 101 + (k : Int)) = true := by simp [he]
      rw [hb]
      have HE := Aside0.mk he
      clear he hb
      go_wp2
      go_ret
      exact ⟨by rw [HE.out]; rfl, by rw [HW.out]; exact below_alloc (Below.refl _ _) _⟩
    · have hb : (c == 101 + (k : Int)) = false := by simp [he]
      rw [hb]
      have HE := Aside0.mk he
      clear he hb
      go_wp2
      go_round
      case rel => exact ⟨k + 1, by go_num, ⟨by omega, by have := HK.out; have := HE.out; omega⟩⟩
      case measure => simp [intOf]; omega
theorem see_put {w : World} {g : Nat} {a b c d e a' b' c' d' e' : Value} (h : w.heap[g]? = some (.cells #[a, b, c, d, e] 57 (0, 0))) :
    (((((w.setCell ⟨g, 0, none⟩ a').setCell ⟨g, 1, none⟩ b').setCell ⟨g, 2, none⟩ c').setCell ⟨g, 3, none⟩ d').setCell ⟨g, 4, none⟩ e').heap[g]? = some (.cells #[a', b', c', d', e'] 57 (0, 0)) :=
  blk_set (blk_set (blk_set (blk_set (blk_set h 0 a') 1 b') 2 c') 3 d') 4 e'
theorem see_put_below {w0 w : World} {g : Nat} {a b c d e : Value} (h : Below w0.heap.size w0 w) (hg : w0.heap.size ≤ g) :
    Below w0.heap.size w0 (((((w.setCell ⟨g, 0, none⟩ a).setCell ⟨g, 1, none⟩ b).setCell ⟨g, 2, none⟩ c).setCell ⟨g, 3, none⟩ d).setCell ⟨g, 4, none⟩ e) :=
  below_set (below_set (below_set (below_set (below_set h hg) hg) hg) hg) hg
/-- An error as plain data: what Fault says of it. -/
def see_ok (a0 : Option Int) : Bool := match a0 with
  | none => true
  | some c => decide (101 ≤ c ∧ c ≤ 121)
set_option maxRecDepth 100000 in
set_option maxHeartbeats 1000000 in
theorem see_Fault_nil [Sent] (w : World) : Calls Tryd.prog 43 #[.nilIface] w fun e w' => e = .returned (.agg #[.int .i64 0, .bool false, .bool false, .int .i64 0, .int .i64 0]) ∧ Below w.heap.size w w' := by
  have hu := Tryd.underlying57
  have hu32 := Tryd.underlying34
  go_enter Tryd.func43, Tryd.ntmps43
  go_wp2_with fail
  refine (pendulumref_None.calls 0 false false 0 0 _ (by unfold pendulumref_None.f; rfl)).mono ?_
  rintro e w1 ⟨rfl, hb⟩
  have h1 : w1.heap[w.heap.size]? = some (.cells #[.int .i64 0, .bool false, .bool false, .int .i64 0, .int .i64 0] 57 (0, 0)) := (hb.block _ (by simp)).trans (heap_alloc_new w _)
  have HB := Aside0.mk (below_step (below_alloc (Below.refl w.heap.size w) _) hb)
  have hz : w.heap.size < w1.heap.size := blk_lt h1
  have H1 := Aside0.mk h1
  clear hb
  have c0 := blk_cell h1 0
  have c1 := blk_cell h1 1
  have c2 := blk_cell h1 2
  have c3 := blk_cell h1 3
  have c4 := blk_cell h1 4
  have g0 := blk_frozen h1 0
  have g1 := blk_frozen h1 1
  have g2 := blk_frozen h1 2
  have g3 := blk_frozen h1 3
  have g4 := blk_frozen h1 4
  clear h1
  simp at c0 c1 c2 c3 c4
  go_wp2_with fail
  exact bodyPost_ret (results_cell_row rfl _ _ w.heap.size 57 #[.int .i64 0, .bool false, .bool false, .int .i64 0, .int .i64 0] (0, 0) _ rfl (see_put H1.out) Tryd.underlying57 rfl (by kernel_rfl)) rfl ⟨rfl, see_put_below HB.out (Nat.le_refl _)⟩
set_option maxRecDepth 100000 in
set_option maxHeartbeats 1000000 in
theorem see_Fault_some [Sent] (c : Int) (w : World) (hG : GlobW w) (h0 : 101 ≤ c) (h1 : c ≤ 121) :
    Calls Tryd.prog 43 #[.iface 134 (.pointer (some (Sent.S c)))] w fun e w' => e = .returned (.agg #[.int .i64 c, .bool false, .bool false, .int .i64 0, .int .i64 0]) ∧ Below w.heap.size w w' := by
  have hu := Tryd.underlying57
  have hu32 := Tryd.underlying34
  have HG := Aside0.mk (hG.below (below_alloc (Below.refl w.heap.size w) (.cells #[.int .i64 0, .bool false, .bool false, .int .i64 0, .int .i64 0] 57 (0, 0))))
  have H01 := Aside0.mk (And.intro h0 h1)
  clear hG h0 h1
  have hta : ∀ (v : Value) (W : World), (Instr.typeAssert (.iface 134 v) 34 103 true).run Tryd.prog W = .ok (.tuple #[.pointer none, .bool false]) W := fun v W => by kernel_rfl
  go_enter Tryd.func43, Tryd.ntmps43
  go_wp2_with fail
  refine (see_sentinel c _ HG.out H01.out.1 H01.out.2).mono ?_
  rintro e w1 ⟨rfl, hb⟩
  have HB1 := Aside0.mk (below_step (below_alloc (Below.refl w.heap.size w) _) hb)
  have h1 : w1.heap[w.heap.size]? = some (.cells #[.int .i64 0, .bool false, .bool false, .int .i64 0, .int .i64 0] 57 (0, 0)) := (hb.block _ (by simp)).trans (heap_alloc_new w _)
  have H1' := Aside0.mk h1
  clear hb h1
  go_wp2_with fail
  refine (pendulumref_Bare.calls c c false false 0 0 _ (by unfold pendulumref_Bare.f; rfl)).mono ?_
  rintro e w2 ⟨rfl, hb⟩
  have HB := Aside0.mk (below_step HB1.out hb)
  have h1 : w2.heap[w.heap.size]? = some (.cells #[.int .i64 0, .bool false, .bool false, .int .i64 0, .int .i64 0] 57 (0, 0)) := (hb.block _ (blk_lt H1'.out)).trans H1'.out
  have hz : w.heap.size < w2.heap.size := blk_lt h1
  have H1 := Aside0.mk h1
  clear hb H1' HB1
  have c0 := blk_cell h1 0
  have c1 := blk_cell h1 1
  have c2 := blk_cell h1 2
  have c3 := blk_cell h1 3
  have c4 := blk_cell h1 4
  have g0 := blk_frozen h1 0
  have g1 := blk_frozen h1 1
  have g2 := blk_frozen h1 2
  have g3 := blk_frozen h1 3
  have g4 := blk_frozen h1 4
  clear h1
  simp at c0 c1 c2 c3 c4
  go_wp2_with fail
  exact bodyPost_ret (results_cell_row rfl _ _ w.heap.size 57 #[.int .i64 c, .bool false, .bool false, .int .i64 0, .int .i64 0] (0, 0) _ rfl (see_put H1.out) Tryd.underlying57 rfl (by kernel_rfl)) rfl ⟨rfl, see_put_below HB.out (Nat.le_refl _)⟩
theorem see_Fault [Sent] (a0 : Option Int) (w : World) (hG : GlobW w) (h : see_ok a0 = true) :
    Calls Tryd.prog 43 #[errW a0] w fun e w' => e = .returned (.agg #[.int .i64 (a0.getD 0), .bool false, .bool false, .int .i64 0, .int .i64 0]) ∧ Below w.heap.size w w' := by
  cases a0 with
  | none => exact see_Fault_nil w
  | some c =>
    have h' : 101 ≤ c ∧ c ≤ 121 := by simpa [see_ok] using h
    exact see_Fault_some c w hG h'.1 h'.2
set_option maxRecDepth 100000 in
set_option maxHeartbeats 1000000 in
theorem see_Same [Sent] (a0 : Option Int) (b0 : Int) (b1 b2 : Bool) (b3 b4 : Int) (r : Bool) (w : World) (hG : GlobW w) (hok : see_ok a0 = true)
    (hr : pendulumref_SameFault.f (a0.getD 0) false false 0 0 b0 b1 b2 b3 b4 = some r) :
    Calls Tryd.prog 20 #[errW a0, .agg #[.int .i64 b0, .bool b1, .bool b2, .int .i64 b3, .int .i64 b4]] w fun e w' => e = .returned (.bool r) ∧ Below w.heap.size w w' := by
  have hu := Tryd.underlying57
  have HR := Aside0.mk hr
  have HOK := Aside0.mk hok
  obtain ⟨W, hW⟩ : ∃ W, W = w.alloc (.cells #[.int .i64 b0, .bool b1, .bool b2, .int .i64 b3, .int .i64 b4] 57 (0, 0)) := ⟨_, rfl⟩
  have HG := Aside0.mk (hG.below (below_alloc (Below.refl w.heap.size w) (.cells #[.int .i64 b0, .bool b1, .bool b2, .int .i64 b3, .int .i64 b4] 57 (0, 0))))
  have HBW : Aside0 (Below w.heap.size w W) := ⟨by rw [hW]; exact below_alloc (Below.refl _ _) _⟩
  have hb : W.heap[w.heap.size]? = some (.cells #[.int .i64 b0, .bool b1, .bool b2, .int .i64 b3, .int .i64 b4] 57 (0, 0)) := by rw [hW]; exact heap_alloc_new w _
  rw [← hW] at HG
  have HBK := Aside0.mk hb
  clear hr hG hok hb
  obtain ⟨v0, hv0⟩ : ∃ v, v = errW a0 := ⟨_, rfl⟩
  rw [← hv0]
  have HV := Aside0.mk hv0
  clear hv0
  go_enter Tryd.func20, Tryd.ntmps20
  go_wp2_with fail
  rw [← hW]
  clear hW
  have k0 := blk_cell HBK.out 0
  have k1 := blk_cell HBK.out 1
  have k2 := blk_cell HBK.out 2
  have k3 := blk_cell HBK.out 3
  have k4 := blk_cell HBK.out 4
  simp at k0 k1 k2 k3 k4
  have hF := see_Fault a0 W.drew (HG.out.below (below_drew (Below.refl _ _))) HOK.out
  rw [← HV.out] at hF
  have HF := Aside0.mk hF
  clear hF
  go_region_with (first | (go_at_call 43; refine HF.out.mono ?_; rintro e w1 ⟨rfl, hb1⟩; have hbk := (hb1.block w.heap.size (blk_lt HBK.out)).trans HBK.out; have HB1 := Aside0.mk (show Below w.heap.size w w1 from below_step (below_drew HBW.out) hb1); clear hb1; have m0 := blk_cell hbk 0; have m1 := blk_cell hbk 1; have m2 := blk_cell hbk 2; have m3 := blk_cell hbk 3; have m4 := blk_cell hbk 4; clear hbk; simp at m0 m1 m2 m3 m4) | (go_at_call 42; refine (pendulumref_SameFault.calls _ _ _ _ _ _ _ _ _ _ r _ HR.out).mono ?_; rintro e w2 ⟨rfl, hb2⟩; have HB2 := Aside0.mk (below_step HB1.out hb2); clear hb2))
  all_goals go_wp2
  all_goals go_ret
  all_goals exact ⟨rfl, HB2.out⟩
def pendulumsee_Same.f (a0 : Option Int) (a1_0 : Int) (a1_1 a1_2 : Bool) (a1_3 a1_4 : Int) : Option Bool := if see_ok a0 = true then pendulumref_SameFault.f (a0.getD 0) false false 0 0 a1_0 a1_1 a1_2 a1_3 a1_4 else none
theorem pendulumsee_Same.calls [Sent] (a0 : Option Int) (a1_0 : Int) (a1_1 a1_2 : Bool) (a1_3 a1_4 : Int) (r : Bool) (w : World) (hG : GlobW w) (h : pendulumsee_Same.f a0 a1_0 a1_1 a1_2 a1_3 a1_4 = some r) :
    Calls Tryd.prog 20 #[errW a0, .agg #[.int .i64 a1_0, .bool a1_1, .bool a1_2, .int .i64 a1_3, .int .i64 a1_4]] w fun e w' => e = .returned (.bool r) ∧ Below w.heap.size w w' := by
  unfold pendulumsee_Same.f at h
  by_cases hok : see_ok a0 = true
  · rw [if_pos hok] at h; exact see_Same a0 _ _ _ _ _ r w hG hok h
  · rw [if_neg hok] at h; cases h

/-! ### pendulumsee_Is: function 9 -/
theorem see_same_bare (a b : Int) : pendulumref_SameFault.f a false false 0 0 b false false 0 0 = some (decide (a = b)) := by
  unfold pendulumref_SameFault.f
  by_cases h : a = b <;> simp [h]
def pendulumsee_Is.f (a0 : Option Int) (a1 : Int) : Option Bool := if see_ok a0 = true then some (decide (a0.getD 0 = a1)) else none
set_option maxRecDepth 100000 in
theorem pendulumsee_Is.calls [Sent] (a0 : Option Int) (a1 : Int) (r : Bool) (w : World) (hG : GlobW w) (h : pendulumsee_Is.f a0 a1 = some r) :
    Calls Tryd.prog 9 #[errW a0, .int .i64 a1] w fun e w' => e = .returned (.bool r) ∧ Below w.heap.size w w' := by
  unfold pendulumsee_Is.f at h
  by_cases hok : see_ok a0 = true
  · rw [if_pos hok] at h
    have hS := fun W (hGW : GlobW W) => pendulumsee_Same.calls a0 a1 false false 0 0 r W hGW (by rw [pendulumsee_Same.f, if_pos hok, see_same_bare]; exact h)
    have HG := Aside0.mk hG
    clear h hok hG
    obtain ⟨v0, hv0⟩ : ∃ v, v = errW a0 := ⟨_, rfl⟩
    rw [← hv0] at hS ⊢
    have HS := Aside0.mk hS
    clear hv0 hS
    go_enter Tryd.func9, Tryd.ntmps9
    go_wp2_with fail
    refine (pendulumref_Bare.calls a1 a1 false false 0 0 _ (by unfold pendulumref_Bare.f; rfl)).mono ?_
    rintro e w1 ⟨rfl, hb⟩
    have HG1 := Aside0.mk (HG.out.below hb)
    have HB := Aside0.mk hb
    clear hb
    go_wp2_with fail
    refine (HS.out _ HG1.out).mono ?_
    rintro e w2 ⟨rfl, hb⟩
    have HB2 := Aside0.mk (below_step HB.out hb)
    clear hb
    go_wp2
    go_ret
    exact ⟨rfl, HB2.out⟩
  · rw [if_neg hok] at h; cases h

/-! ### pendulumlaw21_CodeBounds: function 3 -/
def pendulumlaw21_CodeBounds.l0 : Nat → Int → Int → Int → Int → Bool → Int → ByteArray → List Int → Int → List (S26) → Option (Bool)
  | 0, _, _, _, _, _, _, _, _, _, _ => none
  | k + 1, x0, x1, x2, x3, x9, x11, x281000, x281001, x281003, x281006 => if x11 < x1 then (if x281001.length < 17592186044416 then (pendulumlaw21_CodeBounds.l0 k x0 x1 x2 x3 x9 (wrap64 (x11 + 1)) x281000 (x281001 ++ [1]) x281003 x281006) else (none)) else ((code_Bytes.f k x281000 x281001 ([] : List Int) x281003 ([] : List (S51)) ([] : List (S54)) x281006).bind fun bt284 => (if x0 > 200 then (if x9 = true then ((pendulumsee_Is.f bt284.2 109).bind fun t288 => (some t288)) else (some false)) else (if x1 > 64 then (if x9 = true then ((pendulumsee_Is.f bt284.2 103).bind fun t289 => (some t289)) else (some false)) else (if x2 < 0 then (if x9 = true then ((pendulumsee_Is.f bt284.2 104).bind fun t290 => (some t290)) else (some false)) else (if x2 > 1024 then (if x9 = true then ((pendulumsee_Is.f bt284.2 104).bind fun t291 => (some t291)) else (some false)) else (if x3 < (-1) then (if x9 = true then ((pendulumsee_Is.f bt284.2 104).bind fun t292 => (some t292)) else (some false)) else (if x3 > 1048576 then (if x9 = true then ((pendulumsee_Is.f bt284.2 104).bind fun t293 => (some t293)) else (some false)) else (if x9 = true then (if bt284.2.isNone = true then (some true) else (some false)) else (some false)))))))))
def pendulumlaw21_CodeBounds.f (k : Nat) (a0 : Int) (a1 : Int) (a2 : Int) (a3 : Int) : Option (Bool) := (pendulumlaw21_first.f k).bind fun t271 => (if t271 = true then ((pendulumworld_Number.f a0 260).bind fun t272 => ((pendulumworld_Number.f a1 80).bind fun t273 => (if 0 ≤ t272 then (if (t272 : Int).toNat ≤ 281474976710656 then (pendulumlaw21_CodeBounds.l0 k t272 t273 a2 a3 t271 0 (strOfNums (List.replicate (t272 : Int).toNat 0)) ([] : List Int) a2 (([(⟨12, a3, 0, 0, 0, 0⟩ : S26)] : List (S26)))) else (none)) else (none)))) else (some false))
theorem pendulumlaw21_CodeBounds.mono_l : ∀ k, (∀ y0 y1 y2 y3 y4 y5 y6 y7 y8 y9, LeO (pendulumlaw21_CodeBounds.l0 k y0 y1 y2 y3 y4 y5 y6 y7 y8 y9) (pendulumlaw21_CodeBounds.l0 (k + 1) y0 y1 y2 y3 y4 y5 y6 y7 y8 y9))
  | 0 => fun _ _ _ _ _ _ _ _ _ _ r h => by simp [pendulumlaw21_CodeBounds.l0] at h
  | k + 1 => by
    have ih0 := pendulumlaw21_CodeBounds.mono_l k
    · intro y0 y1 y2 y3 y4 y5 y6 y7 y8 y9
      unfold pendulumlaw21_CodeBounds.l0
      repeat' first
      | (with_reducible exact ih0 _ _ _ _ _ _ _ _ _ _)
      | (with_reducible exact code_Bytes.mono _ _ _ _ _ _ _ _)
      | (with_reducible exact pendulumlaw21_first.mono _)
      | (with_reducible exact LeO.refl _)
      | (with_reducible exact LeO.none _)
      | (with_reducible refine LeO.ite ?_ ?_)
      | (with_reducible refine LeO.bind ?_ (fun _ => ?_))
      | exact ih0 _ _ _ _ _ _ _ _ _ _
      | exact code_Bytes.mono _ _ _ _ _ _ _ _
      | exact pendulumlaw21_first.mono _
      | exact LeO.none _
      | refine LeO.ite ?_ ?_
      | refine LeO.bind ?_ (fun _ => ?_)
theorem pendulumlaw21_CodeBounds.mono : ∀ a0 a1 a2 a3 k, LeO (pendulumlaw21_CodeBounds.f k a0 a1 a2 a3) (pendulumlaw21_CodeBounds.f (k + 1) a0 a1 a2 a3) := by
  intro a0 a1 a2 a3 k
  have ih0 := pendulumlaw21_CodeBounds.mono_l k
  unfold pendulumlaw21_CodeBounds.f
  repeat' first
      | (with_reducible exact ih0 _ _ _ _ _ _ _ _ _ _)
      | (with_reducible exact code_Bytes.mono _ _ _ _ _ _ _ _)
      | (with_reducible exact pendulumlaw21_first.mono _)
      | (with_reducible exact LeO.refl _)
      | (with_reducible exact LeO.none _)
      | (with_reducible refine LeO.ite ?_ ?_)
      | (with_reducible refine LeO.bind ?_ (fun _ => ?_))
      | exact ih0 _ _ _ _ _ _ _ _ _ _
      | exact code_Bytes.mono _ _ _ _ _ _ _ _
      | exact pendulumlaw21_first.mono _
      | exact LeO.none _
      | refine LeO.ite ?_ ?_
      | refine LeO.bind ?_ (fun _ => ?_)
set_option maxHeartbeats 8000000 in
set_option maxRecDepth 100000 in
theorem pendulumlaw21_CodeBounds.calls [Sent] (k : Nat) (a0 : Int) (a1 : Int) (a2 : Int) (a3 : Int) (r : Bool) (w : World) (hG : GlobW w) (hr_ : r = true) (h : pendulumlaw21_CodeBounds.f k a0 a1 a2 a3 = some r) :
    Calls Tryd.prog 3 #[.int .i64 a0, .int .i64 a1, .int .i64 a2, .int .i64 a3] w fun e w' => e = .returned (.bool r) ∧ Below w.heap.size w w' := by
  have hu26 := Tryd.underlying26
  have hu32 := Tryd.underlying32
  have hu34 := Tryd.underlying34
  have HB := Aside0.mk (Below.refl w.heap.size w)
  have HR_ := Aside0.mk hr_
  clear hr_
  have HG := Aside0.mk hG
  clear hG
  have H : ((pendulumlaw21_first.f k).bind fun t271 => (if t271 = true then ((pendulumworld_Number.f a0 260).bind fun t272 => ((pendulumworld_Number.f a1 80).bind fun t273 => (if 0 ≤ t272 then (if (t272 : Int).toNat ≤ 281474976710656 then (pendulumlaw21_CodeBounds.l0 k t272 t273 a2 a3 t271 0 (strOfNums (List.replicate (t272 : Int).toNat 0)) ([] : List Int) a2 (([(⟨12, a3, 0, 0, 0, 0⟩ : S26)] : List (S26)))) else (none)) else (none)))) else (some false))) = some r := h
  clear h
  replace H := Option.bind_eq_some_iff.mp H
  obtain ⟨t271, A50, H⟩ := H
  replace H : (if t271 = true then ((pendulumworld_Number.f a0 260).bind fun t272 => ((pendulumworld_Number.f a1 80).bind fun t273 => (if 0 ≤ t272 then (if (t272 : Int).toNat ≤ 281474976710656 then (pendulumlaw21_CodeBounds.l0 k t272 t273 a2 a3 t271 0 (strOfNums (List.replicate (t272 : Int).toNat 0)) ([] : List Int) a2 (([(⟨12, a3, 0, 0, 0, 0⟩ : S26)] : List (S26)))) else (none)) else (none)))) else (some false)) = some r := H
  have A5 := Aside0.mk A50
  clear A50
  by_cases c6 : t271 = true
  · subst c6
    have H1 : ((pendulumworld_Number.f a0 260).bind fun t272 => ((pendulumworld_Number.f a1 80).bind fun t273 => (if 0 ≤ t272 then (if (t272 : Int).toNat ≤ 281474976710656 then (pendulumlaw21_CodeBounds.l0 k t272 t273 a2 a3 true 0 (strOfNums (List.replicate (t272 : Int).toNat 0)) ([] : List Int) a2 (([(⟨12, a3, 0, 0, 0, 0⟩ : S26)] : List (S26)))) else (none)) else (none)))) = some r := by rw [if_pos rfl] at H; exact H
    clear H
    have H := H1
    clear H1
    replace H := Option.bind_eq_some_iff.mp H
    obtain ⟨t272, A70, H⟩ := H
    replace H : ((pendulumworld_Number.f a1 80).bind fun t273 => (if 0 ≤ t272 then (if (t272 : Int).toNat ≤ 281474976710656 then (pendulumlaw21_CodeBounds.l0 k t272 t273 a2 a3 true 0 (strOfNums (List.replicate (t272 : Int).toNat 0)) ([] : List Int) a2 (([(⟨12, a3, 0, 0, 0, 0⟩ : S26)] : List (S26)))) else (none)) else (none))) = some r := H
    have A7 := Aside0.mk A70
    clear A70
    replace H := Option.bind_eq_some_iff.mp H
    obtain ⟨t273, A80, H⟩ := H
    replace H : (if 0 ≤ t272 then (if (t272 : Int).toNat ≤ 281474976710656 then (pendulumlaw21_CodeBounds.l0 k t272 t273 a2 a3 true 0 (strOfNums (List.replicate (t272 : Int).toNat 0)) ([] : List Int) a2 (([(⟨12, a3, 0, 0, 0, 0⟩ : S26)] : List (S26)))) else (none)) else (none)) = some r := H
    have A8 := Aside0.mk A80
    clear A80
    by_cases c9 : 0 ≤ t272
    · rw [if_pos c9] at H
      have c9b0 := eq_true c9
      have c9b1 : decide (0 ≤ t272) = true := decide_eq_true c9
      clear c9
      by_cases c10 : (t272 : Int).toNat ≤ 281474976710656
      · rw [if_pos c10] at H
        have c10b0 := eq_true c10
        have c10b1 : decide ((t272 : Int).toNat ≤ 281474976710656) = true := decide_eq_true c10
        clear c10
        obtain ⟨y274, hy274⟩ : ∃ y_ : List Int, y_ = (List.replicate (t272 : Int).toNat 0) := ⟨_, rfl⟩
        replace H : (pendulumlaw21_CodeBounds.l0 k t272 t273 a2 a3 true 0 (strOfNums y274) ([] : List Int) a2 (([(⟨12, a3, 0, 0, 0, 0⟩ : S26)] : List (S26)))) = some r := by first | (rw [hy274]; with_reducible exact H) | (have H2_ := (Option.bind_some _ _).symm.trans H; rw [hy274]; with_reducible exact H2_) | (have H2_ := (Option.bind_some _ _).symm.trans H; with_reducible exact H2_) | with_reducible exact H | (rw [hy274]; exact H) | exact H
        have Ny274 := Aside0.mk hy274
        clear hy274
        obtain ⟨y277, hy277⟩ : ∃ y_ : List (S26), y_ = (([(⟨12, a3, 0, 0, 0, 0⟩ : S26)] : List (S26))) := ⟨_, rfl⟩
        replace H : (pendulumlaw21_CodeBounds.l0 k t272 t273 a2 a3 true 0 (strOfNums y274) ([] : List Int) a2 y277) = some r := by first | (rw [hy277]; with_reducible exact H) | (have H2_ := (Option.bind_some _ _).symm.trans H; rw [hy277]; with_reducible exact H2_) | (have H2_ := (Option.bind_some _ _).symm.trans H; with_reducible exact H2_) | with_reducible exact H | (rw [hy277]; exact H) | exact H
        have Ny277 := Aside0.mk hy277
        clear hy277
        have H' := Aside0.mk H
        clear H
        go_enter Tryd.func3, Tryd.ntmps3
        go_wp2_with (first | ((with_reducible refine gate_callee (f := 6) rfl ?_); refine goesL_ (some 14) rfl rfl Tryd.func6 (by kernel_rfl) rfl #[] rfl (by (try simp only [List.map_toArray, List.map_cons, List.map_nil]); first | done | rfl | (simp only [List.length_drop, List.length_take]; rfl)) ?_; (with_reducible refine (pendulumlaw21_first.calls k  true _ ?side1 A5.out).mono ?_); (case side1 => exact GlobW.below HG.out (by repeat (first | (with_reducible first | exact HB.out | apply below_alloc | apply pw_below_drewN | apply below_drew1) | exact HB.out))); rintro e w11 ⟨rfl, hb⟩; refine ⟨_, rfl, ?_⟩; have n0_ := Aside0.mk (below_step (by repeat (first | (with_reducible first | exact HB.out | apply below_alloc | apply pw_below_drewN | apply below_drew1) | exact HB.out)) hb); clear HB; have HB := n0_; clear n0_; (try clear hb); (try clear hb2); (try clear hk); (try clear hi)) | ((with_reducible refine gate_callee (f := 7) rfl ?_); refine goesL_ (some 18) rfl rfl Tryd.func7 (by kernel_rfl) rfl #[.int .i64 a0, .int .i64 260] rfl (by (try simp only [List.map_toArray, List.map_cons, List.map_nil]); first | done | rfl | (simp only [List.length_drop, List.length_take]; rfl)) ?_; (with_reducible refine (pendulumworld_Number.calls a0 260 t272 _ A7.out).mono ?_); rintro e w' ⟨rfl, ⟨nd, rfl⟩⟩; refine ⟨_, rfl, ?_⟩; (try (rw [drewN_self w11]; generalize hq_ : World.drewN w11 _ = w11; have n0_ : Aside0 (Below w.heap.size w w11) := ⟨by rw [← hq_]; exact (by repeat (first | (with_reducible first | exact HB.out | apply below_alloc | apply pw_below_drewN | apply below_drew1) | exact HB.out))⟩; clear HB hq_; have HB := n0_; clear n0_))) | ((with_reducible refine gate_callee (f := 7) rfl ?_); refine goesL_ (some 20) rfl rfl Tryd.func7 (by kernel_rfl) rfl #[.int .i64 a1, .int .i64 80] rfl (by (try simp only [List.map_toArray, List.map_cons, List.map_nil]); first | done | rfl | (simp only [List.length_drop, List.length_take]; rfl)) ?_; (with_reducible refine (pendulumworld_Number.calls a1 80 t273 _ A8.out).mono ?_); rintro e w' ⟨rfl, ⟨nd, rfl⟩⟩; refine ⟨_, rfl, ?_⟩; (try (rw [drewN_self w11]; generalize hq_ : World.drewN w11 _ = w11; have n0_ : Aside0 (Below w.heap.size w w11) := ⟨by rw [← hq_]; exact (by repeat (first | (with_reducible first | exact HB.out | apply below_alloc | apply pw_below_drewN | apply below_drew1) | exact HB.out))⟩; clear HB hq_; have HB := n0_; clear n0_))) | ((with_reducible refine gate_dst (N := 22) rfl ?_); refine Kd.R_make (Kd.int .u8) _ 5 rfl (N := 22) rfl 24 _ _ rfl t272 rfl rfl Tryd.underlying24 (.int .u8 0) 1 info5 rfl (by decide) (by omega) 0 (ok := fun _ => True) (okp := fun _ => True) rfl (fun _ hk => hk) trivial (of_decide_eq_true (by first | (with_reducible assumption) | assumption)) (Nat.le_trans (Nat.mul_le_mul_right _ (of_decide_eq_true (by first | (with_reducible assumption) | assumption) : t272.toNat ≤ 281474976710656)) (by omega)) (Below.refl _ _) (Nat.le_refl _) ?_; intro v275 w12 ho13 hb hg_ hnew_; clear hg_ hnew_; (first | rw [← Ny274.out] at ho13 | (simp only [Int.reduceToNat] at ho13; rw [← Ny274.out] at ho13)); have n0_ := Aside0.mk (Kd.R_lower ho13 (below_size (by repeat (first | (with_reducible first | exact HB.out | apply below_alloc | apply pw_below_drewN | apply below_drew1) | exact HB.out)))); have n1_ := Aside0.mk (below_step (by repeat (first | (with_reducible first | exact HB.out | apply below_alloc | apply pw_below_drewN | apply below_drew1) | exact HB.out)) hb); clear HB; have HO276 := n0_; have HB := n1_; clear n0_ n1_; clear hb ho13; have hcv14 := own_string (P := Tryd.prog) Tryd.underlying24 Tryd.underlying5 Tryd.underlying9 (Kd.own_of_R HO276.out)) | ((with_reducible refine gate_dst (N := 27) rfl ?_); refine Kd.R_lit k26 _ 26 ?hg (N := 27) ?hd (xs := ([(⟨12, a3, 0, 0, 0, 0⟩ : S26)] : List (S26))) (inner := [.int .i64 12, .int .i64 a3, .int .i64 0, .int .i64 0, .int .i64 0, .int .i64 0]) (ok := fun _ => True) (okp := fun _ => True) ?hr ?hp (fun _ hk => hk) trivial (Below.refl _ _) (Nat.le_refl _) (by simp) ?_; (case hd => rfl); (case hg => rfl); (case hr => first | (go_simp; done) | (go_simp; rfl)); (case hp => exact (Reps.c6 (show Kd.M k26 _ _ _ (⟨12, a3, 0, 0, 0, 0⟩ : S26) [.int .i64 12, .int .i64 a3, .int .i64 0, .int .i64 0, .int .i64 0, .int .i64 0] from (k26_mkM _ _ _ (⟨12, a3, 0, 0, 0, 0⟩ : S26) )) (Reps.none _ _))); intro v278 w15 ho16 hb hg_ hnew_; clear hg_ hnew_; (first | rw [← Ny277.out] at ho16 | (simp only [Int.reduceToNat] at ho16; rw [← Ny277.out] at ho16)); have n0_ := Aside0.mk (Kd.R_below (by (with_reducible repeat (first | apply Kd.R_alloc | apply Kd.R_drewN | apply Kd.R_drew)); exact HO276.out) hb); have n1_ := Aside0.mk (Kd.R_lower ho16 (below_size (by repeat (first | (with_reducible first | exact HB.out | apply below_alloc | apply pw_below_drewN | apply below_drew1) | exact HB.out)))); have n2_ := Aside0.mk (below_step (by repeat (first | (with_reducible first | exact HB.out | apply below_alloc | apply pw_below_drewN | apply below_drew1) | exact HB.out)) hb); clear HO276; clear HB; have HO276 := n0_; have HO279 := n1_; have HB := n2_; clear n0_ n1_ n2_; clear hb ho16; obtain ⟨Ao17, co17, eo17⟩ := Kd.R_slice HO279.out; subst eo17) | ((with_reducible refine gate_dst (N := 10) rfl ?_); refine box_event ?hg (N := 10) ?hd (cs := #[.string (⟨#[]⟩ : ByteArray), .slice none 0 0, .slice none 0 0, .int .i64 0, .slice none 0 0, .slice none 0 0, .slice none 0 0]) (t := 32) ?hr ?_; (case hd => rfl); (case hg => rfl); (case hr => first | (go_simp; done) | (go_simp; rfl)); intro gb280 hg w18 hbox hb; have n0_ := Aside0.mk (Kd.R_below (by (with_reducible repeat (first | apply Kd.R_alloc | apply Kd.R_drewN | apply Kd.R_drew)); exact HO276.out) hb); have n1_ := Aside0.mk (Kd.R_below (by (with_reducible repeat (first | apply Kd.R_alloc | apply Kd.R_drewN | apply Kd.R_drew)); exact HO279.out) hb); have n2_ := Aside0.mk (below_step (by repeat (first | (with_reducible first | exact HB.out | apply below_alloc | apply pw_below_drewN | apply below_drew1) | exact HB.out)) hb); have n3_ := Aside0.mk (hbox); have n4_ := Aside0.mk ((by rw [hg]; exact (below_size (by repeat (first | (with_reducible first | exact HB.out | apply below_alloc | apply pw_below_drewN | apply below_drew1) | exact HB.out))) : w.heap.size ≤ gb280)); have n5_ := Aside0.mk ((by rw [hg]; exact (below_size (by repeat (first | (with_reducible first | exact HB.out | apply below_alloc | apply pw_below_drewN | apply below_drew1) | exact HB.out))) : w.heap.size ≤ gb280)); clear HO276; clear HO279; clear HB; have HO276 := n0_; have HO279 := n1_; have HB := n2_; have BK280 := n3_; have GW280 := n4_; have GE280 := n5_; clear n0_ n1_ n2_ n3_ n4_ n5_; clear hb hbox hg; have hcz19_0 : w18.cell? ⟨gb280, 0, none⟩ = some (.string (⟨#[]⟩ : ByteArray)) := (blk_cell BK280.out 0).trans rfl; have hcz19_1 : w18.cell? ⟨gb280, 1, none⟩ = some (.slice none 0 0) := (blk_cell BK280.out 1).trans rfl; have hcz19_2 : w18.cell? ⟨gb280, 2, none⟩ = some (.slice none 0 0) := (blk_cell BK280.out 2).trans rfl; have hcz19_3 : w18.cell? ⟨gb280, 3, none⟩ = some (.int .i64 0) := (blk_cell BK280.out 3).trans rfl; have hcz19_4 : w18.cell? ⟨gb280, 4, none⟩ = some (.slice none 0 0) := (blk_cell BK280.out 4).trans rfl; have hcz19_5 : w18.cell? ⟨gb280, 5, none⟩ = some (.slice none 0 0) := (blk_cell BK280.out 5).trans rfl; have hcz19_6 : w18.cell? ⟨gb280, 6, none⟩ = some (.slice none 0 0) := (blk_cell BK280.out 6).trans rfl; have hfz19_0 := blk_frozen BK280.out 0; have hfz19_1 := blk_frozen BK280.out 1; have hfz19_2 := blk_frozen BK280.out 2; have hfz19_3 := blk_frozen BK280.out 3; have hfz19_4 := blk_frozen BK280.out 4; have hfz19_5 := blk_frozen BK280.out 5; have hfz19_6 := blk_frozen BK280.out 6))
        go_loopg [11] k (fun kq v11 w' => ∃ (x11_1 : Int) (x281001_1 : List Int) (u281001 : Value), v11 = .int .i64 x11_1 ∧ Aside0 (pendulumlaw21_CodeBounds.l0 kq t272 t273 a2 a3 true x11_1 (strOfNums y274) x281001_1 a2 y277 = some r) ∧ Aside0 (kq ≤ k) ∧ Aside0 (Kd.R (Kd.int .i64) 3 w' w.heap.size (fun _ => True) u281001 x281001_1) ∧ Aside0 (Kd.R k26 26 w' w.heap.size (fun _ => True) (.slice Ao17 y277.length co17) y277) ∧ Aside0 (w'.heap[gb280]? = some (.cells #[.string (strOfNums y274), u281001, (.slice none 0 0), .int .i64 a2, (.slice none 0 0), (.slice none 0 0), (.slice Ao17 y277.length co17)] 32 (0, 0))) ∧ Aside0 (Below w.heap.size w w'))
        case atStart => exact ⟨(0), (([] : List Int)), (.slice none 0 0), (by first | rfl | (simp; done) | (simp [*]; done)), H', ⟨Nat.le_refl _⟩, ⟨by first | exact Kd.R_nil _ _ _ _ _ | exact Kd.N_nil _ _ _ _ _ | exact Kd.V_nil _ _ _ _ _ | exact Kd.Q_nil _ _ _ _ _ | exact Kd.S_nil _ _ _ _ _⟩, ⟨by (with_reducible repeat (first | apply Kd.R_alloc | apply Kd.R_drewN | apply Kd.R_drew)); exact Kd.R_mono (Kd.R_far (p := ⟨gb280, 6, none⟩) (Kd.R_far (p := ⟨gb280, 5, none⟩) (Kd.R_far (p := ⟨gb280, 4, none⟩) (Kd.R_far (p := ⟨gb280, 3, none⟩) (Kd.R_far (p := ⟨gb280, 2, none⟩) (Kd.R_far (p := ⟨gb280, 1, none⟩) (Kd.R_far (p := ⟨gb280, 0, none⟩) (Kd.R_types HO279.out BK280.out (by decide)) (fun _ hk => hk.2) (.string (strOfNums y274))) (fun _ hk => hk.2) (.slice none 0 0)) (fun _ hk => hk.2) (.slice none 0 0)) (fun _ hk => hk.2) (.int .i64 a2)) (fun _ hk => hk.2) (.slice none 0 0)) (fun _ hk => hk.2) (.slice none 0 0)) (fun _ hk => hk.2) (.slice Ao17 y277.length co17)) (fun _ hk => trivial)⟩, ⟨by (with_reducible repeat (first | refine blk_drewN ?_ _ | refine blk_drew ?_ | refine blk_alloc ?_ _)); refine blk_put (cs := #[.string (strOfNums y274), .slice none 0 0, .slice none 0 0, .int .i64 a2, .slice none 0 0, .slice none 0 0, .slice none 0 0]) ?_ 6 _ rfl; (with_reducible repeat (first | refine blk_drewN ?_ _ | refine blk_drew ?_ | refine blk_alloc ?_ _)); refine blk_put (cs := #[.string (strOfNums y274), .slice none 0 0, .slice none 0 0, .int .i64 a2, .slice none 0 0, .slice none 0 0, .slice none 0 0]) ?_ 5 _ rfl; (with_reducible repeat (first | refine blk_drewN ?_ _ | refine blk_drew ?_ | refine blk_alloc ?_ _)); refine blk_put (cs := #[.string (strOfNums y274), .slice none 0 0, .slice none 0 0, .int .i64 a2, .slice none 0 0, .slice none 0 0, .slice none 0 0]) ?_ 4 _ rfl; (with_reducible repeat (first | refine blk_drewN ?_ _ | refine blk_drew ?_ | refine blk_alloc ?_ _)); refine blk_put (cs := #[.string (strOfNums y274), .slice none 0 0, .slice none 0 0, .int .i64 0, .slice none 0 0, .slice none 0 0, .slice none 0 0]) ?_ 3 _ rfl; (with_reducible repeat (first | refine blk_drewN ?_ _ | refine blk_drew ?_ | refine blk_alloc ?_ _)); refine blk_put (cs := #[.string (strOfNums y274), .slice none 0 0, .slice none 0 0, .int .i64 0, .slice none 0 0, .slice none 0 0, .slice none 0 0]) ?_ 2 _ rfl; (with_reducible repeat (first | refine blk_drewN ?_ _ | refine blk_drew ?_ | refine blk_alloc ?_ _)); refine blk_put (cs := #[.string (strOfNums y274), .slice none 0 0, .slice none 0 0, .int .i64 0, .slice none 0 0, .slice none 0 0, .slice none 0 0]) ?_ 1 _ rfl; (with_reducible repeat (first | refine blk_drewN ?_ _ | refine blk_drew ?_ | refine blk_alloc ?_ _)); refine blk_put (cs := #[.string (⟨#[]⟩ : ByteArray), .slice none 0 0, .slice none 0 0, .int .i64 0, .slice none 0 0, .slice none 0 0, .slice none 0 0]) ?_ 0 _ rfl; (with_reducible repeat (first | refine blk_drewN ?_ _ | refine blk_drew ?_ | refine blk_alloc ?_ _)); exact BK280.out⟩, ⟨by repeat (first | (with_reducible first | exact HB.out | apply below_alloc | apply pw_below_drewN | apply below_drew1 | refine below_set ?_ GE280.out) | exact HB.out)⟩⟩
        case round =>
          clear H'
          try clear c1
          try clear hcv1
          try clear p2
          try clear c3
          try clear c6
          try clear c7
          try clear c9
          try clear c9b0
          try clear c9b1
          try clear c10
          try clear c10b0
          try clear c10b1
          try clear hcv14
          try clear hcz19_0
          try clear hcz19_1
          try clear hcz19_2
          try clear hcz19_3
          try clear hcz19_4
          try clear hcz19_5
          try clear hcz19_6
          try clear hfz19_0
          try clear hfz19_1
          try clear hfz19_2
          try clear hfz19_3
          try clear hfz19_4
          try clear hfz19_5
          try clear hfz19_6
          obtain ⟨x11_1, x281001_1, u281001, rfl, HA, HK1, HO_281001, HO_281006, BK280, HB⟩ := hrel
          cases gk with
          | zero => exact absurd HA.out (by simp [pendulumlaw21_CodeBounds.l0])
          | succ k1 =>
            have H := HA.out
            clear HA
            simp only [pendulumlaw21_CodeBounds.l0] at H
            by_cases c20 : x11_1 < t273
            · rw [if_pos c20] at H
              have c20b0 : decide (x11_1 < t273) = true := decide_eq_true c20
              clear c20
              by_cases c21 : x281001_1.length < 17592186044416
              · rw [if_pos c21] at H
                have LMc21 := Aside0.mk c21
                clear c21
                obtain ⟨y281, hy281⟩ : ∃ y_ : List Int, y_ = (x281001_1 ++ [1]) := ⟨_, rfl⟩
                replace H : (pendulumlaw21_CodeBounds.l0 k1 t272 t273 a2 a3 true (wrap64 (x11_1 + 1)) (strOfNums y274) y281 a2 y277) = some r := by first | (rw [hy281]; with_reducible exact H) | (have H2_ := (Option.bind_some _ _).symm.trans H; rw [hy281]; with_reducible exact H2_) | (have H2_ := (Option.bind_some _ _).symm.trans H; with_reducible exact H2_) | with_reducible exact H | (rw [hy281]; exact H) | exact H
                have Ny281 := Aside0.mk hy281
                clear hy281
                have H' := Aside0.mk H
                clear H
                have hcz22_0 : wr.cell? ⟨gb280, 0, none⟩ = some (.string (strOfNums y274)) := (blk_cell BK280.out 0).trans rfl
                have hcz22_1 : wr.cell? ⟨gb280, 1, none⟩ = some (u281001) := (blk_cell BK280.out 1).trans rfl
                have hcz22_2 : wr.cell? ⟨gb280, 2, none⟩ = some (.slice none 0 0) := (blk_cell BK280.out 2).trans rfl
                have hcz22_3 : wr.cell? ⟨gb280, 3, none⟩ = some (.int .i64 a2) := (blk_cell BK280.out 3).trans rfl
                have hcz22_4 : wr.cell? ⟨gb280, 4, none⟩ = some (.slice none 0 0) := (blk_cell BK280.out 4).trans rfl
                have hcz22_5 : wr.cell? ⟨gb280, 5, none⟩ = some (.slice none 0 0) := (blk_cell BK280.out 5).trans rfl
                have hcz22_6 : wr.cell? ⟨gb280, 6, none⟩ = some (.slice Ao17 y277.length co17) := (blk_cell BK280.out 6).trans rfl
                have hfz22_0 := blk_frozen BK280.out 0
                have hfz22_1 := blk_frozen BK280.out 1
                have hfz22_2 := blk_frozen BK280.out 2
                have hfz22_3 := blk_frozen BK280.out 3
                have hfz22_4 := blk_frozen BK280.out 4
                have hfz22_5 := blk_frozen BK280.out 5
                have hfz22_6 := blk_frozen BK280.out 6
                go_wp2_with (first | ((with_reducible refine gate_builtin (b := .append) (xs := #[.tmp 35, .tmp 36]) rfl ?_); at_builtin; refine Kd.R_append (Kd.int .i64) (w0 := w) w.heap.size rfl (.tmp 35) (.tmp 36) 28 3 (.int .i64 0) 8 rfl Tryd.underlying28 info3 rfl (by decide) (by omega) u281001 x281001_1 1 [.int .i64 1] (fun _ => True) (fun _ => False) rfl rfl ?aP (fun _ hk => hk.elim) ?aF ?aO ?aB ?aS ?aL ?_; (case aP => exact rfl); (case aB => exact (by repeat (first | (with_reducible first | exact HB.out | apply below_alloc | apply pw_below_drewN | apply below_drew1 | refine below_set ?_ GE280.out) | exact HB.out))); (case aF => exact (fun _ _ => trivial)); (case aO => exact (by (with_reducible repeat (first | apply Kd.R_alloc | apply Kd.R_drewN | apply Kd.R_drew)); exact HO_281001.out)); (case aS => exact (below_size (by repeat (first | (with_reducible first | exact HB.out | apply below_alloc | apply pw_below_drewN | apply below_drew1 | refine below_set ?_ GE280.out) | exact HB.out)))); (case aL => have := LMc21.out; omega); intro v282 w23 ho hb hg hat; rw [← Ny281.out] at ho; have n0_ := Aside0.mk (Kd.R_over' (by (with_reducible repeat (first | apply Kd.R_alloc | apply Kd.R_drewN | apply Kd.R_drew)); exact HO_281006.out) (Kd.R_typed (by (with_reducible repeat (first | apply Kd.R_alloc | apply Kd.R_drewN | apply Kd.R_drew)); exact HO_281001.out)) (by decide) hg); have n1_ := Aside0.mk (blk_grown (g := gb280) (o := .cells #[.string (strOfNums y274), u281001, .slice none 0 0, .int .i64 a2, .slice none 0 0, .slice none 0 0, .slice Ao17 y277.length co17] 32 (0, 0)) (by (with_reducible repeat (first | refine blk_drewN ?_ _ | refine blk_drew ?_ | refine blk_alloc ?_ _)); exact BK280.out) hg (Kd.R_ne HO_281001.out BK280.out (by decide))); have n2_ := Aside0.mk (hb); have n3_ := Aside0.mk (ho); clear HO_281006; clear BK280; clear HB; clear HO_281001; have HO_281006 := n0_; have BK280 := n1_; have HB := n2_; have HO283 := n3_; clear n0_ n1_ n2_ n3_; clear ho hb hg hat; obtain ⟨Ao24, co24, eo24⟩ := Kd.R_slice HO283.out; subst eo24; have hcz25_0 : w23.cell? ⟨gb280, 0, none⟩ = some (.string (strOfNums y274)) := (blk_cell BK280.out 0).trans rfl; have hcz25_1 : w23.cell? ⟨gb280, 1, none⟩ = some (u281001) := (blk_cell BK280.out 1).trans rfl; have hcz25_2 : w23.cell? ⟨gb280, 2, none⟩ = some (.slice none 0 0) := (blk_cell BK280.out 2).trans rfl; have hcz25_3 : w23.cell? ⟨gb280, 3, none⟩ = some (.int .i64 a2) := (blk_cell BK280.out 3).trans rfl; have hcz25_4 : w23.cell? ⟨gb280, 4, none⟩ = some (.slice none 0 0) := (blk_cell BK280.out 4).trans rfl; have hcz25_5 : w23.cell? ⟨gb280, 5, none⟩ = some (.slice none 0 0) := (blk_cell BK280.out 5).trans rfl; have hcz25_6 : w23.cell? ⟨gb280, 6, none⟩ = some (.slice Ao17 y277.length co17) := (blk_cell BK280.out 6).trans rfl; have hfz25_0 := blk_frozen BK280.out 0; have hfz25_1 := blk_frozen BK280.out 1; have hfz25_2 := blk_frozen BK280.out 2; have hfz25_3 := blk_frozen BK280.out 3; have hfz25_4 := blk_frozen BK280.out 4; have hfz25_5 := blk_frozen BK280.out 5; have hfz25_6 := blk_frozen BK280.out 6))
                go_roundg k1
                case measure => have := HK1.out; omega
                case rel => exact ⟨(wrap64 (x11_1 + 1)), (y281), (.slice Ao24 y281.length co24), (by first | rfl | (simp; done) | (simp [*]; done)), H', ⟨by have := HK1.out; omega⟩, ⟨by (with_reducible repeat (first | apply Kd.R_alloc | apply Kd.R_drewN | apply Kd.R_drew)); exact Kd.R_mono (Kd.R_far (p := ⟨gb280, 1, none⟩) (Kd.R_types HO283.out BK280.out (by decide)) (fun _ hk => hk.2) (.slice Ao24 y281.length co24)) (fun _ hk => trivial)⟩, ⟨by (with_reducible repeat (first | apply Kd.R_alloc | apply Kd.R_drewN | apply Kd.R_drew)); exact Kd.R_mono (Kd.R_far (p := ⟨gb280, 1, none⟩) (Kd.R_types HO_281006.out BK280.out (by decide)) (fun _ hk => hk.2) (.slice Ao24 y281.length co24)) (fun _ hk => trivial)⟩, ⟨by (with_reducible repeat (first | refine blk_drewN ?_ _ | refine blk_drew ?_ | refine blk_alloc ?_ _)); refine blk_put (cs := #[.string (strOfNums y274), u281001, .slice none 0 0, .int .i64 a2, .slice none 0 0, .slice none 0 0, .slice Ao17 y277.length co17]) ?_ 1 _ rfl; (with_reducible repeat (first | refine blk_drewN ?_ _ | refine blk_drew ?_ | refine blk_alloc ?_ _)); exact BK280.out⟩, ⟨by repeat (first | (with_reducible first | exact HB.out | apply below_alloc | apply pw_below_drewN | apply below_drew1 | refine below_set ?_ GE280.out) | exact HB.out)⟩⟩
              · rw [if_neg c21] at H
                exact absurd H (by simp)
            · rw [if_neg c20] at H
              have c20b0 : decide (x11_1 < t273) = false := decide_eq_false c20
              clear c20
              replace H := Option.bind_eq_some_iff.mp H
              obtain ⟨⟨t284, t287⟩, A260, H⟩ := H
              replace H : (if t272 > 200 then (if true = true then ((pendulumsee_Is.f t287 109).bind fun t288 => (some t288)) else (some false)) else (if t273 > 64 then (if true = true then ((pendulumsee_Is.f t287 103).bind fun t289 => (some t289)) else (some false)) else (if a2 < 0 then (if true = true then ((pendulumsee_Is.f t287 104).bind fun t290 => (some t290)) else (some false)) else (if a2 > 1024 then (if true = true then ((pendulumsee_Is.f t287 104).bind fun t291 => (some t291)) else (some false)) else (if a3 < (-1) then (if true = true then ((pendulumsee_Is.f t287 104).bind fun t292 => (some t292)) else (some false)) else (if a3 > 1048576 then (if true = true then ((pendulumsee_Is.f t287 104).bind fun t293 => (some t293)) else (some false)) else (if true = true then (if t287.isNone = true then (some true) else (some false)) else (some false)))))))) = some r := H
              have A26 := Aside0.mk A260
              clear A260
              by_cases c27 : t272 > 200
              · rw [if_pos c27] at H
                have c27b0 : decide (200 < t272) = true := decide_eq_true c27
                clear c27
                replace H : ((pendulumsee_Is.f t287 109).bind fun t288 => (some t288)) = some r := by first | (rw [if_pos rfl] at H; exact H) | (simp only [if_true, if_false] at H; exact H)
                replace H := Option.bind_eq_some_iff.mp H
                obtain ⟨t288, A280, H⟩ := H
                replace H : (some t288) = some r := H
                have A28 := Aside0.mk A280
                clear A280
                obtain rfl := Option.some.inj H
                simp only [Option.some.injEq, Prod.mk.injEq] at H
                obtain ⟨rfl⟩ := H
                have hcz29_0 : wr.cell? ⟨gb280, 0, none⟩ = some (.string (strOfNums y274)) := (blk_cell BK280.out 0).trans rfl
                have hcz29_1 : wr.cell? ⟨gb280, 1, none⟩ = some (u281001) := (blk_cell BK280.out 1).trans rfl
                have hcz29_2 : wr.cell? ⟨gb280, 2, none⟩ = some (.slice none 0 0) := (blk_cell BK280.out 2).trans rfl
                have hcz29_3 : wr.cell? ⟨gb280, 3, none⟩ = some (.int .i64 a2) := (blk_cell BK280.out 3).trans rfl
                have hcz29_4 : wr.cell? ⟨gb280, 4, none⟩ = some (.slice none 0 0) := (blk_cell BK280.out 4).trans rfl
                have hcz29_5 : wr.cell? ⟨gb280, 5, none⟩ = some (.slice none 0 0) := (blk_cell BK280.out 5).trans rfl
                have hcz29_6 : wr.cell? ⟨gb280, 6, none⟩ = some (.slice Ao17 y277.length co17) := (blk_cell BK280.out 6).trans rfl
                have hfz29_0 := blk_frozen BK280.out 0
                have hfz29_1 := blk_frozen BK280.out 1
                have hfz29_2 := blk_frozen BK280.out 2
                have hfz29_3 := blk_frozen BK280.out 3
                have hfz29_4 := blk_frozen BK280.out 4
                have hfz29_5 := blk_frozen BK280.out 5
                have hfz29_6 := blk_frozen BK280.out 6
                obtain ⟨Ao30, co30, eo30⟩ := Kd.R_slice HO_281001.out
                subst eo30
                have CN31 := fun f0_ f1_ f2_ f3_ W_ => code_Bytes.calls k1 (strOfNums y274) f0_ f1_ x281001_1 none 0 ([] : List Int) a2 none 0 ([] : List (S51)) none 0 ([] : List (S54)) f2_ f3_ y277 t284 t287 W_
                try simp only [List.length_nil, -Nat.reduceLeDiff] at CN31
                go_wp2_with (first | ((with_reducible refine gate_callee (f := 8) rfl ?_); refine goesL_ (some 41) rfl rfl Tryd.func8 (by kernel_rfl) rfl #[.agg #[.string (strOfNums y274), .slice Ao30 x281001_1.length co30, .slice none 0 0, .int .i64 a2, .slice none 0 0, .slice none 0 0, .slice Ao17 y277.length co17]] rfl (by (try simp only [List.map_toArray, List.map_cons, List.map_nil]); first | done | rfl | (simp only [List.length_drop, List.length_take]; rfl)) ?_; (with_reducible refine (CN31 _ _ _ _ _  ?side1 ?side2 ?side3 ?side4 ?side5 ?side6 ?side7 ?side8 ?side9 ?side10 ?side11 A26.out).mono ?_); (case side1 => repeat (first | exact (Kd.R_reads' HO_281001.out).2.2 | (with_reducible refine Kd.C_alloc ?_ _) | (with_reducible refine Kd.C_drewN ?_ _) | (with_reducible refine Kd.C_drew ?_))); (case side2 => exact (Kd.R_reads' HO_281001.out).2.1); (case side3 => exact Kd.C_nil _ _); (case side4 => exact Nat.le_refl _); (case side5 => exact Kd.C_nil _ _); (case side6 => exact Nat.le_refl _); (case side7 => exact Kd.C_nil _ _); (case side8 => exact Nat.le_refl _); (case side9 => repeat (first | exact (Kd.R_reads' HO_281006.out).2.2 | (with_reducible refine Kd.C_alloc ?_ _) | (with_reducible refine Kd.C_drewN ?_ _) | (with_reducible refine Kd.C_drew ?_))); (case side10 => exact (Kd.R_reads' HO_281006.out).2.1); (case side11 => exact GlobW.below HG.out (by repeat (first | (with_reducible first | exact HB.out | apply below_alloc | apply pw_below_drewN | apply below_drew1 | refine below_set ?_ GE280.out) | exact HB.out))); rintro e w32 ⟨v285, rfl, ho0, hb⟩; refine ⟨_, rfl, ?_⟩; have n0_ := Aside0.mk (Kd.R_below (by (with_reducible repeat (first | apply Kd.R_alloc | apply Kd.R_drewN | apply Kd.R_drew)); exact HO_281001.out) hb); have n1_ := Aside0.mk (Kd.R_below (by (with_reducible repeat (first | apply Kd.R_alloc | apply Kd.R_drewN | apply Kd.R_drew)); exact HO_281006.out) hb); have n2_ := Aside0.mk (Kd.R_lower ho0 (below_size (by repeat (first | (with_reducible first | exact HB.out | apply below_alloc | apply pw_below_drewN | apply below_drew1 | refine below_set ?_ GE280.out) | exact HB.out)))); have n3_ := Aside0.mk (blk_below (g := gb280) (o := .cells #[.string (strOfNums y274), .slice Ao30 x281001_1.length co30, .slice none 0 0, .int .i64 a2, .slice none 0 0, .slice none 0 0, .slice Ao17 y277.length co17] 32 (0, 0)) (by (with_reducible repeat (first | refine blk_drewN ?_ _ | refine blk_drew ?_ | refine blk_alloc ?_ _)); exact BK280.out) hb); have n4_ := Aside0.mk (below_step (by repeat (first | (with_reducible first | exact HB.out | apply below_alloc | apply pw_below_drewN | apply below_drew1 | refine below_set ?_ GE280.out) | exact HB.out)) hb); clear HO_281001; clear HO_281006; clear BK280; clear HB; have HO_281001 := n0_; have HO_281006 := n1_; have HO286 := n2_; have BK280 := n3_; have HB := n4_; clear n0_ n1_ n2_ n3_ n4_; (try clear hb); (try clear hb2); (try clear hk); (try clear hi); (try clear ho0); (try simp only [errW_none, errW_some]); have CA28 := fun W hG_ => pendulumsee_Is.calls t287 109 t288 W hG_ A28.out; try simp only [errW_none, errW_some] at CA28) | (go_at_call 9; (with_reducible refine (CA28 _ ?side1).mono ?_); (case side1 => exact GlobW.below HG.out (by repeat (first | (with_reducible first | exact HB.out | apply below_alloc | apply pw_below_drewN | apply below_drew1 | refine below_set ?_ GE280.out) | exact HB.out))); rintro e w33 ⟨rfl, hb⟩; have n0_ := Aside0.mk (Kd.R_below (by (with_reducible repeat (first | apply Kd.R_alloc | apply Kd.R_drewN | apply Kd.R_drew)); exact HO_281001.out) hb); have n1_ := Aside0.mk (Kd.R_below (by (with_reducible repeat (first | apply Kd.R_alloc | apply Kd.R_drewN | apply Kd.R_drew)); exact HO_281006.out) hb); have n2_ := Aside0.mk (Kd.R_below (by (with_reducible repeat (first | apply Kd.R_alloc | apply Kd.R_drewN | apply Kd.R_drew)); exact HO286.out) hb); have n3_ := Aside0.mk (blk_below (g := gb280) (o := .cells #[.string (strOfNums y274), .slice Ao30 x281001_1.length co30, .slice none 0 0, .int .i64 a2, .slice none 0 0, .slice none 0 0, .slice Ao17 y277.length co17] 32 (0, 0)) (by (with_reducible repeat (first | refine blk_drewN ?_ _ | refine blk_drew ?_ | refine blk_alloc ?_ _)); exact BK280.out) hb); have n4_ := Aside0.mk (below_step (by repeat (first | (with_reducible first | exact HB.out | apply below_alloc | apply pw_below_drewN | apply below_drew1 | refine below_set ?_ GE280.out) | exact HB.out)) hb); clear HO_281001; clear HO_281006; clear HO286; clear BK280; clear HB; have HO_281001 := n0_; have HO_281006 := n1_; have HO286 := n2_; have BK280 := n3_; have HB := n4_; clear n0_ n1_ n2_ n3_ n4_; (try clear hb); (try clear hb2); (try clear hk); (try clear hi)))
                go_ret
                exact ⟨by first | rfl | (simp [errW_none, errW_some] <;> rfl) | (simp [*, errW_none, errW_some] <;> rfl), by repeat (first | (with_reducible first | exact HB.out | apply below_alloc | apply pw_below_drewN | apply below_drew1 | refine below_set ?_ GE280.out) | exact HB.out)⟩
              · rw [if_neg c27] at H
                have c27b0 : decide (200 < t272) = false := decide_eq_false c27
                clear c27
                by_cases c34 : t273 > 64
                · rw [if_pos c34] at H
                  have c34b0 : decide (64 < t273) = true := decide_eq_true c34
                  clear c34
                  replace H : ((pendulumsee_Is.f t287 103).bind fun t289 => (some t289)) = some r := by first | (rw [if_pos rfl] at H; exact H) | (simp only [if_true, if_false] at H; exact H)
                  replace H := Option.bind_eq_some_iff.mp H
                  obtain ⟨t289, A350, H⟩ := H
                  replace H : (some t289) = some r := H
                  have A35 := Aside0.mk A350
                  clear A350
                  obtain rfl := Option.some.inj H
                  simp only [Option.some.injEq, Prod.mk.injEq] at H
                  obtain ⟨rfl⟩ := H
                  have hcz36_0 : wr.cell? ⟨gb280, 0, none⟩ = some (.string (strOfNums y274)) := (blk_cell BK280.out 0).trans rfl
                  have hcz36_1 : wr.cell? ⟨gb280, 1, none⟩ = some (u281001) := (blk_cell BK280.out 1).trans rfl
                  have hcz36_2 : wr.cell? ⟨gb280, 2, none⟩ = some (.slice none 0 0) := (blk_cell BK280.out 2).trans rfl
                  have hcz36_3 : wr.cell? ⟨gb280, 3, none⟩ = some (.int .i64 a2) := (blk_cell BK280.out 3).trans rfl
                  have hcz36_4 : wr.cell? ⟨gb280, 4, none⟩ = some (.slice none 0 0) := (blk_cell BK280.out 4).trans rfl
                  have hcz36_5 : wr.cell? ⟨gb280, 5, none⟩ = some (.slice none 0 0) := (blk_cell BK280.out 5).trans rfl
                  have hcz36_6 : wr.cell? ⟨gb280, 6, none⟩ = some (.slice Ao17 y277.length co17) := (blk_cell BK280.out 6).trans rfl
                  have hfz36_0 := blk_frozen BK280.out 0
                  have hfz36_1 := blk_frozen BK280.out 1
                  have hfz36_2 := blk_frozen BK280.out 2
                  have hfz36_3 := blk_frozen BK280.out 3
                  have hfz36_4 := blk_frozen BK280.out 4
                  have hfz36_5 := blk_frozen BK280.out 5
                  have hfz36_6 := blk_frozen BK280.out 6
                  obtain ⟨Ao37, co37, eo37⟩ := Kd.R_slice HO_281001.out
                  subst eo37
                  have CN38 := fun f0_ f1_ f2_ f3_ W_ => code_Bytes.calls k1 (strOfNums y274) f0_ f1_ x281001_1 none 0 ([] : List Int) a2 none 0 ([] : List (S51)) none 0 ([] : List (S54)) f2_ f3_ y277 t284 t287 W_
                  try simp only [List.length_nil, -Nat.reduceLeDiff] at CN38
                  go_wp2_with (first | ((with_reducible refine gate_callee (f := 8) rfl ?_); refine goesL_ (some 41) rfl rfl Tryd.func8 (by kernel_rfl) rfl #[.agg #[.string (strOfNums y274), .slice Ao37 x281001_1.length co37, .slice none 0 0, .int .i64 a2, .slice none 0 0, .slice none 0 0, .slice Ao17 y277.length co17]] rfl (by (try simp only [List.map_toArray, List.map_cons, List.map_nil]); first | done | rfl | (simp only [List.length_drop, List.length_take]; rfl)) ?_; (with_reducible refine (CN38 _ _ _ _ _  ?side1 ?side2 ?side3 ?side4 ?side5 ?side6 ?side7 ?side8 ?side9 ?side10 ?side11 A26.out).mono ?_); (case side1 => repeat (first | exact (Kd.R_reads' HO_281001.out).2.2 | (with_reducible refine Kd.C_alloc ?_ _) | (with_reducible refine Kd.C_drewN ?_ _) | (with_reducible refine Kd.C_drew ?_))); (case side2 => exact (Kd.R_reads' HO_281001.out).2.1); (case side3 => exact Kd.C_nil _ _); (case side4 => exact Nat.le_refl _); (case side5 => exact Kd.C_nil _ _); (case side6 => exact Nat.le_refl _); (case side7 => exact Kd.C_nil _ _); (case side8 => exact Nat.le_refl _); (case side9 => repeat (first | exact (Kd.R_reads' HO_281006.out).2.2 | (with_reducible refine Kd.C_alloc ?_ _) | (with_reducible refine Kd.C_drewN ?_ _) | (with_reducible refine Kd.C_drew ?_))); (case side10 => exact (Kd.R_reads' HO_281006.out).2.1); (case side11 => exact GlobW.below HG.out (by repeat (first | (with_reducible first | exact HB.out | apply below_alloc | apply pw_below_drewN | apply below_drew1 | refine below_set ?_ GE280.out) | exact HB.out))); rintro e w39 ⟨v285, rfl, ho0, hb⟩; refine ⟨_, rfl, ?_⟩; have n0_ := Aside0.mk (Kd.R_below (by (with_reducible repeat (first | apply Kd.R_alloc | apply Kd.R_drewN | apply Kd.R_drew)); exact HO_281001.out) hb); have n1_ := Aside0.mk (Kd.R_below (by (with_reducible repeat (first | apply Kd.R_alloc | apply Kd.R_drewN | apply Kd.R_drew)); exact HO_281006.out) hb); have n2_ := Aside0.mk (Kd.R_lower ho0 (below_size (by repeat (first | (with_reducible first | exact HB.out | apply below_alloc | apply pw_below_drewN | apply below_drew1 | refine below_set ?_ GE280.out) | exact HB.out)))); have n3_ := Aside0.mk (blk_below (g := gb280) (o := .cells #[.string (strOfNums y274), .slice Ao37 x281001_1.length co37, .slice none 0 0, .int .i64 a2, .slice none 0 0, .slice none 0 0, .slice Ao17 y277.length co17] 32 (0, 0)) (by (with_reducible repeat (first | refine blk_drewN ?_ _ | refine blk_drew ?_ | refine blk_alloc ?_ _)); exact BK280.out) hb); have n4_ := Aside0.mk (below_step (by repeat (first | (with_reducible first | exact HB.out | apply below_alloc | apply pw_below_drewN | apply below_drew1 | refine below_set ?_ GE280.out) | exact HB.out)) hb); clear HO_281001; clear HO_281006; clear BK280; clear HB; have HO_281001 := n0_; have HO_281006 := n1_; have HO286 := n2_; have BK280 := n3_; have HB := n4_; clear n0_ n1_ n2_ n3_ n4_; (try clear hb); (try clear hb2); (try clear hk); (try clear hi); (try clear ho0); (try simp only [errW_none, errW_some]); have CA35 := fun W hG_ => pendulumsee_Is.calls t287 103 t289 W hG_ A35.out; try simp only [errW_none, errW_some] at CA35) | (go_at_call 9; (with_reducible refine (CA35 _ ?side1).mono ?_); (case side1 => exact GlobW.below HG.out (by repeat (first | (with_reducible first | exact HB.out | apply below_alloc | apply pw_below_drewN | apply below_drew1 | refine below_set ?_ GE280.out) | exact HB.out))); rintro e w40 ⟨rfl, hb⟩; have n0_ := Aside0.mk (Kd.R_below (by (with_reducible repeat (first | apply Kd.R_alloc | apply Kd.R_drewN | apply Kd.R_drew)); exact HO_281001.out) hb); have n1_ := Aside0.mk (Kd.R_below (by (with_reducible repeat (first | apply Kd.R_alloc | apply Kd.R_drewN | apply Kd.R_drew)); exact HO_281006.out) hb); have n2_ := Aside0.mk (Kd.R_below (by (with_reducible repeat (first | apply Kd.R_alloc | apply Kd.R_drewN | apply Kd.R_drew)); exact HO286.out) hb); have n3_ := Aside0.mk (blk_below (g := gb280) (o := .cells #[.string (strOfNums y274), .slice Ao37 x281001_1.length co37, .slice none 0 0, .int .i64 a2, .slice none 0 0, .slice none 0 0, .slice Ao17 y277.length co17] 32 (0, 0)) (by (with_reducible repeat (first | refine blk_drewN ?_ _ | refine blk_drew ?_ | refine blk_alloc ?_ _)); exact BK280.out) hb); have n4_ := Aside0.mk (below_step (by repeat (first | (with_reducible first | exact HB.out | apply below_alloc | apply pw_below_drewN | apply below_drew1 | refine below_set ?_ GE280.out) | exact HB.out)) hb); clear HO_281001; clear HO_281006; clear HO286; clear BK280; clear HB; have HO_281001 := n0_; have HO_281006 := n1_; have HO286 := n2_; have BK280 := n3_; have HB := n4_; clear n0_ n1_ n2_ n3_ n4_; (try clear hb); (try clear hb2); (try clear hk); (try clear hi)))
                  go_ret
                  exact ⟨by first | rfl | (simp [errW_none, errW_some] <;> rfl) | (simp [*, errW_none, errW_some] <;> rfl), by repeat (first | (with_reducible first | exact HB.out | apply below_alloc | apply pw_below_drewN | apply below_drew1 | refine below_set ?_ GE280.out) | exact HB.out)⟩
                · rw [if_neg c34] at H
                  have c34b0 : decide (64 < t273) = false := decide_eq_false c34
                  clear c34
                  by_cases c41 : a2 < 0
                  · rw [if_pos c41] at H
                    have c41b0 : decide (a2 < 0) = true := decide_eq_true c41
                    clear c41
                    replace H : ((pendulumsee_Is.f t287 104).bind fun t290 => (some t290)) = some r := by first | (rw [if_pos rfl] at H; exact H) | (simp only [if_true, if_false] at H; exact H)
                    replace H := Option.bind_eq_some_iff.mp H
                    obtain ⟨t290, A420, H⟩ := H
                    replace H : (some t290) = some r := H
                    have A42 := Aside0.mk A420
                    clear A420
                    obtain rfl := Option.some.inj H
                    simp only [Option.some.injEq, Prod.mk.injEq] at H
                    obtain ⟨rfl⟩ := H
                    have hcz43_0 : wr.cell? ⟨gb280, 0, none⟩ = some (.string (strOfNums y274)) := (blk_cell BK280.out 0).trans rfl
                    have hcz43_1 : wr.cell? ⟨gb280, 1, none⟩ = some (u281001) := (blk_cell BK280.out 1).trans rfl
                    have hcz43_2 : wr.cell? ⟨gb280, 2, none⟩ = some (.slice none 0 0) := (blk_cell BK280.out 2).trans rfl
                    have hcz43_3 : wr.cell? ⟨gb280, 3, none⟩ = some (.int .i64 a2) := (blk_cell BK280.out 3).trans rfl
                    have hcz43_4 : wr.cell? ⟨gb280, 4, none⟩ = some (.slice none 0 0) := (blk_cell BK280.out 4).trans rfl
                    have hcz43_5 : wr.cell? ⟨gb280, 5, none⟩ = some (.slice none 0 0) := (blk_cell BK280.out 5).trans rfl
                    have hcz43_6 : wr.cell? ⟨gb280, 6, none⟩ = some (.slice Ao17 y277.length co17) := (blk_cell BK280.out 6).trans rfl
                    have hfz43_0 := blk_frozen BK280.out 0
                    have hfz43_1 := blk_frozen BK280.out 1
                    have hfz43_2 := blk_frozen BK280.out 2
                    have hfz43_3 := blk_frozen BK280.out 3
                    have hfz43_4 := blk_frozen BK280.out 4
                    have hfz43_5 := blk_frozen BK280.out 5
                    have hfz43_6 := blk_frozen BK280.out 6
                    obtain ⟨Ao44, co44, eo44⟩ := Kd.R_slice HO_281001.out
                    subst eo44
                    have CN45 := fun f0_ f1_ f2_ f3_ W_ => code_Bytes.calls k1 (strOfNums y274) f0_ f1_ x281001_1 none 0 ([] : List Int) a2 none 0 ([] : List (S51)) none 0 ([] : List (S54)) f2_ f3_ y277 t284 t287 W_
                    try simp only [List.length_nil, -Nat.reduceLeDiff] at CN45
                    go_wp2_with (first | ((with_reducible refine gate_callee (f := 8) rfl ?_); refine goesL_ (some 41) rfl rfl Tryd.func8 (by kernel_rfl) rfl #[.agg #[.string (strOfNums y274), .slice Ao44 x281001_1.length co44, .slice none 0 0, .int .i64 a2, .slice none 0 0, .slice none 0 0, .slice Ao17 y277.length co17]] rfl (by (try simp only [List.map_toArray, List.map_cons, List.map_nil]); first | done | rfl | (simp only [List.length_drop, List.length_take]; rfl)) ?_; (with_reducible refine (CN45 _ _ _ _ _  ?side1 ?side2 ?side3 ?side4 ?side5 ?side6 ?side7 ?side8 ?side9 ?side10 ?side11 A26.out).mono ?_); (case side1 => repeat (first | exact (Kd.R_reads' HO_281001.out).2.2 | (with_reducible refine Kd.C_alloc ?_ _) | (with_reducible refine Kd.C_drewN ?_ _) | (with_reducible refine Kd.C_drew ?_))); (case side2 => exact (Kd.R_reads' HO_281001.out).2.1); (case side3 => exact Kd.C_nil _ _); (case side4 => exact Nat.le_refl _); (case side5 => exact Kd.C_nil _ _); (case side6 => exact Nat.le_refl _); (case side7 => exact Kd.C_nil _ _); (case side8 => exact Nat.le_refl _); (case side9 => repeat (first | exact (Kd.R_reads' HO_281006.out).2.2 | (with_reducible refine Kd.C_alloc ?_ _) | (with_reducible refine Kd.C_drewN ?_ _) | (with_reducible refine Kd.C_drew ?_))); (case side10 => exact (Kd.R_reads' HO_281006.out).2.1); (case side11 => exact GlobW.below HG.out (by repeat (first | (with_reducible first | exact HB.out | apply below_alloc | apply pw_below_drewN | apply below_drew1 | refine below_set ?_ GE280.out) | exact HB.out))); rintro e w46 ⟨v285, rfl, ho0, hb⟩; refine ⟨_, rfl, ?_⟩; have n0_ := Aside0.mk (Kd.R_below (by (with_reducible repeat (first | apply Kd.R_alloc | apply Kd.R_drewN | apply Kd.R_drew)); exact HO_281001.out) hb); have n1_ := Aside0.mk (Kd.R_below (by (with_reducible repeat (first | apply Kd.R_alloc | apply Kd.R_drewN | apply Kd.R_drew)); exact HO_281006.out) hb); have n2_ := Aside0.mk (Kd.R_lower ho0 (below_size (by repeat (first | (with_reducible first | exact HB.out | apply below_alloc | apply pw_below_drewN | apply below_drew1 | refine below_set ?_ GE280.out) | exact HB.out)))); have n3_ := Aside0.mk (blk_below (g := gb280) (o := .cells #[.string (strOfNums y274), .slice Ao44 x281001_1.length co44, .slice none 0 0, .int .i64 a2, .slice none 0 0, .slice none 0 0, .slice Ao17 y277.length co17] 32 (0, 0)) (by (with_reducible repeat (first | refine blk_drewN ?_ _ | refine blk_drew ?_ | refine blk_alloc ?_ _)); exact BK280.out) hb); have n4_ := Aside0.mk (below_step (by repeat (first | (with_reducible first | exact HB.out | apply below_alloc | apply pw_below_drewN | apply below_drew1 | refine below_set ?_ GE280.out) | exact HB.out)) hb); clear HO_281001; clear HO_281006; clear BK280; clear HB; have HO_281001 := n0_; have HO_281006 := n1_; have HO286 := n2_; have BK280 := n3_; have HB := n4_; clear n0_ n1_ n2_ n3_ n4_; (try clear hb); (try clear hb2); (try clear hk); (try clear hi); (try clear ho0); (try simp only [errW_none, errW_some]); have CA42 := fun W hG_ => pendulumsee_Is.calls t287 104 t290 W hG_ A42.out; try simp only [errW_none, errW_some] at CA42) | (go_at_call 9; (with_reducible refine (CA42 _ ?side1).mono ?_); (case side1 => exact GlobW.below HG.out (by repeat (first | (with_reducible first | exact HB.out | apply below_alloc | apply pw_below_drewN | apply below_drew1 | refine below_set ?_ GE280.out) | exact HB.out))); rintro e w47 ⟨rfl, hb⟩; have n0_ := Aside0.mk (Kd.R_below (by (with_reducible repeat (first | apply Kd.R_alloc | apply Kd.R_drewN | apply Kd.R_drew)); exact HO_281001.out) hb); have n1_ := Aside0.mk (Kd.R_below (by (with_reducible repeat (first | apply Kd.R_alloc | apply Kd.R_drewN | apply Kd.R_drew)); exact HO_281006.out) hb); have n2_ := Aside0.mk (Kd.R_below (by (with_reducible repeat (first | apply Kd.R_alloc | apply Kd.R_drewN | apply Kd.R_drew)); exact HO286.out) hb); have n3_ := Aside0.mk (blk_below (g := gb280) (o := .cells #[.string (strOfNums y274), .slice Ao44 x281001_1.length co44, .slice none 0 0, .int .i64 a2, .slice none 0 0, .slice none 0 0, .slice Ao17 y277.length co17] 32 (0, 0)) (by (with_reducible repeat (first | refine blk_drewN ?_ _ | refine blk_drew ?_ | refine blk_alloc ?_ _)); exact BK280.out) hb); have n4_ := Aside0.mk (below_step (by repeat (first | (with_reducible first | exact HB.out | apply below_alloc | apply pw_below_drewN | apply below_drew1 | refine below_set ?_ GE280.out) | exact HB.out)) hb); clear HO_281001; clear HO_281006; clear HO286; clear BK280; clear HB; have HO_281001 := n0_; have HO_281006 := n1_; have HO286 := n2_; have BK280 := n3_; have HB := n4_; clear n0_ n1_ n2_ n3_ n4_; (try clear hb); (try clear hb2); (try clear hk); (try clear hi)))
                    go_ret
                    exact ⟨by first | rfl | (simp [errW_none, errW_some] <;> rfl) | (simp [*, errW_none, errW_some] <;> rfl), by repeat (first | (with_reducible first | exact HB.out | apply below_alloc | apply pw_below_drewN | apply below_drew1 | refine below_set ?_ GE280.out) | exact HB.out)⟩
                  · rw [if_neg c41] at H
                    have c41b0 : decide (a2 < 0) = false := decide_eq_false c41
                    clear c41
                    by_cases c48 : a2 > 1024
                    · rw [if_pos c48] at H
                      have c48b0 : decide (1024 < a2) = true := decide_eq_true c48
                      clear c48
                      replace H : ((pendulumsee_Is.f t287 104).bind fun t291 => (some t291)) = some r := by first | (rw [if_pos rfl] at H; exact H) | (simp only [if_true, if_false] at H; exact H)
                      replace H := Option.bind_eq_some_iff.mp H
                      obtain ⟨t291, A490, H⟩ := H
                      replace H : (some t291) = some r := H
                      have A49 := Aside0.mk A490
                      clear A490
                      obtain rfl := Option.some.inj H
                      simp only [Option.some.injEq, Prod.mk.injEq] at H
                      obtain ⟨rfl⟩ := H
                      have hcz50_0 : wr.cell? ⟨gb280, 0, none⟩ = some (.string (strOfNums y274)) := (blk_cell BK280.out 0).trans rfl
                      have hcz50_1 : wr.cell? ⟨gb280, 1, none⟩ = some (u281001) := (blk_cell BK280.out 1).trans rfl
                      have hcz50_2 : wr.cell? ⟨gb280, 2, none⟩ = some (.slice none 0 0) := (blk_cell BK280.out 2).trans rfl
                      have hcz50_3 : wr.cell? ⟨gb280, 3, none⟩ = some (.int .i64 a2) := (blk_cell BK280.out 3).trans rfl
                      have hcz50_4 : wr.cell? ⟨gb280, 4, none⟩ = some (.slice none 0 0) := (blk_cell BK280.out 4).trans rfl
                      have hcz50_5 : wr.cell? ⟨gb280, 5, none⟩ = some (.slice none 0 0) := (blk_cell BK280.out 5).trans rfl
                      have hcz50_6 : wr.cell? ⟨gb280, 6, none⟩ = some (.slice Ao17 y277.length co17) := (blk_cell BK280.out 6).trans rfl
                      have hfz50_0 := blk_frozen BK280.out 0
                      have hfz50_1 := blk_frozen BK280.out 1
                      have hfz50_2 := blk_frozen BK280.out 2
                      have hfz50_3 := blk_frozen BK280.out 3
                      have hfz50_4 := blk_frozen BK280.out 4
                      have hfz50_5 := blk_frozen BK280.out 5
                      have hfz50_6 := blk_frozen BK280.out 6
                      obtain ⟨Ao51, co51, eo51⟩ := Kd.R_slice HO_281001.out
                      subst eo51
                      have CN52 := fun f0_ f1_ f2_ f3_ W_ => code_Bytes.calls k1 (strOfNums y274) f0_ f1_ x281001_1 none 0 ([] : List Int) a2 none 0 ([] : List (S51)) none 0 ([] : List (S54)) f2_ f3_ y277 t284 t287 W_
                      try simp only [List.length_nil, -Nat.reduceLeDiff] at CN52
                      go_wp2_with (first | ((with_reducible refine gate_callee (f := 8) rfl ?_); refine goesL_ (some 41) rfl rfl Tryd.func8 (by kernel_rfl) rfl #[.agg #[.string (strOfNums y274), .slice Ao51 x281001_1.length co51, .slice none 0 0, .int .i64 a2, .slice none 0 0, .slice none 0 0, .slice Ao17 y277.length co17]] rfl (by (try simp only [List.map_toArray, List.map_cons, List.map_nil]); first | done | rfl | (simp only [List.length_drop, List.length_take]; rfl)) ?_; (with_reducible refine (CN52 _ _ _ _ _  ?side1 ?side2 ?side3 ?side4 ?side5 ?side6 ?side7 ?side8 ?side9 ?side10 ?side11 A26.out).mono ?_); (case side1 => repeat (first | exact (Kd.R_reads' HO_281001.out).2.2 | (with_reducible refine Kd.C_alloc ?_ _) | (with_reducible refine Kd.C_drewN ?_ _) | (with_reducible refine Kd.C_drew ?_))); (case side2 => exact (Kd.R_reads' HO_281001.out).2.1); (case side3 => exact Kd.C_nil _ _); (case side4 => exact Nat.le_refl _); (case side5 => exact Kd.C_nil _ _); (case side6 => exact Nat.le_refl _); (case side7 => exact Kd.C_nil _ _); (case side8 => exact Nat.le_refl _); (case side9 => repeat (first | exact (Kd.R_reads' HO_281006.out).2.2 | (with_reducible refine Kd.C_alloc ?_ _) | (with_reducible refine Kd.C_drewN ?_ _) | (with_reducible refine Kd.C_drew ?_))); (case side10 => exact (Kd.R_reads' HO_281006.out).2.1); (case side11 => exact GlobW.below HG.out (by repeat (first | (with_reducible first | exact HB.out | apply below_alloc | apply pw_below_drewN | apply below_drew1 | refine below_set ?_ GE280.out) | exact HB.out))); rintro e w53 ⟨v285, rfl, ho0, hb⟩; refine ⟨_, rfl, ?_⟩; have n0_ := Aside0.mk (Kd.R_below (by (with_reducible repeat (first | apply Kd.R_alloc | apply Kd.R_drewN | apply Kd.R_drew)); exact HO_281001.out) hb); have n1_ := Aside0.mk (Kd.R_below (by (with_reducible repeat (first | apply Kd.R_alloc | apply Kd.R_drewN | apply Kd.R_drew)); exact HO_281006.out) hb); have n2_ := Aside0.mk (Kd.R_lower ho0 (below_size (by repeat (first | (with_reducible first | exact HB.out | apply below_alloc | apply pw_below_drewN | apply below_drew1 | refine below_set ?_ GE280.out) | exact HB.out)))); have n3_ := Aside0.mk (blk_below (g := gb280) (o := .cells #[.string (strOfNums y274), .slice Ao51 x281001_1.length co51, .slice none 0 0, .int .i64 a2, .slice none 0 0, .slice none 0 0, .slice Ao17 y277.length co17] 32 (0, 0)) (by (with_reducible repeat (first | refine blk_drewN ?_ _ | refine blk_drew ?_ | refine blk_alloc ?_ _)); exact BK280.out) hb); have n4_ := Aside0.mk (below_step (by repeat (first | (with_reducible first | exact HB.out | apply below_alloc | apply pw_below_drewN | apply below_drew1 | refine below_set ?_ GE280.out) | exact HB.out)) hb); clear HO_281001; clear HO_281006; clear BK280; clear HB; have HO_281001 := n0_; have HO_281006 := n1_; have HO286 := n2_; have BK280 := n3_; have HB := n4_; clear n0_ n1_ n2_ n3_ n4_; (try clear hb); (try clear hb2); (try clear hk); (try clear hi); (try clear ho0); (try simp only [errW_none, errW_some]); have CA49 := fun W hG_ => pendulumsee_Is.calls t287 104 t291 W hG_ A49.out; try simp only [errW_none, errW_some] at CA49) | (go_at_call 9; (with_reducible refine (CA49 _ ?side1).mono ?_); (case side1 => exact GlobW.below HG.out (by repeat (first | (with_reducible first | exact HB.out | apply below_alloc | apply pw_below_drewN | apply below_drew1 | refine below_set ?_ GE280.out) | exact HB.out))); rintro e w54 ⟨rfl, hb⟩; have n0_ := Aside0.mk (Kd.R_below (by (with_reducible repeat (first | apply Kd.R_alloc | apply Kd.R_drewN | apply Kd.R_drew)); exact HO_281001.out) hb); have n1_ := Aside0.mk (Kd.R_below (by (with_reducible repeat (first | apply Kd.R_alloc | apply Kd.R_drewN | apply Kd.R_drew)); exact HO_281006.out) hb); have n2_ := Aside0.mk (Kd.R_below (by (with_reducible repeat (first | apply Kd.R_alloc | apply Kd.R_drewN | apply Kd.R_drew)); exact HO286.out) hb); have n3_ := Aside0.mk (blk_below (g := gb280) (o := .cells #[.string (strOfNums y274), .slice Ao51 x281001_1.length co51, .slice none 0 0, .int .i64 a2, .slice none 0 0, .slice none 0 0, .slice Ao17 y277.length co17] 32 (0, 0)) (by (with_reducible repeat (first | refine blk_drewN ?_ _ | refine blk_drew ?_ | refine blk_alloc ?_ _)); exact BK280.out) hb); have n4_ := Aside0.mk (below_step (by repeat (first | (with_reducible first | exact HB.out | apply below_alloc | apply pw_below_drewN | apply below_drew1 | refine below_set ?_ GE280.out) | exact HB.out)) hb); clear HO_281001; clear HO_281006; clear HO286; clear BK280; clear HB; have HO_281001 := n0_; have HO_281006 := n1_; have HO286 := n2_; have BK280 := n3_; have HB := n4_; clear n0_ n1_ n2_ n3_ n4_; (try clear hb); (try clear hb2); (try clear hk); (try clear hi)))
                      go_ret
                      exact ⟨by first | rfl | (simp [errW_none, errW_some] <;> rfl) | (simp [*, errW_none, errW_some] <;> rfl), by repeat (first | (with_reducible first | exact HB.out | apply below_alloc | apply pw_below_drewN | apply below_drew1 | refine below_set ?_ GE280.out) | exact HB.out)⟩
                    · rw [if_neg c48] at H
                      have c48b0 : decide (1024 < a2) = false := decide_eq_false c48
                      clear c48
                      by_cases c55 : a3 < (-1)
                      · rw [if_pos c55] at H
                        have c55b0 : decide (a3 < (-1)) = true := decide_eq_true c55
                        clear c55
                        replace H : ((pendulumsee_Is.f t287 104).bind fun t292 => (some t292)) = some r := by first | (rw [if_pos rfl] at H; exact H) | (simp only [if_true, if_false] at H; exact H)
                        replace H := Option.bind_eq_some_iff.mp H
                        obtain ⟨t292, A560, H⟩ := H
                        replace H : (some t292) = some r := H
                        have A56 := Aside0.mk A560
                        clear A560
                        obtain rfl := Option.some.inj H
                        simp only [Option.some.injEq, Prod.mk.injEq] at H
                        obtain ⟨rfl⟩ := H
                        have hcz57_0 : wr.cell? ⟨gb280, 0, none⟩ = some (.string (strOfNums y274)) := (blk_cell BK280.out 0).trans rfl
                        have hcz57_1 : wr.cell? ⟨gb280, 1, none⟩ = some (u281001) := (blk_cell BK280.out 1).trans rfl
                        have hcz57_2 : wr.cell? ⟨gb280, 2, none⟩ = some (.slice none 0 0) := (blk_cell BK280.out 2).trans rfl
                        have hcz57_3 : wr.cell? ⟨gb280, 3, none⟩ = some (.int .i64 a2) := (blk_cell BK280.out 3).trans rfl
                        have hcz57_4 : wr.cell? ⟨gb280, 4, none⟩ = some (.slice none 0 0) := (blk_cell BK280.out 4).trans rfl
                        have hcz57_5 : wr.cell? ⟨gb280, 5, none⟩ = some (.slice none 0 0) := (blk_cell BK280.out 5).trans rfl
                        have hcz57_6 : wr.cell? ⟨gb280, 6, none⟩ = some (.slice Ao17 y277.length co17) := (blk_cell BK280.out 6).trans rfl
                        have hfz57_0 := blk_frozen BK280.out 0
                        have hfz57_1 := blk_frozen BK280.out 1
                        have hfz57_2 := blk_frozen BK280.out 2
                        have hfz57_3 := blk_frozen BK280.out 3
                        have hfz57_4 := blk_frozen BK280.out 4
                        have hfz57_5 := blk_frozen BK280.out 5
                        have hfz57_6 := blk_frozen BK280.out 6
                        obtain ⟨Ao58, co58, eo58⟩ := Kd.R_slice HO_281001.out
                        subst eo58
                        have CN59 := fun f0_ f1_ f2_ f3_ W_ => code_Bytes.calls k1 (strOfNums y274) f0_ f1_ x281001_1 none 0 ([] : List Int) a2 none 0 ([] : List (S51)) none 0 ([] : List (S54)) f2_ f3_ y277 t284 t287 W_
                        try simp only [List.length_nil, -Nat.reduceLeDiff] at CN59
                        go_wp2_with (first | ((with_reducible refine gate_callee (f := 8) rfl ?_); refine goesL_ (some 41) rfl rfl Tryd.func8 (by kernel_rfl) rfl #[.agg #[.string (strOfNums y274), .slice Ao58 x281001_1.length co58, .slice none 0 0, .int .i64 a2, .slice none 0 0, .slice none 0 0, .slice Ao17 y277.length co17]] rfl (by (try simp only [List.map_toArray, List.map_cons, List.map_nil]); first | done | rfl | (simp only [List.length_drop, List.length_take]; rfl)) ?_; (with_reducible refine (CN59 _ _ _ _ _  ?side1 ?side2 ?side3 ?side4 ?side5 ?side6 ?side7 ?side8 ?side9 ?side10 ?side11 A26.out).mono ?_); (case side1 => repeat (first | exact (Kd.R_reads' HO_281001.out).2.2 | (with_reducible refine Kd.C_alloc ?_ _) | (with_reducible refine Kd.C_drewN ?_ _) | (with_reducible refine Kd.C_drew ?_))); (case side2 => exact (Kd.R_reads' HO_281001.out).2.1); (case side3 => exact Kd.C_nil _ _); (case side4 => exact Nat.le_refl _); (case side5 => exact Kd.C_nil _ _); (case side6 => exact Nat.le_refl _); (case side7 => exact Kd.C_nil _ _); (case side8 => exact Nat.le_refl _); (case side9 => repeat (first | exact (Kd.R_reads' HO_281006.out).2.2 | (with_reducible refine Kd.C_alloc ?_ _) | (with_reducible refine Kd.C_drewN ?_ _) | (with_reducible refine Kd.C_drew ?_))); (case side10 => exact (Kd.R_reads' HO_281006.out).2.1); (case side11 => exact GlobW.below HG.out (by repeat (first | (with_reducible first | exact HB.out | apply below_alloc | apply pw_below_drewN | apply below_drew1 | refine below_set ?_ GE280.out) | exact HB.out))); rintro e w60 ⟨v285, rfl, ho0, hb⟩; refine ⟨_, rfl, ?_⟩; have n0_ := Aside0.mk (Kd.R_below (by (with_reducible repeat (first | apply Kd.R_alloc | apply Kd.R_drewN | apply Kd.R_drew)); exact HO_281001.out) hb); have n1_ := Aside0.mk (Kd.R_below (by (with_reducible repeat (first | apply Kd.R_alloc | apply Kd.R_drewN | apply Kd.R_drew)); exact HO_281006.out) hb); have n2_ := Aside0.mk (Kd.R_lower ho0 (below_size (by repeat (first | (with_reducible first | exact HB.out | apply below_alloc | apply pw_below_drewN | apply below_drew1 | refine below_set ?_ GE280.out) | exact HB.out)))); have n3_ := Aside0.mk (blk_below (g := gb280) (o := .cells #[.string (strOfNums y274), .slice Ao58 x281001_1.length co58, .slice none 0 0, .int .i64 a2, .slice none 0 0, .slice none 0 0, .slice Ao17 y277.length co17] 32 (0, 0)) (by (with_reducible repeat (first | refine blk_drewN ?_ _ | refine blk_drew ?_ | refine blk_alloc ?_ _)); exact BK280.out) hb); have n4_ := Aside0.mk (below_step (by repeat (first | (with_reducible first | exact HB.out | apply below_alloc | apply pw_below_drewN | apply below_drew1 | refine below_set ?_ GE280.out) | exact HB.out)) hb); clear HO_281001; clear HO_281006; clear BK280; clear HB; have HO_281001 := n0_; have HO_281006 := n1_; have HO286 := n2_; have BK280 := n3_; have HB := n4_; clear n0_ n1_ n2_ n3_ n4_; (try clear hb); (try clear hb2); (try clear hk); (try clear hi); (try clear ho0); (try simp only [errW_none, errW_some]); have CA56 := fun W hG_ => pendulumsee_Is.calls t287 104 t292 W hG_ A56.out; try simp only [errW_none, errW_some] at CA56) | (go_at_call 9; (with_reducible refine (CA56 _ ?side1).mono ?_); (case side1 => exact GlobW.below HG.out (by repeat (first | (with_reducible first | exact HB.out | apply below_alloc | apply pw_below_drewN | apply below_drew1 | refine below_set ?_ GE280.out) | exact HB.out))); rintro e w61 ⟨rfl, hb⟩; have n0_ := Aside0.mk (Kd.R_below (by (with_reducible repeat (first | apply Kd.R_alloc | apply Kd.R_drewN | apply Kd.R_drew)); exact HO_281001.out) hb); have n1_ := Aside0.mk (Kd.R_below (by (with_reducible repeat (first | apply Kd.R_alloc | apply Kd.R_drewN | apply Kd.R_drew)); exact HO_281006.out) hb); have n2_ := Aside0.mk (Kd.R_below (by (with_reducible repeat (first | apply Kd.R_alloc | apply Kd.R_drewN | apply Kd.R_drew)); exact HO286.out) hb); have n3_ := Aside0.mk (blk_below (g := gb280) (o := .cells #[.string (strOfNums y274), .slice Ao58 x281001_1.length co58, .slice none 0 0, .int .i64 a2, .slice none 0 0, .slice none 0 0, .slice Ao17 y277.length co17] 32 (0, 0)) (by (with_reducible repeat (first | refine blk_drewN ?_ _ | refine blk_drew ?_ | refine blk_alloc ?_ _)); exact BK280.out) hb); have n4_ := Aside0.mk (below_step (by repeat (first | (with_reducible first | exact HB.out | apply below_alloc | apply pw_below_drewN | apply below_drew1 | refine below_set ?_ GE280.out) | exact HB.out)) hb); clear HO_281001; clear HO_281006; clear HO286; clear BK280; clear HB; have HO_281001 := n0_; have HO_281006 := n1_; have HO286 := n2_; have BK280 := n3_; have HB := n4_; clear n0_ n1_ n2_ n3_ n4_; (try clear hb); (try clear hb2); (try clear hk); (try clear hi)))
                        go_ret
                        exact ⟨by first | rfl | (simp [errW_none, errW_some] <;> rfl) | (simp [*, errW_none, errW_some] <;> rfl), by repeat (first | (with_reducible first | exact HB.out | apply below_alloc | apply pw_below_drewN | apply below_drew1 | refine below_set ?_ GE280.out) | exact HB.out)⟩
                      · rw [if_neg c55] at H
                        have c55b0 : decide (a3 < (-1)) = false := decide_eq_false c55
                        clear c55
                        by_cases c62 : a3 > 1048576
                        · rw [if_pos c62] at H
                          have c62b0 : decide (1048576 < a3) = true := decide_eq_true c62
                          clear c62
                          replace H : ((pendulumsee_Is.f t287 104).bind fun t293 => (some t293)) = some r := by first | (rw [if_pos rfl] at H; exact H) | (simp only [if_true, if_false] at H; exact H)
                          replace H := Option.bind_eq_some_iff.mp H
                          obtain ⟨t293, A630, H⟩ := H
                          replace H : (some t293) = some r := H
                          have A63 := Aside0.mk A630
                          clear A630
                          obtain rfl := Option.some.inj H
                          simp only [Option.some.injEq, Prod.mk.injEq] at H
                          obtain ⟨rfl⟩ := H
                          have hcz64_0 : wr.cell? ⟨gb280, 0, none⟩ = some (.string (strOfNums y274)) := (blk_cell BK280.out 0).trans rfl
                          have hcz64_1 : wr.cell? ⟨gb280, 1, none⟩ = some (u281001) := (blk_cell BK280.out 1).trans rfl
                          have hcz64_2 : wr.cell? ⟨gb280, 2, none⟩ = some (.slice none 0 0) := (blk_cell BK280.out 2).trans rfl
                          have hcz64_3 : wr.cell? ⟨gb280, 3, none⟩ = some (.int .i64 a2) := (blk_cell BK280.out 3).trans rfl
                          have hcz64_4 : wr.cell? ⟨gb280, 4, none⟩ = some (.slice none 0 0) := (blk_cell BK280.out 4).trans rfl
                          have hcz64_5 : wr.cell? ⟨gb280, 5, none⟩ = some (.slice none 0 0) := (blk_cell BK280.out 5).trans rfl
                          have hcz64_6 : wr.cell? ⟨gb280, 6, none⟩ = some (.slice Ao17 y277.length co17) := (blk_cell BK280.out 6).trans rfl
                          have hfz64_0 := blk_frozen BK280.out 0
                          have hfz64_1 := blk_frozen BK280.out 1
                          have hfz64_2 := blk_frozen BK280.out 2
                          have hfz64_3 := blk_frozen BK280.out 3
                          have hfz64_4 := blk_frozen BK280.out 4
                          have hfz64_5 := blk_frozen BK280.out 5
                          have hfz64_6 := blk_frozen BK280.out 6
                          obtain ⟨Ao65, co65, eo65⟩ := Kd.R_slice HO_281001.out
                          subst eo65
                          have CN66 := fun f0_ f1_ f2_ f3_ W_ => code_Bytes.calls k1 (strOfNums y274) f0_ f1_ x281001_1 none 0 ([] : List Int) a2 none 0 ([] : List (S51)) none 0 ([] : List (S54)) f2_ f3_ y277 t284 t287 W_
                          try simp only [List.length_nil, -Nat.reduceLeDiff] at CN66
                          go_wp2_with (first | ((with_reducible refine gate_callee (f := 8) rfl ?_); refine goesL_ (some 41) rfl rfl Tryd.func8 (by kernel_rfl) rfl #[.agg #[.string (strOfNums y274), .slice Ao65 x281001_1.length co65, .slice none 0 0, .int .i64 a2, .slice none 0 0, .slice none 0 0, .slice Ao17 y277.length co17]] rfl (by (try simp only [List.map_toArray, List.map_cons, List.map_nil]); first | done | rfl | (simp only [List.length_drop, List.length_take]; rfl)) ?_; (with_reducible refine (CN66 _ _ _ _ _  ?side1 ?side2 ?side3 ?side4 ?side5 ?side6 ?side7 ?side8 ?side9 ?side10 ?side11 A26.out).mono ?_); (case side1 => repeat (first | exact (Kd.R_reads' HO_281001.out).2.2 | (with_reducible refine Kd.C_alloc ?_ _) | (with_reducible refine Kd.C_drewN ?_ _) | (with_reducible refine Kd.C_drew ?_))); (case side2 => exact (Kd.R_reads' HO_281001.out).2.1); (case side3 => exact Kd.C_nil _ _); (case side4 => exact Nat.le_refl _); (case side5 => exact Kd.C_nil _ _); (case side6 => exact Nat.le_refl _); (case side7 => exact Kd.C_nil _ _); (case side8 => exact Nat.le_refl _); (case side9 => repeat (first | exact (Kd.R_reads' HO_281006.out).2.2 | (with_reducible refine Kd.C_alloc ?_ _) | (with_reducible refine Kd.C_drewN ?_ _) | (with_reducible refine Kd.C_drew ?_))); (case side10 => exact (Kd.R_reads' HO_281006.out).2.1); (case side11 => exact GlobW.below HG.out (by repeat (first | (with_reducible first | exact HB.out | apply below_alloc | apply pw_below_drewN | apply below_drew1 | refine below_set ?_ GE280.out) | exact HB.out))); rintro e w67 ⟨v285, rfl, ho0, hb⟩; refine ⟨_, rfl, ?_⟩; have n0_ := Aside0.mk (Kd.R_below (by (with_reducible repeat (first | apply Kd.R_alloc | apply Kd.R_drewN | apply Kd.R_drew)); exact HO_281001.out) hb); have n1_ := Aside0.mk (Kd.R_below (by (with_reducible repeat (first | apply Kd.R_alloc | apply Kd.R_drewN | apply Kd.R_drew)); exact HO_281006.out) hb); have n2_ := Aside0.mk (Kd.R_lower ho0 (below_size (by repeat (first | (with_reducible first | exact HB.out | apply below_alloc | apply pw_below_drewN | apply below_drew1 | refine below_set ?_ GE280.out) | exact HB.out)))); have n3_ := Aside0.mk (blk_below (g := gb280) (o := .cells #[.string (strOfNums y274), .slice Ao65 x281001_1.length co65, .slice none 0 0, .int .i64 a2, .slice none 0 0, .slice none 0 0, .slice Ao17 y277.length co17] 32 (0, 0)) (by (with_reducible repeat (first | refine blk_drewN ?_ _ | refine blk_drew ?_ | refine blk_alloc ?_ _)); exact BK280.out) hb); have n4_ := Aside0.mk (below_step (by repeat (first | (with_reducible first | exact HB.out | apply below_alloc | apply pw_below_drewN | apply below_drew1 | refine below_set ?_ GE280.out) | exact HB.out)) hb); clear HO_281001; clear HO_281006; clear BK280; clear HB; have HO_281001 := n0_; have HO_281006 := n1_; have HO286 := n2_; have BK280 := n3_; have HB := n4_; clear n0_ n1_ n2_ n3_ n4_; (try clear hb); (try clear hb2); (try clear hk); (try clear hi); (try clear ho0); (try simp only [errW_none, errW_some]); have CA63 := fun W hG_ => pendulumsee_Is.calls t287 104 t293 W hG_ A63.out; try simp only [errW_none, errW_some] at CA63) | (go_at_call 9; (with_reducible refine (CA63 _ ?side1).mono ?_); (case side1 => exact GlobW.below HG.out (by repeat (first | (with_reducible first | exact HB.out | apply below_alloc | apply pw_below_drewN | apply below_drew1 | refine below_set ?_ GE280.out) | exact HB.out))); rintro e w68 ⟨rfl, hb⟩; have n0_ := Aside0.mk (Kd.R_below (by (with_reducible repeat (first | apply Kd.R_alloc | apply Kd.R_drewN | apply Kd.R_drew)); exact HO_281001.out) hb); have n1_ := Aside0.mk (Kd.R_below (by (with_reducible repeat (first | apply Kd.R_alloc | apply Kd.R_drewN | apply Kd.R_drew)); exact HO_281006.out) hb); have n2_ := Aside0.mk (Kd.R_below (by (with_reducible repeat (first | apply Kd.R_alloc | apply Kd.R_drewN | apply Kd.R_drew)); exact HO286.out) hb); have n3_ := Aside0.mk (blk_below (g := gb280) (o := .cells #[.string (strOfNums y274), .slice Ao65 x281001_1.length co65, .slice none 0 0, .int .i64 a2, .slice none 0 0, .slice none 0 0, .slice Ao17 y277.length co17] 32 (0, 0)) (by (with_reducible repeat (first | refine blk_drewN ?_ _ | refine blk_drew ?_ | refine blk_alloc ?_ _)); exact BK280.out) hb); have n4_ := Aside0.mk (below_step (by repeat (first | (with_reducible first | exact HB.out | apply below_alloc | apply pw_below_drewN | apply below_drew1 | refine below_set ?_ GE280.out) | exact HB.out)) hb); clear HO_281001; clear HO_281006; clear HO286; clear BK280; clear HB; have HO_281001 := n0_; have HO_281006 := n1_; have HO286 := n2_; have BK280 := n3_; have HB := n4_; clear n0_ n1_ n2_ n3_ n4_; (try clear hb); (try clear hb2); (try clear hk); (try clear hi)))
                          go_ret
                          exact ⟨by first | rfl | (simp [errW_none, errW_some] <;> rfl) | (simp [*, errW_none, errW_some] <;> rfl), by repeat (first | (with_reducible first | exact HB.out | apply below_alloc | apply pw_below_drewN | apply below_drew1 | refine below_set ?_ GE280.out) | exact HB.out)⟩
                        · rw [if_neg c62] at H
                          have c62b0 : decide (1048576 < a3) = false := decide_eq_false c62
                          clear c62
                          replace H : (if t287.isNone = true then (some true) else (some false)) = some r := by first | (rw [if_pos rfl] at H; exact H) | (simp only [if_true, if_false] at H; exact H)
                          rcases t287 with _ | q294
                          · have H1 : (some true) = some r := by rw [if_pos (show (none : Option Int).isNone = true by rfl)] at H; exact H
                            clear H
                            have H := H1
                            clear H1
                            try simp only [errW_none, errW_some]
                            obtain rfl := Option.some.inj H
                            simp only [Option.some.injEq, Prod.mk.injEq] at H
                            obtain ⟨rfl⟩ := H
                            have hcz69_0 : wr.cell? ⟨gb280, 0, none⟩ = some (.string (strOfNums y274)) := (blk_cell BK280.out 0).trans rfl
                            have hcz69_1 : wr.cell? ⟨gb280, 1, none⟩ = some (u281001) := (blk_cell BK280.out 1).trans rfl
                            have hcz69_2 : wr.cell? ⟨gb280, 2, none⟩ = some (.slice none 0 0) := (blk_cell BK280.out 2).trans rfl
                            have hcz69_3 : wr.cell? ⟨gb280, 3, none⟩ = some (.int .i64 a2) := (blk_cell BK280.out 3).trans rfl
                            have hcz69_4 : wr.cell? ⟨gb280, 4, none⟩ = some (.slice none 0 0) := (blk_cell BK280.out 4).trans rfl
                            have hcz69_5 : wr.cell? ⟨gb280, 5, none⟩ = some (.slice none 0 0) := (blk_cell BK280.out 5).trans rfl
                            have hcz69_6 : wr.cell? ⟨gb280, 6, none⟩ = some (.slice Ao17 y277.length co17) := (blk_cell BK280.out 6).trans rfl
                            have hfz69_0 := blk_frozen BK280.out 0
                            have hfz69_1 := blk_frozen BK280.out 1
                            have hfz69_2 := blk_frozen BK280.out 2
                            have hfz69_3 := blk_frozen BK280.out 3
                            have hfz69_4 := blk_frozen BK280.out 4
                            have hfz69_5 := blk_frozen BK280.out 5
                            have hfz69_6 := blk_frozen BK280.out 6
                            obtain ⟨Ao70, co70, eo70⟩ := Kd.R_slice HO_281001.out
                            subst eo70
                            have CN71 := fun f0_ f1_ f2_ f3_ W_ => code_Bytes.calls k1 (strOfNums y274) f0_ f1_ x281001_1 none 0 ([] : List Int) a2 none 0 ([] : List (S51)) none 0 ([] : List (S54)) f2_ f3_ y277 t284 none W_
                            try simp only [List.length_nil, -Nat.reduceLeDiff] at CN71
                            go_wp2_with (first | ((with_reducible refine gate_callee (f := 8) rfl ?_); refine goesL_ (some 41) rfl rfl Tryd.func8 (by kernel_rfl) rfl #[.agg #[.string (strOfNums y274), .slice Ao70 x281001_1.length co70, .slice none 0 0, .int .i64 a2, .slice none 0 0, .slice none 0 0, .slice Ao17 y277.length co17]] rfl (by (try simp only [List.map_toArray, List.map_cons, List.map_nil]); first | done | rfl | (simp only [List.length_drop, List.length_take]; rfl)) ?_; (with_reducible refine (CN71 _ _ _ _ _  ?side1 ?side2 ?side3 ?side4 ?side5 ?side6 ?side7 ?side8 ?side9 ?side10 ?side11 A26.out).mono ?_); (case side1 => repeat (first | exact (Kd.R_reads' HO_281001.out).2.2 | (with_reducible refine Kd.C_alloc ?_ _) | (with_reducible refine Kd.C_drewN ?_ _) | (with_reducible refine Kd.C_drew ?_))); (case side2 => exact (Kd.R_reads' HO_281001.out).2.1); (case side3 => exact Kd.C_nil _ _); (case side4 => exact Nat.le_refl _); (case side5 => exact Kd.C_nil _ _); (case side6 => exact Nat.le_refl _); (case side7 => exact Kd.C_nil _ _); (case side8 => exact Nat.le_refl _); (case side9 => repeat (first | exact (Kd.R_reads' HO_281006.out).2.2 | (with_reducible refine Kd.C_alloc ?_ _) | (with_reducible refine Kd.C_drewN ?_ _) | (with_reducible refine Kd.C_drew ?_))); (case side10 => exact (Kd.R_reads' HO_281006.out).2.1); (case side11 => exact GlobW.below HG.out (by repeat (first | (with_reducible first | exact HB.out | apply below_alloc | apply pw_below_drewN | apply below_drew1 | refine below_set ?_ GE280.out) | exact HB.out))); rintro e w72 ⟨v285, rfl, ho0, hb⟩; refine ⟨_, rfl, ?_⟩; have n0_ := Aside0.mk (Kd.R_below (by (with_reducible repeat (first | apply Kd.R_alloc | apply Kd.R_drewN | apply Kd.R_drew)); exact HO_281001.out) hb); have n1_ := Aside0.mk (Kd.R_below (by (with_reducible repeat (first | apply Kd.R_alloc | apply Kd.R_drewN | apply Kd.R_drew)); exact HO_281006.out) hb); have n2_ := Aside0.mk (Kd.R_lower ho0 (below_size (by repeat (first | (with_reducible first | exact HB.out | apply below_alloc | apply pw_below_drewN | apply below_drew1 | refine below_set ?_ GE280.out) | exact HB.out)))); have n3_ := Aside0.mk (blk_below (g := gb280) (o := .cells #[.string (strOfNums y274), .slice Ao70 x281001_1.length co70, .slice none 0 0, .int .i64 a2, .slice none 0 0, .slice none 0 0, .slice Ao17 y277.length co17] 32 (0, 0)) (by (with_reducible repeat (first | refine blk_drewN ?_ _ | refine blk_drew ?_ | refine blk_alloc ?_ _)); exact BK280.out) hb); have n4_ := Aside0.mk (below_step (by repeat (first | (with_reducible first | exact HB.out | apply below_alloc | apply pw_below_drewN | apply below_drew1 | refine below_set ?_ GE280.out) | exact HB.out)) hb); clear HO_281001; clear HO_281006; clear BK280; clear HB; have HO_281001 := n0_; have HO_281006 := n1_; have HO286 := n2_; have BK280 := n3_; have HB := n4_; clear n0_ n1_ n2_ n3_ n4_; (try clear hb); (try clear hb2); (try clear hk); (try clear hi); (try clear ho0); (try simp only [errW_none, errW_some])))
                            go_ret
                            exact ⟨by first | rfl | (simp [errW_none, errW_some] <;> rfl) | (simp [*, errW_none, errW_some] <;> rfl), by repeat (first | (with_reducible first | exact HB.out | apply below_alloc | apply pw_below_drewN | apply below_drew1 | refine below_set ?_ GE280.out) | exact HB.out)⟩
                          · have H1 : (some false) = some r := by rw [if_neg (show ¬ (some q294).isNone = true by simp)] at H; exact H
                            clear H
                            have H := H1
                            clear H1
                            try simp only [errW_none, errW_some]
                            obtain rfl := Option.some.inj H
                            exact absurd HR_.out (by decide)
      · rw [if_neg c10] at H
        exact absurd H (by simp)
    · rw [if_neg c9] at H
      exact absurd H (by simp)
  · replace c6 := Bool.eq_false_iff.mpr c6
    subst c6
    have H1 : (some false) = some r := by rw [if_neg (show ¬ (false = true) by decide)] at H; exact H
    clear H
    have H := H1
    clear H1
    obtain rfl := Option.some.inj H
    exact absurd HR_.out (by decide)

end Go.Proofs.YtjccbolnjnefiaaDoor.KTCodeBounds

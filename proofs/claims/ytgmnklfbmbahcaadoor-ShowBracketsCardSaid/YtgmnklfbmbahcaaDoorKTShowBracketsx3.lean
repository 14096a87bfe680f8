/- By a program of this session (kprint.py) over the printer: functions of the code as plain Lean functions, and the walks that say so. -/
import Derived.Test.YtgmnklfbmbahcaaDoorKTShowBracketsx0
import Derived.Test.YtgmnklfbmbahcaaDoorKTShowBracketsx2
namespace Go.Proofs.YtgmnklfbmbahcaaDoor.KTShowBrackets
open Go.RowKit Go.Proofs.YtgmnklfbmbahcaaDoorW.PrintWords Go.Proofs.YtgmnklfbmbahcaaDoorW.PrintLast Go.Proofs.YtgmnklfbmbahcaaDoorW.PrintMore
attribute [local go_sem] max2_int min2_int max_two min_two max_three min_three max_four min_four   -- for this text's walks alone
set_option linter.unusedVariables false
set_option linter.unusedSimpArgs false

/-! ### pendulumlaw8_first: function 7 -/
def pendulumlaw8_first.f (k : Nat)  : Option (Bool) := (show_Expr.f k 8 0 0 (⟨#[]⟩ : ByteArray) (([(⟨6, 0, 0, (⟨#[]⟩ : ByteArray), (([(⟨3, 0, 0, (⟨#[97]⟩ : ByteArray), ([] : List (S26))⟩ : S26), (⟨1, 0, 1, (⟨#[]⟩ : ByteArray), ([] : List (S26))⟩ : S26)] : List (S26)))⟩ : S26), (⟨4, 0, 0, (⟨#[]⟩ : ByteArray), (([(⟨3, 0, 0, (⟨#[98]⟩ : ByteArray), ([] : List (S26))⟩ : S26)] : List (S26)))⟩ : S26)] : List (S26)))).bind fun t147 => (some (t147.toList == ([40, 97, 32, 43, 32, 49, 41, 32, 42, 32, 40, 45, 98, 41] : List UInt8)))
set_option maxHeartbeats 8000000 in
set_option maxRecDepth 100000 in
theorem pendulumlaw8_first.calls [Sent] (k : Nat)  (r : Bool) (w : World) (hG : GlobW w) (h : pendulumlaw8_first.f k  = some r) :
    Calls Tryd.prog 7 #[] w fun e w' => e = .returned (.bool r) ∧ Below w.heap.size w w' := by
  have hu26 := Tryd.underlying26
  have HB := Aside0.mk (Below.refl w.heap.size w)
  have HG := Aside0.mk hG
  clear hG
  have H : ((show_Expr.f k 8 0 0 (⟨#[]⟩ : ByteArray) (([(⟨6, 0, 0, (⟨#[]⟩ : ByteArray), (([(⟨3, 0, 0, (⟨#[97]⟩ : ByteArray), ([] : List (S26))⟩ : S26), (⟨1, 0, 1, (⟨#[]⟩ : ByteArray), ([] : List (S26))⟩ : S26)] : List (S26)))⟩ : S26), (⟨4, 0, 0, (⟨#[]⟩ : ByteArray), (([(⟨3, 0, 0, (⟨#[98]⟩ : ByteArray), ([] : List (S26))⟩ : S26)] : List (S26)))⟩ : S26)] : List (S26)))).bind fun t147 => (some (t147.toList == ([40, 97, 32, 43, 32, 49, 41, 32, 42, 32, 40, 45, 98, 41] : List UInt8)))) = some r := h
  clear h
  obtain ⟨y137, hy137⟩ : ∃ y_ : List (S26), y_ = (([(⟨3, 0, 0, (⟨#[97]⟩ : ByteArray), ([] : List (S26))⟩ : S26), (⟨1, 0, 1, (⟨#[]⟩ : ByteArray), ([] : List (S26))⟩ : S26)] : List (S26))) := ⟨_, rfl⟩
  replace H : ((show_Expr.f k 8 0 0 (⟨#[]⟩ : ByteArray) (([(⟨6, 0, 0, (⟨#[]⟩ : ByteArray), y137⟩ : S26), (⟨4, 0, 0, (⟨#[]⟩ : ByteArray), (([(⟨3, 0, 0, (⟨#[98]⟩ : ByteArray), ([] : List (S26))⟩ : S26)] : List (S26)))⟩ : S26)] : List (S26)))).bind fun t147 => (some (t147.toList == ([40, 97, 32, 43, 32, 49, 41, 32, 42, 32, 40, 45, 98, 41] : List UInt8)))) = some r := by first | (rw [hy137]; with_reducible exact H) | (have H2_ := (Option.bind_some _ _).symm.trans H; rw [hy137]; with_reducible exact H2_) | (have H2_ := (Option.bind_some _ _).symm.trans H; with_reducible exact H2_) | with_reducible exact H | (rw [hy137]; exact H) | exact H
  have Ny137 := Aside0.mk hy137
  clear hy137
  obtain ⟨y141, hy141⟩ : ∃ y_ : List (S26), y_ = (([(⟨3, 0, 0, (⟨#[98]⟩ : ByteArray), ([] : List (S26))⟩ : S26)] : List (S26))) := ⟨_, rfl⟩
  replace H : ((show_Expr.f k 8 0 0 (⟨#[]⟩ : ByteArray) (([(⟨6, 0, 0, (⟨#[]⟩ : ByteArray), y137⟩ : S26), (⟨4, 0, 0, (⟨#[]⟩ : ByteArray), y141⟩ : S26)] : List (S26)))).bind fun t147 => (some (t147.toList == ([40, 97, 32, 43, 32, 49, 41, 32, 42, 32, 40, 45, 98, 41] : List UInt8)))) = some r := by first | (rw [hy141]; with_reducible exact H) | (have H2_ := (Option.bind_some _ _).symm.trans H; rw [hy141]; with_reducible exact H2_) | (have H2_ := (Option.bind_some _ _).symm.trans H; with_reducible exact H2_) | with_reducible exact H | (rw [hy141]; exact H) | exact H
  have Ny141 := Aside0.mk hy141
  clear hy141
  obtain ⟨y144, hy144⟩ : ∃ y_ : List (S26), y_ = (([(⟨6, 0, 0, (⟨#[]⟩ : ByteArray), y137⟩ : S26), (⟨4, 0, 0, (⟨#[]⟩ : ByteArray), y141⟩ : S26)] : List (S26))) := ⟨_, rfl⟩
  replace H : ((show_Expr.f k 8 0 0 (⟨#[]⟩ : ByteArray) y144).bind fun t147 => (some (t147.toList == ([40, 97, 32, 43, 32, 49, 41, 32, 42, 32, 40, 45, 98, 41] : List UInt8)))) = some r := by first | (rw [hy144]; with_reducible exact H) | (have H2_ := (Option.bind_some _ _).symm.trans H; rw [hy144]; with_reducible exact H2_) | (have H2_ := (Option.bind_some _ _).symm.trans H; with_reducible exact H2_) | with_reducible exact H | (rw [hy144]; exact H) | exact H
  have Ny144 := Aside0.mk hy144
  clear hy144
  replace H := Option.bind_eq_some_iff.mp H
  obtain ⟨t147, A10, H⟩ := H
  replace H : (some (t147.toList == ([40, 97, 32, 43, 32, 49, 41, 32, 42, 32, 40, 45, 98, 41] : List UInt8))) = some r := H
  have A1 := Aside0.mk A10
  clear A10
  obtain rfl := Option.some.inj H
  go_enter Tryd.func7, Tryd.ntmps7
  go_wp2_with (first | ((with_reducible refine gate_dst (N := 4) rfl ?_); refine Kd.N_lit k26 _ 26 ?hg (N' := 4) ?hd (xs := ([(⟨3, 0, 0, (⟨#[97]⟩ : ByteArray), ([] : List (S26))⟩ : S26), (⟨1, 0, 1, (⟨#[]⟩ : ByteArray), ([] : List (S26))⟩ : S26)] : List (S26))) (inner := [.int .i64 3, .int .i64 0, .int .i64 0, .string (⟨#[97]⟩ : ByteArray), .slice none 0 0, .int .i64 1, .int .i64 0, .int .i64 1, .string (⟨#[]⟩ : ByteArray), .slice none 0 0]) (ok := (fun _ => True)) (okp := (fun _ => True)) ?hr ?hp (fun _ hk => hk) (by exact trivial) (Below.refl _ _) (Nat.le_refl _) (by simp) ?_; (case hd => rfl); (case hg => rfl); (case hr => first | (go_simp; done) | (go_simp; rfl)); (case hp => exact (Reps.c5 (show Kd.FK k26 _ _ (⟨3, 0, 0, (⟨#[97]⟩ : ByteArray), ([] : List (S26))⟩ : S26) [.int .i64 3, .int .i64 0, .int .i64 0, .string (⟨#[97]⟩ : ByteArray), .slice none 0 0] from (k26_mkF _ _ (⟨3, 0, 0, (⟨#[97]⟩ : ByteArray), ([] : List (S26))⟩ : S26) (Nat.le_refl _) (Kd.F_nil _ _ _))) (Reps.c5 (show Kd.FK k26 _ _ (⟨1, 0, 1, (⟨#[]⟩ : ByteArray), ([] : List (S26))⟩ : S26) [.int .i64 1, .int .i64 0, .int .i64 1, .string (⟨#[]⟩ : ByteArray), .slice none 0 0] from (k26_mkF _ _ (⟨1, 0, 1, (⟨#[]⟩ : ByteArray), ([] : List (S26))⟩ : S26) (Nat.le_refl _) (Kd.F_nil _ _ _))) (Reps.none _ _)))); intro v138 w2 ho3 hb hg_ hnew_; clear hg_ hnew_; (first | rw [← Ny137.out] at ho3 | (simp only [Int.reduceToNat] at ho3; rw [← Ny137.out] at ho3)); have n0_ := Aside0.mk (Kd.N_lower ho3 (below_size (by repeat (first | (with_reducible first | exact HB.out | apply below_alloc | apply pw_below_drewN | apply below_drew1) | exact HB.out)))); have n1_ := Aside0.mk (below_step (by repeat (first | (with_reducible first | exact HB.out | apply below_alloc | apply pw_below_drewN | apply below_drew1) | exact HB.out)) hb); clear HB; have HO139 := n0_; have HB := n1_; clear n0_ n1_; clear hb ho3; obtain ⟨Ao4, co4, eo4⟩ := Kd.N_slice HO139.out; subst eo4) | ((with_reducible refine gate_dst (N := 1) rfl ?_); refine box_event ?hg (N := 1) ?hd (cs := #[.int .i64 0, .int .i64 0, .int .i64 0, .string (⟨#[]⟩ : ByteArray), .slice none 0 0]) (t := 26) ?hr ?_; (case hd => rfl); (case hg => rfl); (case hr => first | (go_simp; done) | (go_simp; rfl)); intro gb140 hg w5 hbox hb; have n0_ := Aside0.mk (Kd.N_below (Kd.N_elderB (by (with_reducible repeat (first | apply Kd.N_alloc | apply Kd.N_drewN | apply Kd.N_drew)); exact HO139.out) gb140 (Nat.le_of_eq hg.symm)) hb); have n1_ := Aside0.mk (below_step (by repeat (first | (with_reducible first | exact HB.out | apply below_alloc | apply pw_below_drewN | apply below_drew1) | exact HB.out)) hb); have n2_ := Aside0.mk (hbox); have n3_ := Aside0.mk ((by rw [hg]; exact (below_size (by repeat (first | (with_reducible first | exact HB.out | apply below_alloc | apply pw_below_drewN | apply below_drew1) | exact HB.out))) : w.heap.size ≤ gb140)); have n4_ := Aside0.mk ((by rw [hg]; exact (below_size (by repeat (first | (with_reducible first | exact HB.out | apply below_alloc | apply pw_below_drewN | apply below_drew1) | exact HB.out))) : w.heap.size ≤ gb140)); clear HO139; clear HB; have HO139 := n0_; have HB := n1_; have BK140 := n2_; have GW140 := n3_; have GE140 := n4_; clear n0_ n1_ n2_ n3_ n4_; clear hb hbox hg; have hcz6_0 : w5.cell? ⟨gb140, 0, none⟩ = some (.int .i64 0) := (blk_cell BK140.out 0).trans rfl; have hcz6_1 : w5.cell? ⟨gb140, 1, none⟩ = some (.int .i64 0) := (blk_cell BK140.out 1).trans rfl; have hcz6_2 : w5.cell? ⟨gb140, 2, none⟩ = some (.int .i64 0) := (blk_cell BK140.out 2).trans rfl; have hcz6_3 : w5.cell? ⟨gb140, 3, none⟩ = some (.string (⟨#[]⟩ : ByteArray)) := (blk_cell BK140.out 3).trans rfl; have hcz6_4 : w5.cell? ⟨gb140, 4, none⟩ = some (.slice none 0 0) := (blk_cell BK140.out 4).trans rfl; have hfz6_0 := blk_frozen BK140.out 0; have hfz6_1 := blk_frozen BK140.out 1; have hfz6_2 := blk_frozen BK140.out 2; have hfz6_3 := blk_frozen BK140.out 3; have hfz6_4 := blk_frozen BK140.out 4) | ((with_reducible refine gate_dst (N := 8) rfl ?_); refine Kd.N_lit k26 _ 26 ?hg (N' := 8) ?hd (xs := ([(⟨3, 0, 0, (⟨#[98]⟩ : ByteArray), ([] : List (S26))⟩ : S26)] : List (S26))) (inner := [.int .i64 3, .int .i64 0, .int .i64 0, .string (⟨#[98]⟩ : ByteArray), .slice none 0 0]) (ok := (fun k_ => some k_ ≠ (.slice Ao4 y137.length co4 : Value).ownBlock ∧ k_ ≠ gb140)) (okp := (fun k_ => some k_ ≠ (.slice Ao4 y137.length co4 : Value).ownBlock ∧ k_ ≠ gb140)) ?hr ?hp (fun _ hk => hk) (by exact ⟨Kd.fresh' (Kd.N_lt (by (with_reducible repeat (first | apply Kd.N_alloc | apply Kd.N_drewN | apply Kd.N_drew)); exact (Kd.N_mono (Kd.N_far (p := ⟨gb140, 4, none⟩) (Kd.N_far (p := ⟨gb140, 3, none⟩) (Kd.N_far (p := ⟨gb140, 2, none⟩) (Kd.N_far (p := ⟨gb140, 1, none⟩) (Kd.N_far (p := ⟨gb140, 0, none⟩) (Kd.N_mono HO139.out (fun k_ hk => (⟨hk, hk.2⟩ : _ ∧ k_ ≠ gb140))) (fun _ hk => hk.2) (.int .i64 6)) (fun _ hk => hk.2) (.int .i64 0)) (fun _ hk => hk.2) (.int .i64 0)) (fun _ hk => hk.2) (.string (⟨#[]⟩ : ByteArray))) (fun _ hk => hk.2) (.slice Ao4 y137.length co4)) (fun _ h_ => h_.1)))) _ (Nat.le_refl _), Kd.freshB (g := gb140) (o := .cells #[.int .i64 6, .int .i64 0, .int .i64 0, .string (⟨#[]⟩ : ByteArray), .slice Ao4 y137.length co4] 26 (0, 0)) (by (with_reducible repeat (first | refine blk_drewN ?_ _ | refine blk_drew ?_ | refine blk_alloc ?_ _)); refine blk_put (cs := #[.int .i64 6, .int .i64 0, .int .i64 0, .string (⟨#[]⟩ : ByteArray), .slice none 0 0]) ?_ 4 _ rfl; (with_reducible repeat (first | refine blk_drewN ?_ _ | refine blk_drew ?_ | refine blk_alloc ?_ _)); refine blk_put (cs := #[.int .i64 6, .int .i64 0, .int .i64 0, .string (⟨#[]⟩ : ByteArray), .slice none 0 0]) ?_ 3 _ rfl; (with_reducible repeat (first | refine blk_drewN ?_ _ | refine blk_drew ?_ | refine blk_alloc ?_ _)); refine blk_put (cs := #[.int .i64 6, .int .i64 0, .int .i64 0, .string (⟨#[]⟩ : ByteArray), .slice none 0 0]) ?_ 2 _ rfl; (with_reducible repeat (first | refine blk_drewN ?_ _ | refine blk_drew ?_ | refine blk_alloc ?_ _)); refine blk_put (cs := #[.int .i64 6, .int .i64 0, .int .i64 0, .string (⟨#[]⟩ : ByteArray), .slice none 0 0]) ?_ 1 _ rfl; (with_reducible repeat (first | refine blk_drewN ?_ _ | refine blk_drew ?_ | refine blk_alloc ?_ _)); refine blk_put (cs := #[.int .i64 0, .int .i64 0, .int .i64 0, .string (⟨#[]⟩ : ByteArray), .slice none 0 0]) ?_ 0 _ rfl; (with_reducible repeat (first | refine blk_drewN ?_ _ | refine blk_drew ?_ | refine blk_alloc ?_ _)); exact BK140.out) _ (Nat.le_refl _)⟩) (Below.refl _ _) (Nat.le_refl _) (by simp) ?_; (case hd => rfl); (case hg => rfl); (case hr => first | (go_simp; done) | (go_simp; rfl)); (case hp => exact (Reps.c5 (show Kd.FK k26 _ _ (⟨3, 0, 0, (⟨#[98]⟩ : ByteArray), ([] : List (S26))⟩ : S26) [.int .i64 3, .int .i64 0, .int .i64 0, .string (⟨#[98]⟩ : ByteArray), .slice none 0 0] from (k26_mkF _ _ (⟨3, 0, 0, (⟨#[98]⟩ : ByteArray), ([] : List (S26))⟩ : S26) (Nat.le_refl _) (Kd.F_nil _ _ _))) (Reps.none _ _))); intro v142 w7 ho8 hb hg_ hnew_; clear hg_ hnew_; (first | rw [← Ny141.out] at ho8 | (simp only [Int.reduceToNat] at ho8; rw [← Ny141.out] at ho8)); have n0_ := Aside0.mk (Kd.N_elder' (by (with_reducible repeat (first | apply Kd.N_alloc | apply Kd.N_drewN | apply Kd.N_drew)); exact (Kd.N_mono (Kd.N_far (p := ⟨gb140, 4, none⟩) (Kd.N_far (p := ⟨gb140, 3, none⟩) (Kd.N_far (p := ⟨gb140, 2, none⟩) (Kd.N_far (p := ⟨gb140, 1, none⟩) (Kd.N_far (p := ⟨gb140, 0, none⟩) (Kd.N_mono HO139.out (fun k_ hk => (⟨hk, hk.2⟩ : _ ∧ k_ ≠ gb140))) (fun _ hk => hk.2) (.int .i64 6)) (fun _ hk => hk.2) (.int .i64 0)) (fun _ hk => hk.2) (.int .i64 0)) (fun _ hk => hk.2) (.string (⟨#[]⟩ : ByteArray))) (fun _ hk => hk.2) (.slice Ao4 y137.length co4)) (fun _ h_ => h_.1))) (Kd.N_base ho8) hb); have n1_ := Aside0.mk (Kd.N_lower ho8 (below_size (by repeat (first | (with_reducible first | exact HB.out | apply below_alloc | apply pw_below_drewN | apply below_drew1 | refine below_set ?_ GE140.out) | exact HB.out)))); have n2_ := Aside0.mk (blk_below (g := gb140) (o := .cells #[.int .i64 6, .int .i64 0, .int .i64 0, .string (⟨#[]⟩ : ByteArray), .slice Ao4 y137.length co4] 26 (0, 0)) (by (with_reducible repeat (first | refine blk_drewN ?_ _ | refine blk_drew ?_ | refine blk_alloc ?_ _)); refine blk_put (cs := #[.int .i64 6, .int .i64 0, .int .i64 0, .string (⟨#[]⟩ : ByteArray), .slice none 0 0]) ?_ 4 _ rfl; (with_reducible repeat (first | refine blk_drewN ?_ _ | refine blk_drew ?_ | refine blk_alloc ?_ _)); refine blk_put (cs := #[.int .i64 6, .int .i64 0, .int .i64 0, .string (⟨#[]⟩ : ByteArray), .slice none 0 0]) ?_ 3 _ rfl; (with_reducible repeat (first | refine blk_drewN ?_ _ | refine blk_drew ?_ | refine blk_alloc ?_ _)); refine blk_put (cs := #[.int .i64 6, .int .i64 0, .int .i64 0, .string (⟨#[]⟩ : ByteArray), .slice none 0 0]) ?_ 2 _ rfl; (with_reducible repeat (first | refine blk_drewN ?_ _ | refine blk_drew ?_ | refine blk_alloc ?_ _)); refine blk_put (cs := #[.int .i64 6, .int .i64 0, .int .i64 0, .string (⟨#[]⟩ : ByteArray), .slice none 0 0]) ?_ 1 _ rfl; (with_reducible repeat (first | refine blk_drewN ?_ _ | refine blk_drew ?_ | refine blk_alloc ?_ _)); refine blk_put (cs := #[.int .i64 0, .int .i64 0, .int .i64 0, .string (⟨#[]⟩ : ByteArray), .slice none 0 0]) ?_ 0 _ rfl; (with_reducible repeat (first | refine blk_drewN ?_ _ | refine blk_drew ?_ | refine blk_alloc ?_ _)); exact BK140.out) hb); have n3_ := Aside0.mk (below_step (by repeat (first | (with_reducible first | exact HB.out | apply below_alloc | apply pw_below_drewN | apply below_drew1 | refine below_set ?_ GE140.out) | exact HB.out)) hb); clear HO139; clear BK140; clear HB; have HO139 := n0_; have HO143 := n1_; have BK140 := n2_; have HB := n3_; clear n0_ n1_ n2_ n3_; clear hb ho8; obtain ⟨Ao9, co9, eo9⟩ := Kd.N_slice HO143.out; subst eo9) | ((with_reducible refine gate_dst (N := 10) rfl ?_); refine Kd.N_lit k26 _ 26 ?hg (N' := 10) ?hd (xs := ([(⟨6, 0, 0, (⟨#[]⟩ : ByteArray), y137⟩ : S26), (⟨4, 0, 0, (⟨#[]⟩ : ByteArray), y141⟩ : S26)] : List (S26))) (inner := [.int .i64 6, .int .i64 0, .int .i64 0, .string (⟨#[]⟩ : ByteArray), .slice Ao4 y137.length co4, .int .i64 4, .int .i64 0, .int .i64 0, .string (⟨#[]⟩ : ByteArray), .slice Ao9 y141.length co9]) (ok := (fun k_ => k_ ≠ gb140)) (okp := (fun k_ => k_ ≠ gb140)) ?hr ?hp (fun _ hk => hk) (by exact Kd.freshB (g := gb140) (o := .cells #[.int .i64 6, .int .i64 0, .int .i64 0, .string (⟨#[]⟩ : ByteArray), .slice Ao4 y137.length co4] 26 (0, 0)) (by (with_reducible repeat (first | refine blk_drewN ?_ _ | refine blk_drew ?_ | refine blk_alloc ?_ _)); exact BK140.out) _ (Nat.le_refl _)) (Below.refl _ _) (Nat.le_refl _) (by simp) ?_; (case hd => rfl); (case hg => rfl); (case hr => first | (go_simp; done) | (go_simp; rfl)); (case hp => exact (Reps.c5 (show Kd.FK k26 _ _ (⟨6, 0, 0, (⟨#[]⟩ : ByteArray), y137⟩ : S26) [.int .i64 6, .int .i64 0, .int .i64 0, .string (⟨#[]⟩ : ByteArray), .slice Ao4 y137.length co4] from (k26_mkF _ _ (⟨6, 0, 0, (⟨#[]⟩ : ByteArray), y137⟩ : S26) (Kd.N_reads' (Kd.N_mono (ok' := (fun k_ => k_ ≠ gb140)) (HO139.out) (fun k_ hk => hk.1.2))).2.1 (Kd.N_F (Kd.N_mono (ok' := (fun k_ => k_ ≠ gb140)) (HO139.out) (fun k_ hk => hk.1.2))))) (Reps.c5 (show Kd.FK k26 _ _ (⟨4, 0, 0, (⟨#[]⟩ : ByteArray), y141⟩ : S26) [.int .i64 4, .int .i64 0, .int .i64 0, .string (⟨#[]⟩ : ByteArray), .slice Ao9 y141.length co9] from (k26_mkF _ _ (⟨4, 0, 0, (⟨#[]⟩ : ByteArray), y141⟩ : S26) (Kd.N_reads' (Kd.N_mono (ok' := (fun k_ => k_ ≠ gb140)) (HO143.out) (fun k_ hk => hk.2))).2.1 (Kd.N_F (Kd.N_mono (ok' := (fun k_ => k_ ≠ gb140)) (HO143.out) (fun k_ hk => hk.2))))) (Reps.none _ _)))); intro v145 w10 ho11 hb hg_ hnew_; clear hg_ hnew_; (first | rw [← Ny144.out] at ho11 | (simp only [Int.reduceToNat] at ho11; rw [← Ny144.out] at ho11)); have n0_ := Aside0.mk (Kd.N_lower ho11 (below_size (by repeat (first | (with_reducible first | exact HB.out | apply below_alloc | apply pw_below_drewN | apply below_drew1 | refine below_set ?_ GE140.out) | exact HB.out)))); have n1_ := Aside0.mk (blk_below (g := gb140) (o := .cells #[.int .i64 6, .int .i64 0, .int .i64 0, .string (⟨#[]⟩ : ByteArray), .slice Ao4 y137.length co4] 26 (0, 0)) (by (with_reducible repeat (first | refine blk_drewN ?_ _ | refine blk_drew ?_ | refine blk_alloc ?_ _)); exact BK140.out) hb); have n2_ := Aside0.mk (below_step (by repeat (first | (with_reducible first | exact HB.out | apply below_alloc | apply pw_below_drewN | apply below_drew1 | refine below_set ?_ GE140.out) | exact HB.out)) hb); clear BK140; clear HB; clear HO139; clear HO143; have HO146 := n0_; have BK140 := n1_; have HB := n2_; clear n0_ n1_ n2_; clear hb ho11; obtain ⟨Ao12, co12, eo12⟩ := Kd.N_slice HO146.out; subst eo12) | ((with_reducible refine gate_callee (f := 9) rfl ?_); refine goesL_ (some 12) rfl rfl Tryd.func9 (by kernel_rfl) rfl #[.agg #[.int .i64 8, .int .i64 0, .int .i64 0, .string (⟨#[]⟩ : ByteArray), .slice Ao12 y144.length co12]] rfl (by (try simp only [List.map_toArray, List.map_cons, List.map_nil]); first | done | rfl | (simp only [List.length_drop, List.length_take]; rfl)) ?_; (with_reducible refine (show_Expr.calls k 8 0 0 (⟨#[]⟩ : ByteArray) _ _ y144 t147 _ ?side1 ?side2 ?side3 A1.out).mono ?_); (case side1 => repeat (first | exact (Kd.N_reads' HO146.out).2.2 | (with_reducible refine Kd.C_alloc ?_ _) | (with_reducible refine Kd.C_drewN ?_ _) | (with_reducible refine Kd.C_drew ?_))); (case side2 => exact (Kd.N_reads' HO146.out).2.1); (case side3 => exact GlobW.below HG.out (by repeat (first | (with_reducible first | exact HB.out | apply below_alloc | apply pw_below_drewN | apply below_drew1 | refine below_set ?_ GE140.out) | exact HB.out))); rintro e w13 ⟨rfl, hb⟩; refine ⟨_, rfl, ?_⟩; have n0_ := Aside0.mk (Kd.N_below (by (with_reducible repeat (first | apply Kd.N_alloc | apply Kd.N_drewN | apply Kd.N_drew)); exact HO146.out) hb); have n1_ := Aside0.mk (blk_below (g := gb140) (o := .cells #[.int .i64 6, .int .i64 0, .int .i64 0, .string (⟨#[]⟩ : ByteArray), .slice Ao4 y137.length co4] 26 (0, 0)) (by (with_reducible repeat (first | refine blk_drewN ?_ _ | refine blk_drew ?_ | refine blk_alloc ?_ _)); exact BK140.out) hb); have n2_ := Aside0.mk (below_step (by repeat (first | (with_reducible first | exact HB.out | apply below_alloc | apply pw_below_drewN | apply below_drew1 | refine below_set ?_ GE140.out) | exact HB.out)) hb); clear HO146; clear BK140; clear HB; have HO146 := n0_; have BK140 := n1_; have HB := n2_; clear n0_ n1_ n2_; (try clear hb); (try clear hb2); (try clear hk); (try clear hi)))
  go_ret
  exact ⟨by first | rfl | (simp [errW_none, errW_some] <;> rfl) | (simp [*, errW_none, errW_some] <;> rfl), by repeat (first | (with_reducible first | exact HB.out | apply below_alloc | apply pw_below_drewN | apply below_drew1 | refine below_set ?_ GE140.out) | exact HB.out)⟩

/-! ### pendulumworld_Number: function 8 -/
def pendulumworld_Number.f (a0 : Int) (a1 : Int) : Option (Int) := if a1 = 0 then (none) else (if (Int.tmod a0 a1) < 0 then (some (wrap64 ((Int.tmod a0 a1) + a1))) else (some (Int.tmod a0 a1)))
set_option maxHeartbeats 8000000 in
set_option maxRecDepth 100000 in
theorem pendulumworld_Number.calls [Sent] (a0 : Int) (a1 : Int) (r : Int) (w : World) (h : pendulumworld_Number.f a0 a1 = some r) :
    Calls Tryd.prog 8 #[.int .i64 a0, .int .i64 a1] w fun e w' => e = .returned (.int .i64 r) ∧ Drawn0 w w' := by
  have H : (if a1 = 0 then (none) else (if (Int.tmod a0 a1) < 0 then (some (wrap64 ((Int.tmod a0 a1) + a1))) else (some (Int.tmod a0 a1)))) = some r := h
  clear h
  by_cases c3 : a1 = 0
  · rw [if_pos c3] at H
    exact absurd H (by simp)
  · rw [if_neg c3] at H
    have c3b0 : (a1 == 0) = false := beq_eq_false_iff_ne.mpr c3
    have c3b1 : (a1 != 0) = true := bne_iff_ne.mpr c3
    by_cases c4 : (Int.tmod a0 a1) < 0
    · rw [if_pos c4] at H
      have c4b0 : decide ((Int.tmod a0 a1) < 0) = true := decide_eq_true c4
      clear c4
      obtain rfl := Option.some.inj H
      go_enter Tryd.func8, Tryd.ntmps8
      go_wp2
      go_ret
      exact ⟨by first | rfl | (simp; done) | (simp [*]; done), by repeat (first | exact Drawn0.refl _ | apply Drawn0.step)⟩
    · rw [if_neg c4] at H
      have c4b0 : decide ((Int.tmod a0 a1) < 0) = false := decide_eq_false c4
      clear c4
      obtain rfl := Option.some.inj H
      go_enter Tryd.func8, Tryd.ntmps8
      go_wp2
      go_ret
      exact ⟨by first | rfl | (simp; done) | (simp [*]; done), by repeat (first | exact Drawn0.refl _ | apply Drawn0.step)⟩

/-! ### pendulumlaw8_ShowBrackets: function 3 -/
mutual
def pendulumlaw8_ShowBrackets.j0 : Nat → List Int → Bool → Bool → Option (Bool)
  | 0, _, _, _ => none
  | k + 1, x0, x3, x21 => if x21 = true then (some x3) else (pendulumlaw8_ShowBrackets.l0 k x0 0 true 0 3 0 0 (⟨#[97]⟩ : ByteArray) ([] : List (S26)))
def pendulumlaw8_ShowBrackets.l0 : Nat → List Int → Int → Bool → Int → Int → Int → Int → ByteArray → List (S26) → Option (Bool)
  | 0, _, _, _, _, _, _, _, _, _ => none
  | k + 1, x0, x5, x6, x7, x150000, x150001, x150002, x150003, x150004 => if x7 < (x0.length : Int) then (if x6 = true then (pendulumlaw8_ShowBrackets.j2 k x0 x5 x7 0 x150000 x150001 x150002 x150003 x150004) else (pendulumlaw8_ShowBrackets.j2 k x0 x5 x7 1 x150000 x150001 x150002 x150003 x150004)) else ((show_Expr.f k x150000 x150001 x150002 x150003 x150004).bind fun t164 => (pendulumlaw8_ShowBrackets.l1 k x5 t164 0 0))
def pendulumlaw8_ShowBrackets.j2 : Nat → List Int → Int → Int → Int → Int → Int → Int → ByteArray → List (S26) → Option (Bool)
  | 0, _, _, _, _, _, _, _, _, _ => none
  | k + 1, x0, x5, x7, x8, x150000, x150001, x150002, x150003, x150004 => if 0 ≤ x7 then (if x7 < (x0.length : Int) then ((pendulumworld_Number.f (rd x0 x7) 4).bind fun t151 => (if t151 = 0 then (pendulumlaw8_ShowBrackets.l0 k x0 (wrap64 (x5 + x8)) (5 == 25) (wrap64 (x7 + 1)) 5 0 0 (⟨#[]⟩ : ByteArray) (([(⟨x150000, x150001, x150002, x150003, x150004⟩ : S26)] : List (S26)))) else (if t151 = 1 then (pendulumlaw8_ShowBrackets.l0 k x0 (wrap64 (x5 + x8)) (22 == 25) (wrap64 (x7 + 1)) 22 0 0 (⟨#[]⟩ : ByteArray) (([(⟨1, 0, 0, (⟨#[]⟩ : ByteArray), ([] : List (S26))⟩ : S26), (⟨x150000, x150001, x150002, x150003, x150004⟩ : S26)] : List (S26)))) else (if t151 = 2 then (pendulumlaw8_ShowBrackets.l0 k x0 (wrap64 (x5 + x8)) (24 == 25) (wrap64 (x7 + 1)) 24 0 1 (⟨#[99]⟩ : ByteArray) (([(⟨x150000, x150001, x150002, x150003, x150004⟩ : S26)] : List (S26)))) else (pendulumlaw8_ShowBrackets.l0 k x0 (wrap64 (x5 + 1)) (25 == 25) (wrap64 (x7 + 1)) 25 0 0 (⟨#[99]⟩ : ByteArray) (([(⟨x150000, x150001, x150002, x150003, x150004⟩ : S26), (⟨2, 0, 0, (⟨#[]⟩ : ByteArray), ([] : List (S26))⟩ : S26)] : List (S26)))))))) else (none)) else (none)
def pendulumlaw8_ShowBrackets.l1 : Nat → Int → ByteArray → Int → Int → Option (Bool)
  | 0, _, _, _, _ => none
  | k + 1, x5, x9, x10, x11 => if x11 < (x9.size : Int) then (if 0 ≤ x11 then (if (bt x9 x11) = 40 then (pendulumlaw8_ShowBrackets.l1 k x5 x9 (wrap64 (x10 + 1)) (wrap64 (x11 + 1))) else (pendulumlaw8_ShowBrackets.l1 k x5 x9 x10 (wrap64 (x11 + 1)))) else (none)) else (some (x10 == x5))
end
def pendulumlaw8_ShowBrackets.f (k : Nat) (l0 : List Int) : Option (Bool) := (pendulumlaw8_first.f k).bind fun t148 => (if t148 = true then (if (l0.length : Int) > 15 then (pendulumlaw8_ShowBrackets.j0 k l0 t148 true) else (pendulumlaw8_ShowBrackets.j0 k l0 t148 (!t148))) else (some false))
set_option maxHeartbeats 8000000 in
set_option maxRecDepth 100000 in
theorem pendulumlaw8_ShowBrackets.calls [Sent] (k : Nat) (A0 : Option Addr) (c0 : Nat) (l0 : List Int) (r : Bool) (w : World) (hr0 : Kd.C (Kd.int .i64) w A0 l0.length l0) (hc0 : l0.length ≤ c0) (hG : GlobW w) (h : pendulumlaw8_ShowBrackets.f k l0 = some r) :
    Calls Tryd.prog 3 #[.slice A0 l0.length c0] w fun e w' => e = .returned (.bool r) ∧ Below w.heap.size w w' := by
  have hu26 := Tryd.underlying26
  have HR0 := Aside0.mk hr0
  have HC0 := Aside0.mk hc0
  clear hr0 hc0
  have HB := Aside0.mk (Below.refl w.heap.size w)
  have HG := Aside0.mk hG
  clear hG
  have H : ((pendulumlaw8_first.f k).bind fun t148 => (if t148 = true then (if (l0.length : Int) > 15 then (pendulumlaw8_ShowBrackets.j0 k l0 t148 true) else (pendulumlaw8_ShowBrackets.j0 k l0 t148 (!t148))) else (some false))) = some r := h
  clear h
  replace H := Option.bind_eq_some_iff.mp H
  obtain ⟨t148, A20, H⟩ := H
  replace H : (if t148 = true then (if (l0.length : Int) > 15 then (pendulumlaw8_ShowBrackets.j0 k l0 t148 true) else (pendulumlaw8_ShowBrackets.j0 k l0 t148 (!t148))) else (some false)) = some r := H
  have A2 := Aside0.mk A20
  clear A20
  by_cases c3 : t148 = true
  · subst c3
    have H1 : (if (l0.length : Int) > 15 then (pendulumlaw8_ShowBrackets.j0 k l0 true true) else (pendulumlaw8_ShowBrackets.j0 k l0 true (!true))) = some r := by rw [if_pos rfl] at H; exact H
    clear H
    have H := H1
    clear H1
    have HC4 := Aside0.mk H
    clear H
    go_enter Tryd.func3, Tryd.ntmps3
    go_upto_region 4 with (first | ((with_reducible refine gate_callee (f := 7) rfl ?_); refine goesL_ (some 12) rfl rfl Tryd.func7 (by kernel_rfl) rfl #[] rfl (by (try simp only [List.map_toArray, List.map_cons, List.map_nil]); first | done | rfl | (simp only [List.length_drop, List.length_take]; rfl)) ?_; (with_reducible refine (pendulumlaw8_first.calls k  true _ ?side1 A2.out).mono ?_); (case side1 => exact GlobW.below HG.out (by repeat (first | (with_reducible first | exact HB.out | apply below_alloc | apply pw_below_drewN | apply below_drew1) | exact HB.out))); rintro e w5 ⟨rfl, hb⟩; refine ⟨_, rfl, ?_⟩; have n0_ := Aside0.mk (below_step (by repeat (first | (with_reducible first | exact HB.out | apply below_alloc | apply pw_below_drewN | apply below_drew1) | exact HB.out)) hb); clear HB; have HB := n0_; clear n0_; (try clear hb); (try clear hb2); (try clear hk); (try clear hi)))
    (try simp only [Act.put, List.setIfInBounds_toArray, List.set_cons_zero, List.set_cons_succ])
    go_cut [21] (fun v21 wc => ∃ (kq : Nat) (x21_3 : Bool), v21 = .bool x21_3 ∧ Aside0 (pendulumlaw8_ShowBrackets.j0 kq l0 true x21_3 = some r) ∧ Aside0 (kq ≤ k) ∧ Aside0 (Below w.heap.size w wc))
    case first =>
      have H := HC4.out
      clear HC4
      by_cases c6 : (l0.length : Int) > 15
      · rw [if_pos c6] at H
        have c6b0 : decide (15 < (l0.length : Int)) = true := decide_eq_true c6
        have c6b1 : decide (15 < l0.length) = true := decide_eq_true (by omega)
        clear c6
        (first | rw [c6b0] | (simp only [i64_w, i32_w]; rw [c6b0]) | skip)
        have H' := Aside0.mk H
        clear H
        go_wp2
        go_meet
        case rel => exact ⟨_, (true), (by first | rfl | (simp; done) | (simp [*]; done)), H', ⟨by first | omega | exact Nat.le_refl _⟩, ⟨by repeat (first | (with_reducible first | exact HB.out | apply below_alloc | apply pw_below_drewN | apply below_drew1) | exact HB.out)⟩⟩
      · rw [if_neg c6] at H
        have c6b0 : decide (15 < (l0.length : Int)) = false := decide_eq_false c6
        have c6b1 : decide (15 < l0.length) = false := decide_eq_false (by omega)
        clear c6
        (first | rw [c6b0] | (simp only [i64_w, i32_w]; rw [c6b0]) | skip)
        have H' := Aside0.mk H
        clear H
        go_wp2
        go_meet
        case rel => exact ⟨_, (!true), (by first | rfl | (simp; done) | (simp [*]; done)), H', ⟨by first | omega | exact Nat.le_refl _⟩, ⟨by repeat (first | (with_reducible first | exact HB.out | apply below_alloc | apply pw_below_drewN | apply below_drew1) | exact HB.out)⟩⟩
    case rest =>
      clear HC4
      try clear p2
      try clear c3
      try clear c6
      try clear c6b0
      try clear c6b1
      obtain ⟨kq, x21_3, rfl, HA, HJ3, HB⟩ := hcut
      cases kq with
      | zero => exact absurd HA.out (by simp [pendulumlaw8_ShowBrackets.j0])
      | succ kj3 =>
        have H := HA.out
        clear HA
        simp only [pendulumlaw8_ShowBrackets.j0] at H
        by_cases c7 : x21_3 = true
        · subst c7
          have H1 : (some true) = some r := by rw [if_pos rfl] at H; exact H
          clear H
          have H := H1
          clear H1
          obtain rfl := Option.some.inj H
          go_wp2
          go_ret
          exact ⟨by first | rfl | (simp [errW_none, errW_some] <;> rfl) | (simp [*, errW_none, errW_some] <;> rfl), by repeat (first | (with_reducible first | exact HB.out | apply below_alloc | apply pw_below_drewN | apply below_drew1) | exact HB.out)⟩
        · replace c7 := Bool.eq_false_iff.mpr c7
          subst c7
          have H1 : (pendulumlaw8_ShowBrackets.l0 kj3 l0 0 true 0 3 0 0 (⟨#[97]⟩ : ByteArray) ([] : List (S26))) = some r := by rw [if_neg (show ¬ (false = true) by decide)] at H; exact H
          clear H
          have H := H1
          clear H1
          have H' := Aside0.mk H
          clear H
          go_wp2_with (first | ((with_reducible refine gate_dst (N := 4) rfl ?_); refine box_event ?hg (N := 4) ?hd (cs := #[.int .i64 0, .int .i64 0, .int .i64 0, .string (⟨#[]⟩ : ByteArray), .slice none 0 0]) (t := 26) ?hr ?_; (case hd => rfl); (case hg => rfl); (case hr => first | (go_simp; done) | (go_simp; rfl)); intro gb149 hg w8 hbox hb; have n0_ := Aside0.mk (below_step (by repeat (first | (with_reducible first | exact HB.out | apply below_alloc | apply pw_below_drewN | apply below_drew1) | exact HB.out)) hb); have n1_ := Aside0.mk (hbox); have n2_ := Aside0.mk ((by rw [hg]; exact (below_size (by repeat (first | (with_reducible first | exact HB.out | apply below_alloc | apply pw_below_drewN | apply below_drew1) | exact HB.out))) : w.heap.size ≤ gb149)); have n3_ := Aside0.mk ((by rw [hg]; exact (below_size (by repeat (first | (with_reducible first | exact HB.out | apply below_alloc | apply pw_below_drewN | apply below_drew1) | exact HB.out))) : w.heap.size ≤ gb149)); clear HB; have HB := n0_; have BK149 := n1_; have GW149 := n2_; have GE149 := n3_; clear n0_ n1_ n2_ n3_; clear hb hbox hg; have hcz9_0 : w8.cell? ⟨gb149, 0, none⟩ = some (.int .i64 0) := (blk_cell BK149.out 0).trans rfl; have hcz9_1 : w8.cell? ⟨gb149, 1, none⟩ = some (.int .i64 0) := (blk_cell BK149.out 1).trans rfl; have hcz9_2 : w8.cell? ⟨gb149, 2, none⟩ = some (.int .i64 0) := (blk_cell BK149.out 2).trans rfl; have hcz9_3 : w8.cell? ⟨gb149, 3, none⟩ = some (.string (⟨#[]⟩ : ByteArray)) := (blk_cell BK149.out 3).trans rfl; have hcz9_4 : w8.cell? ⟨gb149, 4, none⟩ = some (.slice none 0 0) := (blk_cell BK149.out 4).trans rfl; have hfz9_0 := blk_frozen BK149.out 0; have hfz9_1 := blk_frozen BK149.out 1; have hfz9_2 := blk_frozen BK149.out 2; have hfz9_3 := blk_frozen BK149.out 3; have hfz9_4 := blk_frozen BK149.out 4))
          go_loopg [5, 6, 7] kj3 (fun kq v5 v6 v7 w' => ∃ (x5_2 : Int) (x6_2 : Bool) (x7_2 : Int) (x150000_2 : Int) (x150001_2 : Int) (x150002_2 : Int) (x150003_2 : ByteArray) (x150004_2 : List (S26)) (u150004 : Value), v5 = .int .i64 x5_2 ∧ v6 = .bool x6_2 ∧ v7 = .int .i64 x7_2 ∧ Aside0 (pendulumlaw8_ShowBrackets.l0 kq l0 x5_2 x6_2 x7_2 x150000_2 x150001_2 x150002_2 x150003_2 x150004_2 = some r) ∧ Aside0 (kq ≤ kj3) ∧ Aside0 (Kd.N k26 26 w' w.heap.size (fun k_ => k_ ≠ gb149) u150004 x150004_2) ∧ Aside0 (w'.heap[gb149]? = some (.cells #[.int .i64 x150000_2, .int .i64 x150001_2, .int .i64 x150002_2, .string x150003_2, u150004] 26 (0, 0))) ∧ Aside0 (Below w.heap.size w w'))
          case atStart => exact ⟨(0), (true), (0), (3), (0), (0), ((⟨#[97]⟩ : ByteArray)), (([] : List (S26))), (.slice none 0 0), (by first | rfl | (simp; done) | (simp [*]; done)), (by first | rfl | (simp; done) | (simp [*]; done)), (by first | rfl | (simp; done) | (simp [*]; done)), H', ⟨Nat.le_refl _⟩, ⟨by first | exact Kd.R_nil _ _ _ _ _ | exact Kd.N_nil _ _ _ _ _ | exact Kd.V_nil _ _ _ _ _ | exact Kd.Q_nil _ _ _ _ _ | exact Kd.S_nil _ _ _ _ _⟩, ⟨by (with_reducible repeat (first | refine blk_drewN ?_ _ | refine blk_drew ?_ | refine blk_alloc ?_ _)); refine blk_put (cs := #[.int .i64 3, .int .i64 0, .int .i64 0, .string (⟨#[97]⟩ : ByteArray), .slice none 0 0]) ?_ 4 _ rfl; (with_reducible repeat (first | refine blk_drewN ?_ _ | refine blk_drew ?_ | refine blk_alloc ?_ _)); refine blk_put (cs := #[.int .i64 3, .int .i64 0, .int .i64 0, .string (⟨#[]⟩ : ByteArray), .slice none 0 0]) ?_ 3 _ rfl; (with_reducible repeat (first | refine blk_drewN ?_ _ | refine blk_drew ?_ | refine blk_alloc ?_ _)); refine blk_put (cs := #[.int .i64 3, .int .i64 0, .int .i64 0, .string (⟨#[]⟩ : ByteArray), .slice none 0 0]) ?_ 2 _ rfl; (with_reducible repeat (first | refine blk_drewN ?_ _ | refine blk_drew ?_ | refine blk_alloc ?_ _)); refine blk_put (cs := #[.int .i64 3, .int .i64 0, .int .i64 0, .string (⟨#[]⟩ : ByteArray), .slice none 0 0]) ?_ 1 _ rfl; (with_reducible repeat (first | refine blk_drewN ?_ _ | refine blk_drew ?_ | refine blk_alloc ?_ _)); refine blk_put (cs := #[.int .i64 0, .int .i64 0, .int .i64 0, .string (⟨#[]⟩ : ByteArray), .slice none 0 0]) ?_ 0 _ rfl; (with_reducible repeat (first | refine blk_drewN ?_ _ | refine blk_drew ?_ | refine blk_alloc ?_ _)); exact BK149.out⟩, ⟨by repeat (first | (with_reducible first | exact HB.out | apply below_alloc | apply pw_below_drewN | apply below_drew1 | refine below_set ?_ GE149.out) | exact HB.out)⟩⟩
          case round =>
            clear H'
            try clear p2
            try clear c3
            try clear c6
            try clear c6b0
            try clear c6b1
            try clear c7
            try clear hcz9_0
            try clear hcz9_1
            try clear hcz9_2
            try clear hcz9_3
            try clear hcz9_4
            try clear hfz9_0
            try clear hfz9_1
            try clear hfz9_2
            try clear hfz9_3
            try clear hfz9_4
            try clear p2
            obtain ⟨x5_2, x6_2, x7_2, x150000_2, x150001_2, x150002_2, x150003_2, x150004_2, u150004, rfl, rfl, rfl, HA, HK2, HO_150004, BK149, HB⟩ := hrel
            cases gk with
            | zero => exact absurd HA.out (by simp [pendulumlaw8_ShowBrackets.l0])
            | succ k2 =>
              have H := HA.out
              clear HA
              simp only [pendulumlaw8_ShowBrackets.l0] at H
              by_cases c10 : x7_2 < (l0.length : Int)
              · rw [if_pos c10] at H
                have c10b0 : decide (x7_2 < (l0.length : Int)) = true := decide_eq_true c10
                clear c10
                have HC11 := Aside0.mk H
                clear H
                go_upto_if 31 with (fail)
                go_cut [8] (fun v8 wc => ∃ (kq : Nat) (x8_10 : Int), v8 = .int .i64 x8_10 ∧ Aside0 (pendulumlaw8_ShowBrackets.j2 kq l0 x5_2 x7_2 x8_10 x150000_2 x150001_2 x150002_2 x150003_2 x150004_2 = some r) ∧ Aside0 (kq ≤ k2) ∧ Aside0 (Kd.N k26 26 wc w.heap.size (fun k_ => k_ ≠ gb149) u150004 x150004_2) ∧ Aside0 (wc.heap[gb149]? = some (.cells #[.int .i64 x150000_2, .int .i64 x150001_2, .int .i64 x150002_2, .string x150003_2, u150004] 26 (0, 0))) ∧ Aside0 (Below w.heap.size w wc))
                case first =>
                  have H := HC11.out
                  clear HC11
                  by_cases c12 : x6_2 = true
                  · subst c12
                    have H1 : (pendulumlaw8_ShowBrackets.j2 k2 l0 x5_2 x7_2 0 x150000_2 x150001_2 x150002_2 x150003_2 x150004_2) = some r := by rw [if_pos rfl] at H; exact H
                    clear H
                    have H := H1
                    clear H1
                    have H' := Aside0.mk H
                    clear H
                    go_wp2
                    go_meet
                    case rel => exact ⟨_, (0), (by first | rfl | (simp; done) | (simp [*]; done)), H', ⟨by have := HJ3.out; have := HK2.out; first | omega | exact Nat.le_refl _⟩, ⟨by (with_reducible repeat (first | apply Kd.N_alloc | apply Kd.N_drewN | apply Kd.N_drew)); exact HO_150004.out⟩, ⟨by (with_reducible repeat (first | refine blk_drewN ?_ _ | refine blk_drew ?_ | refine blk_alloc ?_ _)); exact BK149.out⟩, ⟨by repeat (first | (with_reducible first | exact HB.out | apply below_alloc | apply pw_below_drewN | apply below_drew1 | refine below_set ?_ GE149.out) | exact HB.out)⟩⟩
                  · replace c12 := Bool.eq_false_iff.mpr c12
                    subst c12
                    have H1 : (pendulumlaw8_ShowBrackets.j2 k2 l0 x5_2 x7_2 1 x150000_2 x150001_2 x150002_2 x150003_2 x150004_2) = some r := by rw [if_neg (show ¬ (false = true) by decide)] at H; exact H
                    clear H
                    have H := H1
                    clear H1
                    have H' := Aside0.mk H
                    clear H
                    go_wp2
                    go_meet
                    case rel => exact ⟨_, (1), (by first | rfl | (simp; done) | (simp [*]; done)), H', ⟨by have := HJ3.out; have := HK2.out; first | omega | exact Nat.le_refl _⟩, ⟨by (with_reducible repeat (first | apply Kd.N_alloc | apply Kd.N_drewN | apply Kd.N_drew)); exact HO_150004.out⟩, ⟨by (with_reducible repeat (first | refine blk_drewN ?_ _ | refine blk_drew ?_ | refine blk_alloc ?_ _)); exact BK149.out⟩, ⟨by repeat (first | (with_reducible first | exact HB.out | apply below_alloc | apply pw_below_drewN | apply below_drew1 | refine below_set ?_ GE149.out) | exact HB.out)⟩⟩
                case rest =>
                  clear HC11
                  try clear c1
                  try clear p2
                  try clear c3
                  try clear c6
                  try clear c6b0
                  try clear c6b1
                  try clear c7
                  try clear c10
                  try clear c10b0
                  try clear c12
                  try clear hcz9_0
                  try clear hcz9_1
                  try clear hcz9_2
                  try clear hcz9_3
                  try clear hcz9_4
                  try clear hfz9_0
                  try clear hfz9_1
                  try clear hfz9_2
                  try clear hfz9_3
                  try clear hfz9_4
                  try clear p2
                  obtain ⟨kq, x8_10, rfl, HA, HJ10, HO_150004, BK149, HB⟩ := hcut
                  cases kq with
                  | zero => exact absurd HA.out (by simp [pendulumlaw8_ShowBrackets.j2])
                  | succ kj10 =>
                    have H := HA.out
                    clear HA
                    simp only [pendulumlaw8_ShowBrackets.j2] at H
                    by_cases c13 : 0 ≤ x7_2
                    · rw [if_pos c13] at H
                      have c13b0 : decide (0 ≤ x7_2) = true := decide_eq_true c13
                      clear c13
                      by_cases c14 : x7_2 < (l0.length : Int)
                      · rw [if_pos c14] at H
                        have c14b0 : decide (x7_2 < (l0.length : Int)) = true := decide_eq_true c14
                        clear c14
                        replace H := Option.bind_eq_some_iff.mp H
                        obtain ⟨t151, A150, H⟩ := H
                        replace H : (if t151 = 0 then (pendulumlaw8_ShowBrackets.l0 kj10 l0 (wrap64 (x5_2 + x8_10)) (5 == 25) (wrap64 (x7_2 + 1)) 5 0 0 (⟨#[]⟩ : ByteArray) (([(⟨x150000_2, x150001_2, x150002_2, x150003_2, x150004_2⟩ : S26)] : List (S26)))) else (if t151 = 1 then (pendulumlaw8_ShowBrackets.l0 kj10 l0 (wrap64 (x5_2 + x8_10)) (22 == 25) (wrap64 (x7_2 + 1)) 22 0 0 (⟨#[]⟩ : ByteArray) (([(⟨1, 0, 0, (⟨#[]⟩ : ByteArray), ([] : List (S26))⟩ : S26), (⟨x150000_2, x150001_2, x150002_2, x150003_2, x150004_2⟩ : S26)] : List (S26)))) else (if t151 = 2 then (pendulumlaw8_ShowBrackets.l0 kj10 l0 (wrap64 (x5_2 + x8_10)) (24 == 25) (wrap64 (x7_2 + 1)) 24 0 1 (⟨#[99]⟩ : ByteArray) (([(⟨x150000_2, x150001_2, x150002_2, x150003_2, x150004_2⟩ : S26)] : List (S26)))) else (pendulumlaw8_ShowBrackets.l0 kj10 l0 (wrap64 (x5_2 + 1)) (25 == 25) (wrap64 (x7_2 + 1)) 25 0 0 (⟨#[99]⟩ : ByteArray) (([(⟨x150000_2, x150001_2, x150002_2, x150003_2, x150004_2⟩ : S26), (⟨2, 0, 0, (⟨#[]⟩ : ByteArray), ([] : List (S26))⟩ : S26)] : List (S26))))))) = some r := H
                        have A15 := Aside0.mk A150
                        clear A150
                        by_cases c16 : t151 = 0
                        · rw [if_pos c16] at H
                          have c16b0 : (t151 == 0) = true := beq_iff_eq.mpr c16
                          have c16b1 : (t151 != 0) = false := bne_eq_false_iff_eq.mpr c16
                          clear c16
                          obtain ⟨y152, hy152⟩ : ∃ y_ : List (S26), y_ = (([(⟨x150000_2, x150001_2, x150002_2, x150003_2, x150004_2⟩ : S26)] : List (S26))) := ⟨_, rfl⟩
                          replace H : (pendulumlaw8_ShowBrackets.l0 kj10 l0 (wrap64 (x5_2 + x8_10)) (5 == 25) (wrap64 (x7_2 + 1)) 5 0 0 (⟨#[]⟩ : ByteArray) y152) = some r := by first | (rw [hy152]; with_reducible exact H) | (have H2_ := (Option.bind_some _ _).symm.trans H; rw [hy152]; with_reducible exact H2_) | (have H2_ := (Option.bind_some _ _).symm.trans H; with_reducible exact H2_) | with_reducible exact H | (rw [hy152]; exact H) | exact H
                          have Ny152 := Aside0.mk hy152
                          clear hy152
                          have H' := Aside0.mk H
                          clear H
                          have p150 : 0 ≤ (x7_2 : Int) := of_decide_eq_true (by first | (with_reducible assumption) | assumption)
                          have q150 : x7_2 < (l0.length : Int) := of_decide_eq_true (by first | (with_reducible assumption) | assumption)
                          obtain ⟨ad150, e150, hx150_0⟩ := Kd.at_int HR0.out x7_2 p150 q150
                          cases e150
                          replace hx150_0 := (HB.out.cell (World.block_lt_of_cell? w _ hx150_0)).trans hx150_0
                          replace p150 := eq_true p150
                          replace q150 := eq_true q150
                          go_wp2_with (first | ((with_reducible refine gate_callee (f := 8) rfl ?_); refine goesL_ (some 36) rfl rfl Tryd.func8 (by kernel_rfl) rfl #[.int .i64 (rd l0 x7_2), .int .i64 4] rfl (by (try simp only [List.map_toArray, List.map_cons, List.map_nil]); first | done | rfl | (simp only [List.length_drop, List.length_take]; rfl)) ?_; (with_reducible refine (pendulumworld_Number.calls (rd l0 x7_2) 4 t151 _ A15.out).mono ?_); rintro e w' ⟨rfl, ⟨nd, rfl⟩⟩; refine ⟨_, rfl, ?_⟩; (try (rw [drewN_self wc]; generalize hq_ : World.drewN wc _ = wc; have n0_ : Aside0 (Kd.N k26 26 wc w.heap.size (fun k_ => k_ ≠ gb149) u150004 x150004_2) := ⟨by rw [← hq_]; exact (by (with_reducible repeat (first | apply Kd.N_alloc | apply Kd.N_drewN | apply Kd.N_drew)); exact HO_150004.out)⟩; have n1_ : Aside0 (wc.heap[gb149]? = some (.cells #[.int .i64 x150000_2, .int .i64 x150001_2, .int .i64 x150002_2, .string x150003_2, u150004] 26 (0, 0))) := ⟨by rw [← hq_]; exact (by (with_reducible repeat (first | refine blk_drewN ?_ _ | refine blk_drew ?_ | refine blk_alloc ?_ _)); exact BK149.out)⟩; have n2_ : Aside0 (Below w.heap.size w wc) := ⟨by rw [← hq_]; exact (by repeat (first | (with_reducible first | exact HB.out | apply below_alloc | apply pw_below_drewN | apply below_drew1 | refine below_set ?_ GE149.out) | exact HB.out))⟩; clear HO_150004 BK149 HB hq_; have HO_150004 := n0_; have BK149 := n1_; have HB := n2_; clear n0_ n1_ n2_)); have hcz17_0 : wc.cell? ⟨gb149, 0, none⟩ = some (.int .i64 x150000_2) := (blk_cell BK149.out 0).trans rfl; have hcz17_1 : wc.cell? ⟨gb149, 1, none⟩ = some (.int .i64 x150001_2) := (blk_cell BK149.out 1).trans rfl; have hcz17_2 : wc.cell? ⟨gb149, 2, none⟩ = some (.int .i64 x150002_2) := (blk_cell BK149.out 2).trans rfl; have hcz17_3 : wc.cell? ⟨gb149, 3, none⟩ = some (.string x150003_2) := (blk_cell BK149.out 3).trans rfl; have hcz17_4 : wc.cell? ⟨gb149, 4, none⟩ = some (u150004) := (blk_cell BK149.out 4).trans rfl; have hfz17_0 := blk_frozen BK149.out 0; have hfz17_1 := blk_frozen BK149.out 1; have hfz17_2 := blk_frozen BK149.out 2; have hfz17_3 := blk_frozen BK149.out 3; have hfz17_4 := blk_frozen BK149.out 4; obtain ⟨Ao18, co18, eo18⟩ := Kd.N_slice HO_150004.out; subst eo18) | ((with_reducible refine gate_dst (N := 44) rfl ?_); refine Kd.N_lit k26 _ 26 ?hg (N' := 44) ?hd (xs := ([(⟨x150000_2, x150001_2, x150002_2, x150003_2, x150004_2⟩ : S26)] : List (S26))) (inner := [.int .i64 x150000_2, .int .i64 x150001_2, .int .i64 x150002_2, .string x150003_2, .slice Ao18 x150004_2.length co18]) (ok := (fun k_ => k_ ≠ gb149)) (okp := (fun k_ => k_ ≠ gb149)) ?hr ?hp (fun _ hk => hk) (by exact Kd.freshB (g := gb149) (o := .cells #[.int .i64 x150000_2, .int .i64 x150001_2, .int .i64 x150002_2, .string x150003_2, .slice Ao18 x150004_2.length co18] 26 (0, 0)) (by (with_reducible repeat (first | refine blk_drewN ?_ _ | refine blk_drew ?_ | refine blk_alloc ?_ _)); exact BK149.out) _ (Nat.le_refl _)) (Below.refl _ _) (Nat.le_refl _) (by simp) ?_; (case hd => rfl); (case hg => rfl); (case hr => first | (go_simp; done) | (go_simp; rfl)); (case hp => exact (Reps.c5 (show Kd.FK k26 _ _ (⟨x150000_2, x150001_2, x150002_2, x150003_2, x150004_2⟩ : S26) [.int .i64 x150000_2, .int .i64 x150001_2, .int .i64 x150002_2, .string x150003_2, .slice Ao18 x150004_2.length co18] from (k26_mkF _ _ (⟨x150000_2, x150001_2, x150002_2, x150003_2, x150004_2⟩ : S26) (Kd.N_reads' (Kd.N_mono (ok' := (fun k_ => k_ ≠ gb149)) (HO_150004.out) (fun k_ hk => hk))).2.1 (Kd.N_F (Kd.N_mono (ok' := (fun k_ => k_ ≠ gb149)) (HO_150004.out) (fun k_ hk => hk))))) (Reps.none _ _))); intro v153 w19 ho20 hb hg_ hnew_; clear hg_ hnew_; (first | rw [← Ny152.out] at ho20 | (simp only [Int.reduceToNat] at ho20; rw [← Ny152.out] at ho20)); have n0_ := Aside0.mk (Kd.N_lower ho20 (below_size (by repeat (first | (with_reducible first | exact HB.out | apply below_alloc | apply pw_below_drewN | apply below_drew1 | refine below_set ?_ GE149.out) | exact HB.out)))); have n1_ := Aside0.mk (blk_below (g := gb149) (o := .cells #[.int .i64 x150000_2, .int .i64 x150001_2, .int .i64 x150002_2, .string x150003_2, .slice Ao18 x150004_2.length co18] 26 (0, 0)) (by (with_reducible repeat (first | refine blk_drewN ?_ _ | refine blk_drew ?_ | refine blk_alloc ?_ _)); exact BK149.out) hb); have n2_ := Aside0.mk (below_step (by repeat (first | (with_reducible first | exact HB.out | apply below_alloc | apply pw_below_drewN | apply below_drew1 | refine below_set ?_ GE149.out) | exact HB.out)) hb); clear BK149; clear HB; clear HO_150004; have HO154 := n0_; have BK149 := n1_; have HB := n2_; clear n0_ n1_ n2_; clear hb ho20; obtain ⟨Ao21, co21, eo21⟩ := Kd.N_slice HO154.out; subst eo21; have hcz22_0 : w19.cell? ⟨gb149, 0, none⟩ = some (.int .i64 x150000_2) := (blk_cell BK149.out 0).trans rfl; have hcz22_1 : w19.cell? ⟨gb149, 1, none⟩ = some (.int .i64 x150001_2) := (blk_cell BK149.out 1).trans rfl; have hcz22_2 : w19.cell? ⟨gb149, 2, none⟩ = some (.int .i64 x150002_2) := (blk_cell BK149.out 2).trans rfl; have hcz22_3 : w19.cell? ⟨gb149, 3, none⟩ = some (.string x150003_2) := (blk_cell BK149.out 3).trans rfl; have hcz22_4 : w19.cell? ⟨gb149, 4, none⟩ = some (.slice Ao18 x150004_2.length co18) := (blk_cell BK149.out 4).trans rfl; have hfz22_0 := blk_frozen BK149.out 0; have hfz22_1 := blk_frozen BK149.out 1; have hfz22_2 := blk_frozen BK149.out 2; have hfz22_3 := blk_frozen BK149.out 3; have hfz22_4 := blk_frozen BK149.out 4))
                          go_roundg kj10
                          case measure => have := HJ3.out; have := HK2.out; have := HJ10.out; omega
                          case rel => exact ⟨(wrap64 (x5_2 + x8_10)), ((5 == 25)), (wrap64 (x7_2 + 1)), (5), (0), (0), ((⟨#[]⟩ : ByteArray)), (y152), (.slice Ao21 y152.length co21), (by first | rfl | (simp; done) | (simp [*]; done)), (by first | rfl | (simp; done) | (simp [*]; done)), (by first | rfl | (simp; done) | (simp [*]; done)), H', ⟨by have := HJ3.out; have := HK2.out; have := HJ10.out; omega⟩, ⟨by (with_reducible repeat (first | apply Kd.N_alloc | apply Kd.N_drewN | apply Kd.N_drew)); exact Kd.N_mono (Kd.N_far (p := ⟨gb149, 4, none⟩) (Kd.N_far (p := ⟨gb149, 3, none⟩) (Kd.N_far (p := ⟨gb149, 2, none⟩) (Kd.N_far (p := ⟨gb149, 1, none⟩) (Kd.N_far (p := ⟨gb149, 0, none⟩) (Kd.N_mono HO154.out (fun k_ hk => (⟨hk, hk⟩ : _ ∧ k_ ≠ gb149))) (fun _ hk => hk.2) (.int .i64 5)) (fun _ hk => hk.2) (.int .i64 0)) (fun _ hk => hk.2) (.int .i64 0)) (fun _ hk => hk.2) (.string (⟨#[]⟩ : ByteArray))) (fun _ hk => hk.2) (.slice Ao21 y152.length co21)) (fun _ hk => hk.1)⟩, ⟨by (with_reducible repeat (first | refine blk_drewN ?_ _ | refine blk_drew ?_ | refine blk_alloc ?_ _)); refine blk_put (cs := #[.int .i64 5, .int .i64 0, .int .i64 0, .string (⟨#[]⟩ : ByteArray), .slice Ao18 x150004_2.length co18]) ?_ 4 _ rfl; (with_reducible repeat (first | refine blk_drewN ?_ _ | refine blk_drew ?_ | refine blk_alloc ?_ _)); refine blk_put (cs := #[.int .i64 5, .int .i64 0, .int .i64 0, .string x150003_2, .slice Ao18 x150004_2.length co18]) ?_ 3 _ rfl; (with_reducible repeat (first | refine blk_drewN ?_ _ | refine blk_drew ?_ | refine blk_alloc ?_ _)); refine blk_put (cs := #[.int .i64 5, .int .i64 0, .int .i64 x150002_2, .string x150003_2, .slice Ao18 x150004_2.length co18]) ?_ 2 _ rfl; (with_reducible repeat (first | refine blk_drewN ?_ _ | refine blk_drew ?_ | refine blk_alloc ?_ _)); refine blk_put (cs := #[.int .i64 5, .int .i64 x150001_2, .int .i64 x150002_2, .string x150003_2, .slice Ao18 x150004_2.length co18]) ?_ 1 _ rfl; (with_reducible repeat (first | refine blk_drewN ?_ _ | refine blk_drew ?_ | refine blk_alloc ?_ _)); refine blk_put (cs := #[.int .i64 x150000_2, .int .i64 x150001_2, .int .i64 x150002_2, .string x150003_2, .slice Ao18 x150004_2.length co18]) ?_ 0 _ rfl; (with_reducible repeat (first | refine blk_drewN ?_ _ | refine blk_drew ?_ | refine blk_alloc ?_ _)); exact BK149.out⟩, ⟨by repeat (first | (with_reducible first | exact HB.out | apply below_alloc | apply pw_below_drewN | apply below_drew1 | refine below_set ?_ GE149.out) | exact HB.out)⟩⟩
                        · rw [if_neg c16] at H
                          have c16b0 : (t151 == 0) = false := beq_eq_false_iff_ne.mpr c16
                          have c16b1 : (t151 != 0) = true := bne_iff_ne.mpr c16
                          by_cases c23 : t151 = 1
                          · rw [if_pos c23] at H
                            have c23b0 : (t151 == 1) = true := beq_iff_eq.mpr c23
                            have c23b1 : (t151 != 1) = false := bne_eq_false_iff_eq.mpr c23
                            clear c23
                            obtain ⟨y155, hy155⟩ : ∃ y_ : List (S26), y_ = (([(⟨1, 0, 0, (⟨#[]⟩ : ByteArray), ([] : List (S26))⟩ : S26), (⟨x150000_2, x150001_2, x150002_2, x150003_2, x150004_2⟩ : S26)] : List (S26))) := ⟨_, rfl⟩
                            replace H : (pendulumlaw8_ShowBrackets.l0 kj10 l0 (wrap64 (x5_2 + x8_10)) (22 == 25) (wrap64 (x7_2 + 1)) 22 0 0 (⟨#[]⟩ : ByteArray) y155) = some r := by first | (rw [hy155]; with_reducible exact H) | (have H2_ := (Option.bind_some _ _).symm.trans H; rw [hy155]; with_reducible exact H2_) | (have H2_ := (Option.bind_some _ _).symm.trans H; with_reducible exact H2_) | with_reducible exact H | (rw [hy155]; exact H) | exact H
                            have Ny155 := Aside0.mk hy155
                            clear hy155
                            have H' := Aside0.mk H
                            clear H
                            have p150 : 0 ≤ (x7_2 : Int) := of_decide_eq_true (by first | (with_reducible assumption) | assumption)
                            have q150 : x7_2 < (l0.length : Int) := of_decide_eq_true (by first | (with_reducible assumption) | assumption)
                            obtain ⟨ad150, e150, hx150_0⟩ := Kd.at_int HR0.out x7_2 p150 q150
                            cases e150
                            replace hx150_0 := (HB.out.cell (World.block_lt_of_cell? w _ hx150_0)).trans hx150_0
                            replace p150 := eq_true p150
                            replace q150 := eq_true q150
                            go_wp2_with (first | ((with_reducible refine gate_callee (f := 8) rfl ?_); refine goesL_ (some 36) rfl rfl Tryd.func8 (by kernel_rfl) rfl #[.int .i64 (rd l0 x7_2), .int .i64 4] rfl (by (try simp only [List.map_toArray, List.map_cons, List.map_nil]); first | done | rfl | (simp only [List.length_drop, List.length_take]; rfl)) ?_; (with_reducible refine (pendulumworld_Number.calls (rd l0 x7_2) 4 t151 _ A15.out).mono ?_); rintro e w' ⟨rfl, ⟨nd, rfl⟩⟩; refine ⟨_, rfl, ?_⟩; (try (rw [drewN_self wc]; generalize hq_ : World.drewN wc _ = wc; have n0_ : Aside0 (Kd.N k26 26 wc w.heap.size (fun k_ => k_ ≠ gb149) u150004 x150004_2) := ⟨by rw [← hq_]; exact (by (with_reducible repeat (first | apply Kd.N_alloc | apply Kd.N_drewN | apply Kd.N_drew)); exact HO_150004.out)⟩; have n1_ : Aside0 (wc.heap[gb149]? = some (.cells #[.int .i64 x150000_2, .int .i64 x150001_2, .int .i64 x150002_2, .string x150003_2, u150004] 26 (0, 0))) := ⟨by rw [← hq_]; exact (by (with_reducible repeat (first | refine blk_drewN ?_ _ | refine blk_drew ?_ | refine blk_alloc ?_ _)); exact BK149.out)⟩; have n2_ : Aside0 (Below w.heap.size w wc) := ⟨by rw [← hq_]; exact (by repeat (first | (with_reducible first | exact HB.out | apply below_alloc | apply pw_below_drewN | apply below_drew1 | refine below_set ?_ GE149.out) | exact HB.out))⟩; clear HO_150004 BK149 HB hq_; have HO_150004 := n0_; have BK149 := n1_; have HB := n2_; clear n0_ n1_ n2_)); have hcz24_0 : wc.cell? ⟨gb149, 0, none⟩ = some (.int .i64 x150000_2) := (blk_cell BK149.out 0).trans rfl; have hcz24_1 : wc.cell? ⟨gb149, 1, none⟩ = some (.int .i64 x150001_2) := (blk_cell BK149.out 1).trans rfl; have hcz24_2 : wc.cell? ⟨gb149, 2, none⟩ = some (.int .i64 x150002_2) := (blk_cell BK149.out 2).trans rfl; have hcz24_3 : wc.cell? ⟨gb149, 3, none⟩ = some (.string x150003_2) := (blk_cell BK149.out 3).trans rfl; have hcz24_4 : wc.cell? ⟨gb149, 4, none⟩ = some (u150004) := (blk_cell BK149.out 4).trans rfl; have hfz24_0 := blk_frozen BK149.out 0; have hfz24_1 := blk_frozen BK149.out 1; have hfz24_2 := blk_frozen BK149.out 2; have hfz24_3 := blk_frozen BK149.out 3; have hfz24_4 := blk_frozen BK149.out 4; obtain ⟨Ao25, co25, eo25⟩ := Kd.N_slice HO_150004.out; subst eo25) | ((with_reducible refine gate_dst (N := 50) rfl ?_); refine Kd.N_lit k26 _ 26 ?hg (N' := 50) ?hd (xs := ([(⟨1, 0, 0, (⟨#[]⟩ : ByteArray), ([] : List (S26))⟩ : S26), (⟨x150000_2, x150001_2, x150002_2, x150003_2, x150004_2⟩ : S26)] : List (S26))) (inner := [.int .i64 1, .int .i64 0, .int .i64 0, .string (⟨#[]⟩ : ByteArray), .slice none 0 0, .int .i64 x150000_2, .int .i64 x150001_2, .int .i64 x150002_2, .string x150003_2, .slice Ao25 x150004_2.length co25]) (ok := (fun k_ => k_ ≠ gb149)) (okp := (fun k_ => k_ ≠ gb149)) ?hr ?hp (fun _ hk => hk) (by exact Kd.freshB (g := gb149) (o := .cells #[.int .i64 x150000_2, .int .i64 x150001_2, .int .i64 x150002_2, .string x150003_2, .slice Ao25 x150004_2.length co25] 26 (0, 0)) (by (with_reducible repeat (first | refine blk_drewN ?_ _ | refine blk_drew ?_ | refine blk_alloc ?_ _)); exact BK149.out) _ (Nat.le_refl _)) (Below.refl _ _) (Nat.le_refl _) (by simp) ?_; (case hd => rfl); (case hg => rfl); (case hr => first | (go_simp; done) | (go_simp; rfl)); (case hp => exact (Reps.c5 (show Kd.FK k26 _ _ (⟨1, 0, 0, (⟨#[]⟩ : ByteArray), ([] : List (S26))⟩ : S26) [.int .i64 1, .int .i64 0, .int .i64 0, .string (⟨#[]⟩ : ByteArray), .slice none 0 0] from (k26_mkF _ _ (⟨1, 0, 0, (⟨#[]⟩ : ByteArray), ([] : List (S26))⟩ : S26) (Nat.le_refl _) (Kd.F_nil _ _ _))) (Reps.c5 (show Kd.FK k26 _ _ (⟨x150000_2, x150001_2, x150002_2, x150003_2, x150004_2⟩ : S26) [.int .i64 x150000_2, .int .i64 x150001_2, .int .i64 x150002_2, .string x150003_2, .slice Ao25 x150004_2.length co25] from (k26_mkF _ _ (⟨x150000_2, x150001_2, x150002_2, x150003_2, x150004_2⟩ : S26) (Kd.N_reads' (Kd.N_mono (ok' := (fun k_ => k_ ≠ gb149)) (HO_150004.out) (fun k_ hk => hk))).2.1 (Kd.N_F (Kd.N_mono (ok' := (fun k_ => k_ ≠ gb149)) (HO_150004.out) (fun k_ hk => hk))))) (Reps.none _ _)))); intro v156 w26 ho27 hb hg_ hnew_; clear hg_ hnew_; (first | rw [← Ny155.out] at ho27 | (simp only [Int.reduceToNat] at ho27; rw [← Ny155.out] at ho27)); have n0_ := Aside0.mk (Kd.N_lower ho27 (below_size (by repeat (first | (with_reducible first | exact HB.out | apply below_alloc | apply pw_below_drewN | apply below_drew1 | refine below_set ?_ GE149.out) | exact HB.out)))); have n1_ := Aside0.mk (blk_below (g := gb149) (o := .cells #[.int .i64 x150000_2, .int .i64 x150001_2, .int .i64 x150002_2, .string x150003_2, .slice Ao25 x150004_2.length co25] 26 (0, 0)) (by (with_reducible repeat (first | refine blk_drewN ?_ _ | refine blk_drew ?_ | refine blk_alloc ?_ _)); exact BK149.out) hb); have n2_ := Aside0.mk (below_step (by repeat (first | (with_reducible first | exact HB.out | apply below_alloc | apply pw_below_drewN | apply below_drew1 | refine below_set ?_ GE149.out) | exact HB.out)) hb); clear BK149; clear HB; clear HO_150004; have HO157 := n0_; have BK149 := n1_; have HB := n2_; clear n0_ n1_ n2_; clear hb ho27; obtain ⟨Ao28, co28, eo28⟩ := Kd.N_slice HO157.out; subst eo28; have hcz29_0 : w26.cell? ⟨gb149, 0, none⟩ = some (.int .i64 x150000_2) := (blk_cell BK149.out 0).trans rfl; have hcz29_1 : w26.cell? ⟨gb149, 1, none⟩ = some (.int .i64 x150001_2) := (blk_cell BK149.out 1).trans rfl; have hcz29_2 : w26.cell? ⟨gb149, 2, none⟩ = some (.int .i64 x150002_2) := (blk_cell BK149.out 2).trans rfl; have hcz29_3 : w26.cell? ⟨gb149, 3, none⟩ = some (.string x150003_2) := (blk_cell BK149.out 3).trans rfl; have hcz29_4 : w26.cell? ⟨gb149, 4, none⟩ = some (.slice Ao25 x150004_2.length co25) := (blk_cell BK149.out 4).trans rfl; have hfz29_0 := blk_frozen BK149.out 0; have hfz29_1 := blk_frozen BK149.out 1; have hfz29_2 := blk_frozen BK149.out 2; have hfz29_3 := blk_frozen BK149.out 3; have hfz29_4 := blk_frozen BK149.out 4))
                            go_roundg kj10
                            case measure => have := HJ3.out; have := HK2.out; have := HJ10.out; omega
                            case rel => exact ⟨(wrap64 (x5_2 + x8_10)), ((22 == 25)), (wrap64 (x7_2 + 1)), (22), (0), (0), ((⟨#[]⟩ : ByteArray)), (y155), (.slice Ao28 y155.length co28), (by first | rfl | (simp; done) | (simp [*]; done)), (by first | rfl | (simp; done) | (simp [*]; done)), (by first | rfl | (simp; done) | (simp [*]; done)), H', ⟨by have := HJ3.out; have := HK2.out; have := HJ10.out; omega⟩, ⟨by (with_reducible repeat (first | apply Kd.N_alloc | apply Kd.N_drewN | apply Kd.N_drew)); exact Kd.N_mono (Kd.N_far (p := ⟨gb149, 4, none⟩) (Kd.N_far (p := ⟨gb149, 3, none⟩) (Kd.N_far (p := ⟨gb149, 2, none⟩) (Kd.N_far (p := ⟨gb149, 1, none⟩) (Kd.N_far (p := ⟨gb149, 0, none⟩) (Kd.N_mono HO157.out (fun k_ hk => (⟨hk, hk⟩ : _ ∧ k_ ≠ gb149))) (fun _ hk => hk.2) (.int .i64 22)) (fun _ hk => hk.2) (.int .i64 0)) (fun _ hk => hk.2) (.int .i64 0)) (fun _ hk => hk.2) (.string (⟨#[]⟩ : ByteArray))) (fun _ hk => hk.2) (.slice Ao28 y155.length co28)) (fun _ hk => hk.1)⟩, ⟨by (with_reducible repeat (first | refine blk_drewN ?_ _ | refine blk_drew ?_ | refine blk_alloc ?_ _)); refine blk_put (cs := #[.int .i64 22, .int .i64 0, .int .i64 0, .string (⟨#[]⟩ : ByteArray), .slice Ao25 x150004_2.length co25]) ?_ 4 _ rfl; (with_reducible repeat (first | refine blk_drewN ?_ _ | refine blk_drew ?_ | refine blk_alloc ?_ _)); refine blk_put (cs := #[.int .i64 22, .int .i64 0, .int .i64 0, .string x150003_2, .slice Ao25 x150004_2.length co25]) ?_ 3 _ rfl; (with_reducible repeat (first | refine blk_drewN ?_ _ | refine blk_drew ?_ | refine blk_alloc ?_ _)); refine blk_put (cs := #[.int .i64 22, .int .i64 0, .int .i64 x150002_2, .string x150003_2, .slice Ao25 x150004_2.length co25]) ?_ 2 _ rfl; (with_reducible repeat (first | refine blk_drewN ?_ _ | refine blk_drew ?_ | refine blk_alloc ?_ _)); refine blk_put (cs := #[.int .i64 22, .int .i64 x150001_2, .int .i64 x150002_2, .string x150003_2, .slice Ao25 x150004_2.length co25]) ?_ 1 _ rfl; (with_reducible repeat (first | refine blk_drewN ?_ _ | refine blk_drew ?_ | refine blk_alloc ?_ _)); refine blk_put (cs := #[.int .i64 x150000_2, .int .i64 x150001_2, .int .i64 x150002_2, .string x150003_2, .slice Ao25 x150004_2.length co25]) ?_ 0 _ rfl; (with_reducible repeat (first | refine blk_drewN ?_ _ | refine blk_drew ?_ | refine blk_alloc ?_ _)); exact BK149.out⟩, ⟨by repeat (first | (with_reducible first | exact HB.out | apply below_alloc | apply pw_below_drewN | apply below_drew1 | refine below_set ?_ GE149.out) | exact HB.out)⟩⟩
                          · rw [if_neg c23] at H
                            have c23b0 : (t151 == 1) = false := beq_eq_false_iff_ne.mpr c23
                            have c23b1 : (t151 != 1) = true := bne_iff_ne.mpr c23
                            by_cases c30 : t151 = 2
                            · rw [if_pos c30] at H
                              have c30b0 : (t151 == 2) = true := beq_iff_eq.mpr c30
                              have c30b1 : (t151 != 2) = false := bne_eq_false_iff_eq.mpr c30
                              clear c30
                              obtain ⟨y158, hy158⟩ : ∃ y_ : List (S26), y_ = (([(⟨x150000_2, x150001_2, x150002_2, x150003_2, x150004_2⟩ : S26)] : List (S26))) := ⟨_, rfl⟩
                              replace H : (pendulumlaw8_ShowBrackets.l0 kj10 l0 (wrap64 (x5_2 + x8_10)) (24 == 25) (wrap64 (x7_2 + 1)) 24 0 1 (⟨#[99]⟩ : ByteArray) y158) = some r := by first | (rw [hy158]; with_reducible exact H) | (have H2_ := (Option.bind_some _ _).symm.trans H; rw [hy158]; with_reducible exact H2_) | (have H2_ := (Option.bind_some _ _).symm.trans H; with_reducible exact H2_) | with_reducible exact H | (rw [hy158]; exact H) | exact H
                              have Ny158 := Aside0.mk hy158
                              clear hy158
                              have H' := Aside0.mk H
                              clear H
                              have p150 : 0 ≤ (x7_2 : Int) := of_decide_eq_true (by first | (with_reducible assumption) | assumption)
                              have q150 : x7_2 < (l0.length : Int) := of_decide_eq_true (by first | (with_reducible assumption) | assumption)
                              obtain ⟨ad150, e150, hx150_0⟩ := Kd.at_int HR0.out x7_2 p150 q150
                              cases e150
                              replace hx150_0 := (HB.out.cell (World.block_lt_of_cell? w _ hx150_0)).trans hx150_0
                              replace p150 := eq_true p150
                              replace q150 := eq_true q150
                              go_wp2_with (first | ((with_reducible refine gate_callee (f := 8) rfl ?_); refine goesL_ (some 36) rfl rfl Tryd.func8 (by kernel_rfl) rfl #[.int .i64 (rd l0 x7_2), .int .i64 4] rfl (by (try simp only [List.map_toArray, List.map_cons, List.map_nil]); first | done | rfl | (simp only [List.length_drop, List.length_take]; rfl)) ?_; (with_reducible refine (pendulumworld_Number.calls (rd l0 x7_2) 4 t151 _ A15.out).mono ?_); rintro e w' ⟨rfl, ⟨nd, rfl⟩⟩; refine ⟨_, rfl, ?_⟩; (try (rw [drewN_self wc]; generalize hq_ : World.drewN wc _ = wc; have n0_ : Aside0 (Kd.N k26 26 wc w.heap.size (fun k_ => k_ ≠ gb149) u150004 x150004_2) := ⟨by rw [← hq_]; exact (by (with_reducible repeat (first | apply Kd.N_alloc | apply Kd.N_drewN | apply Kd.N_drew)); exact HO_150004.out)⟩; have n1_ : Aside0 (wc.heap[gb149]? = some (.cells #[.int .i64 x150000_2, .int .i64 x150001_2, .int .i64 x150002_2, .string x150003_2, u150004] 26 (0, 0))) := ⟨by rw [← hq_]; exact (by (with_reducible repeat (first | refine blk_drewN ?_ _ | refine blk_drew ?_ | refine blk_alloc ?_ _)); exact BK149.out)⟩; have n2_ : Aside0 (Below w.heap.size w wc) := ⟨by rw [← hq_]; exact (by repeat (first | (with_reducible first | exact HB.out | apply below_alloc | apply pw_below_drewN | apply below_drew1 | refine below_set ?_ GE149.out) | exact HB.out))⟩; clear HO_150004 BK149 HB hq_; have HO_150004 := n0_; have BK149 := n1_; have HB := n2_; clear n0_ n1_ n2_)); have hcz31_0 : wc.cell? ⟨gb149, 0, none⟩ = some (.int .i64 x150000_2) := (blk_cell BK149.out 0).trans rfl; have hcz31_1 : wc.cell? ⟨gb149, 1, none⟩ = some (.int .i64 x150001_2) := (blk_cell BK149.out 1).trans rfl; have hcz31_2 : wc.cell? ⟨gb149, 2, none⟩ = some (.int .i64 x150002_2) := (blk_cell BK149.out 2).trans rfl; have hcz31_3 : wc.cell? ⟨gb149, 3, none⟩ = some (.string x150003_2) := (blk_cell BK149.out 3).trans rfl; have hcz31_4 : wc.cell? ⟨gb149, 4, none⟩ = some (u150004) := (blk_cell BK149.out 4).trans rfl; have hfz31_0 := blk_frozen BK149.out 0; have hfz31_1 := blk_frozen BK149.out 1; have hfz31_2 := blk_frozen BK149.out 2; have hfz31_3 := blk_frozen BK149.out 3; have hfz31_4 := blk_frozen BK149.out 4; obtain ⟨Ao32, co32, eo32⟩ := Kd.N_slice HO_150004.out; subst eo32) | ((with_reducible refine gate_dst (N := 55) rfl ?_); refine Kd.N_lit k26 _ 26 ?hg (N' := 55) ?hd (xs := ([(⟨x150000_2, x150001_2, x150002_2, x150003_2, x150004_2⟩ : S26)] : List (S26))) (inner := [.int .i64 x150000_2, .int .i64 x150001_2, .int .i64 x150002_2, .string x150003_2, .slice Ao32 x150004_2.length co32]) (ok := (fun k_ => k_ ≠ gb149)) (okp := (fun k_ => k_ ≠ gb149)) ?hr ?hp (fun _ hk => hk) (by exact Kd.freshB (g := gb149) (o := .cells #[.int .i64 x150000_2, .int .i64 x150001_2, .int .i64 x150002_2, .string x150003_2, .slice Ao32 x150004_2.length co32] 26 (0, 0)) (by (with_reducible repeat (first | refine blk_drewN ?_ _ | refine blk_drew ?_ | refine blk_alloc ?_ _)); exact BK149.out) _ (Nat.le_refl _)) (Below.refl _ _) (Nat.le_refl _) (by simp) ?_; (case hd => rfl); (case hg => rfl); (case hr => first | (go_simp; done) | (go_simp; rfl)); (case hp => exact (Reps.c5 (show Kd.FK k26 _ _ (⟨x150000_2, x150001_2, x150002_2, x150003_2, x150004_2⟩ : S26) [.int .i64 x150000_2, .int .i64 x150001_2, .int .i64 x150002_2, .string x150003_2, .slice Ao32 x150004_2.length co32] from (k26_mkF _ _ (⟨x150000_2, x150001_2, x150002_2, x150003_2, x150004_2⟩ : S26) (Kd.N_reads' (Kd.N_mono (ok' := (fun k_ => k_ ≠ gb149)) (HO_150004.out) (fun k_ hk => hk))).2.1 (Kd.N_F (Kd.N_mono (ok' := (fun k_ => k_ ≠ gb149)) (HO_150004.out) (fun k_ hk => hk))))) (Reps.none _ _))); intro v159 w33 ho34 hb hg_ hnew_; clear hg_ hnew_; (first | rw [← Ny158.out] at ho34 | (simp only [Int.reduceToNat] at ho34; rw [← Ny158.out] at ho34)); have n0_ := Aside0.mk (Kd.N_lower ho34 (below_size (by repeat (first | (with_reducible first | exact HB.out | apply below_alloc | apply pw_below_drewN | apply below_drew1 | refine below_set ?_ GE149.out) | exact HB.out)))); have n1_ := Aside0.mk (blk_below (g := gb149) (o := .cells #[.int .i64 x150000_2, .int .i64 x150001_2, .int .i64 x150002_2, .string x150003_2, .slice Ao32 x150004_2.length co32] 26 (0, 0)) (by (with_reducible repeat (first | refine blk_drewN ?_ _ | refine blk_drew ?_ | refine blk_alloc ?_ _)); exact BK149.out) hb); have n2_ := Aside0.mk (below_step (by repeat (first | (with_reducible first | exact HB.out | apply below_alloc | apply pw_below_drewN | apply below_drew1 | refine below_set ?_ GE149.out) | exact HB.out)) hb); clear BK149; clear HB; clear HO_150004; have HO160 := n0_; have BK149 := n1_; have HB := n2_; clear n0_ n1_ n2_; clear hb ho34; obtain ⟨Ao35, co35, eo35⟩ := Kd.N_slice HO160.out; subst eo35; have hcz36_0 : w33.cell? ⟨gb149, 0, none⟩ = some (.int .i64 x150000_2) := (blk_cell BK149.out 0).trans rfl; have hcz36_1 : w33.cell? ⟨gb149, 1, none⟩ = some (.int .i64 x150001_2) := (blk_cell BK149.out 1).trans rfl; have hcz36_2 : w33.cell? ⟨gb149, 2, none⟩ = some (.int .i64 x150002_2) := (blk_cell BK149.out 2).trans rfl; have hcz36_3 : w33.cell? ⟨gb149, 3, none⟩ = some (.string x150003_2) := (blk_cell BK149.out 3).trans rfl; have hcz36_4 : w33.cell? ⟨gb149, 4, none⟩ = some (.slice Ao32 x150004_2.length co32) := (blk_cell BK149.out 4).trans rfl; have hfz36_0 := blk_frozen BK149.out 0; have hfz36_1 := blk_frozen BK149.out 1; have hfz36_2 := blk_frozen BK149.out 2; have hfz36_3 := blk_frozen BK149.out 3; have hfz36_4 := blk_frozen BK149.out 4))
                              go_roundg kj10
                              case measure => have := HJ3.out; have := HK2.out; have := HJ10.out; omega
                              case rel => exact ⟨(wrap64 (x5_2 + x8_10)), ((24 == 25)), (wrap64 (x7_2 + 1)), (24), (0), (1), ((⟨#[99]⟩ : ByteArray)), (y158), (.slice Ao35 y158.length co35), (by first | rfl | (simp; done) | (simp [*]; done)), (by first | rfl | (simp; done) | (simp [*]; done)), (by first | rfl | (simp; done) | (simp [*]; done)), H', ⟨by have := HJ3.out; have := HK2.out; have := HJ10.out; omega⟩, ⟨by (with_reducible repeat (first | apply Kd.N_alloc | apply Kd.N_drewN | apply Kd.N_drew)); exact Kd.N_mono (Kd.N_far (p := ⟨gb149, 4, none⟩) (Kd.N_far (p := ⟨gb149, 3, none⟩) (Kd.N_far (p := ⟨gb149, 2, none⟩) (Kd.N_far (p := ⟨gb149, 1, none⟩) (Kd.N_far (p := ⟨gb149, 0, none⟩) (Kd.N_mono HO160.out (fun k_ hk => (⟨hk, hk⟩ : _ ∧ k_ ≠ gb149))) (fun _ hk => hk.2) (.int .i64 24)) (fun _ hk => hk.2) (.int .i64 0)) (fun _ hk => hk.2) (.int .i64 1)) (fun _ hk => hk.2) (.string (⟨#[99]⟩ : ByteArray))) (fun _ hk => hk.2) (.slice Ao35 y158.length co35)) (fun _ hk => hk.1)⟩, ⟨by (with_reducible repeat (first | refine blk_drewN ?_ _ | refine blk_drew ?_ | refine blk_alloc ?_ _)); refine blk_put (cs := #[.int .i64 24, .int .i64 0, .int .i64 1, .string (⟨#[99]⟩ : ByteArray), .slice Ao32 x150004_2.length co32]) ?_ 4 _ rfl; (with_reducible repeat (first | refine blk_drewN ?_ _ | refine blk_drew ?_ | refine blk_alloc ?_ _)); refine blk_put (cs := #[.int .i64 24, .int .i64 0, .int .i64 1, .string x150003_2, .slice Ao32 x150004_2.length co32]) ?_ 3 _ rfl; (with_reducible repeat (first | refine blk_drewN ?_ _ | refine blk_drew ?_ | refine blk_alloc ?_ _)); refine blk_put (cs := #[.int .i64 24, .int .i64 0, .int .i64 x150002_2, .string x150003_2, .slice Ao32 x150004_2.length co32]) ?_ 2 _ rfl; (with_reducible repeat (first | refine blk_drewN ?_ _ | refine blk_drew ?_ | refine blk_alloc ?_ _)); refine blk_put (cs := #[.int .i64 24, .int .i64 x150001_2, .int .i64 x150002_2, .string x150003_2, .slice Ao32 x150004_2.length co32]) ?_ 1 _ rfl; (with_reducible repeat (first | refine blk_drewN ?_ _ | refine blk_drew ?_ | refine blk_alloc ?_ _)); refine blk_put (cs := #[.int .i64 x150000_2, .int .i64 x150001_2, .int .i64 x150002_2, .string x150003_2, .slice Ao32 x150004_2.length co32]) ?_ 0 _ rfl; (with_reducible repeat (first | refine blk_drewN ?_ _ | refine blk_drew ?_ | refine blk_alloc ?_ _)); exact BK149.out⟩, ⟨by repeat (first | (with_reducible first | exact HB.out | apply below_alloc | apply pw_below_drewN | apply below_drew1 | refine below_set ?_ GE149.out) | exact HB.out)⟩⟩
                            · rw [if_neg c30] at H
                              have c30b0 : (t151 == 2) = false := beq_eq_false_iff_ne.mpr c30
                              have c30b1 : (t151 != 2) = true := bne_iff_ne.mpr c30
                              obtain ⟨y161, hy161⟩ : ∃ y_ : List (S26), y_ = (([(⟨x150000_2, x150001_2, x150002_2, x150003_2, x150004_2⟩ : S26), (⟨2, 0, 0, (⟨#[]⟩ : ByteArray), ([] : List (S26))⟩ : S26)] : List (S26))) := ⟨_, rfl⟩
                              replace H : (pendulumlaw8_ShowBrackets.l0 kj10 l0 (wrap64 (x5_2 + 1)) (25 == 25) (wrap64 (x7_2 + 1)) 25 0 0 (⟨#[99]⟩ : ByteArray) y161) = some r := by first | (rw [hy161]; with_reducible exact H) | (have H2_ := (Option.bind_some _ _).symm.trans H; rw [hy161]; with_reducible exact H2_) | (have H2_ := (Option.bind_some _ _).symm.trans H; with_reducible exact H2_) | with_reducible exact H | (rw [hy161]; exact H) | exact H
                              have Ny161 := Aside0.mk hy161
                              clear hy161
                              have H' := Aside0.mk H
                              clear H
                              have p150 : 0 ≤ (x7_2 : Int) := of_decide_eq_true (by first | (with_reducible assumption) | assumption)
                              have q150 : x7_2 < (l0.length : Int) := of_decide_eq_true (by first | (with_reducible assumption) | assumption)
                              obtain ⟨ad150, e150, hx150_0⟩ := Kd.at_int HR0.out x7_2 p150 q150
                              cases e150
                              replace hx150_0 := (HB.out.cell (World.block_lt_of_cell? w _ hx150_0)).trans hx150_0
                              replace p150 := eq_true p150
                              replace q150 := eq_true q150
                              go_wp2_with (first | ((with_reducible refine gate_callee (f := 8) rfl ?_); refine goesL_ (some 36) rfl rfl Tryd.func8 (by kernel_rfl) rfl #[.int .i64 (rd l0 x7_2), .int .i64 4] rfl (by (try simp only [List.map_toArray, List.map_cons, List.map_nil]); first | done | rfl | (simp only [List.length_drop, List.length_take]; rfl)) ?_; (with_reducible refine (pendulumworld_Number.calls (rd l0 x7_2) 4 t151 _ A15.out).mono ?_); rintro e w' ⟨rfl, ⟨nd, rfl⟩⟩; refine ⟨_, rfl, ?_⟩; (try (rw [drewN_self wc]; generalize hq_ : World.drewN wc _ = wc; have n0_ : Aside0 (Kd.N k26 26 wc w.heap.size (fun k_ => k_ ≠ gb149) u150004 x150004_2) := ⟨by rw [← hq_]; exact (by (with_reducible repeat (first | apply Kd.N_alloc | apply Kd.N_drewN | apply Kd.N_drew)); exact HO_150004.out)⟩; have n1_ : Aside0 (wc.heap[gb149]? = some (.cells #[.int .i64 x150000_2, .int .i64 x150001_2, .int .i64 x150002_2, .string x150003_2, u150004] 26 (0, 0))) := ⟨by rw [← hq_]; exact (by (with_reducible repeat (first | refine blk_drewN ?_ _ | refine blk_drew ?_ | refine blk_alloc ?_ _)); exact BK149.out)⟩; have n2_ : Aside0 (Below w.heap.size w wc) := ⟨by rw [← hq_]; exact (by repeat (first | (with_reducible first | exact HB.out | apply below_alloc | apply pw_below_drewN | apply below_drew1 | refine below_set ?_ GE149.out) | exact HB.out))⟩; clear HO_150004 BK149 HB hq_; have HO_150004 := n0_; have BK149 := n1_; have HB := n2_; clear n0_ n1_ n2_)); have hcz37_0 : wc.cell? ⟨gb149, 0, none⟩ = some (.int .i64 x150000_2) := (blk_cell BK149.out 0).trans rfl; have hcz37_1 : wc.cell? ⟨gb149, 1, none⟩ = some (.int .i64 x150001_2) := (blk_cell BK149.out 1).trans rfl; have hcz37_2 : wc.cell? ⟨gb149, 2, none⟩ = some (.int .i64 x150002_2) := (blk_cell BK149.out 2).trans rfl; have hcz37_3 : wc.cell? ⟨gb149, 3, none⟩ = some (.string x150003_2) := (blk_cell BK149.out 3).trans rfl; have hcz37_4 : wc.cell? ⟨gb149, 4, none⟩ = some (u150004) := (blk_cell BK149.out 4).trans rfl; have hfz37_0 := blk_frozen BK149.out 0; have hfz37_1 := blk_frozen BK149.out 1; have hfz37_2 := blk_frozen BK149.out 2; have hfz37_3 := blk_frozen BK149.out 3; have hfz37_4 := blk_frozen BK149.out 4; obtain ⟨Ao38, co38, eo38⟩ := Kd.N_slice HO_150004.out; subst eo38) | ((with_reducible refine gate_dst (N := 39) rfl ?_); refine Kd.N_lit k26 _ 26 ?hg (N' := 39) ?hd (xs := ([(⟨x150000_2, x150001_2, x150002_2, x150003_2, x150004_2⟩ : S26), (⟨2, 0, 0, (⟨#[]⟩ : ByteArray), ([] : List (S26))⟩ : S26)] : List (S26))) (inner := [.int .i64 x150000_2, .int .i64 x150001_2, .int .i64 x150002_2, .string x150003_2, .slice Ao38 x150004_2.length co38, .int .i64 2, .int .i64 0, .int .i64 0, .string (⟨#[]⟩ : ByteArray), .slice none 0 0]) (ok := (fun k_ => k_ ≠ gb149)) (okp := (fun k_ => k_ ≠ gb149)) ?hr ?hp (fun _ hk => hk) (by exact Kd.freshB (g := gb149) (o := .cells #[.int .i64 x150000_2, .int .i64 x150001_2, .int .i64 x150002_2, .string x150003_2, .slice Ao38 x150004_2.length co38] 26 (0, 0)) (by (with_reducible repeat (first | refine blk_drewN ?_ _ | refine blk_drew ?_ | refine blk_alloc ?_ _)); exact BK149.out) _ (Nat.le_refl _)) (Below.refl _ _) (Nat.le_refl _) (by simp) ?_; (case hd => rfl); (case hg => rfl); (case hr => first | (go_simp; done) | (go_simp; rfl)); (case hp => exact (Reps.c5 (show Kd.FK k26 _ _ (⟨x150000_2, x150001_2, x150002_2, x150003_2, x150004_2⟩ : S26) [.int .i64 x150000_2, .int .i64 x150001_2, .int .i64 x150002_2, .string x150003_2, .slice Ao38 x150004_2.length co38] from (k26_mkF _ _ (⟨x150000_2, x150001_2, x150002_2, x150003_2, x150004_2⟩ : S26) (Kd.N_reads' (Kd.N_mono (ok' := (fun k_ => k_ ≠ gb149)) (HO_150004.out) (fun k_ hk => hk))).2.1 (Kd.N_F (Kd.N_mono (ok' := (fun k_ => k_ ≠ gb149)) (HO_150004.out) (fun k_ hk => hk))))) (Reps.c5 (show Kd.FK k26 _ _ (⟨2, 0, 0, (⟨#[]⟩ : ByteArray), ([] : List (S26))⟩ : S26) [.int .i64 2, .int .i64 0, .int .i64 0, .string (⟨#[]⟩ : ByteArray), .slice none 0 0] from (k26_mkF _ _ (⟨2, 0, 0, (⟨#[]⟩ : ByteArray), ([] : List (S26))⟩ : S26) (Nat.le_refl _) (Kd.F_nil _ _ _))) (Reps.none _ _)))); intro v162 w39 ho40 hb hg_ hnew_; clear hg_ hnew_; (first | rw [← Ny161.out] at ho40 | (simp only [Int.reduceToNat] at ho40; rw [← Ny161.out] at ho40)); have n0_ := Aside0.mk (Kd.N_lower ho40 (below_size (by repeat (first | (with_reducible first | exact HB.out | apply below_alloc | apply pw_below_drewN | apply below_drew1 | refine below_set ?_ GE149.out) | exact HB.out)))); have n1_ := Aside0.mk (blk_below (g := gb149) (o := .cells #[.int .i64 x150000_2, .int .i64 x150001_2, .int .i64 x150002_2, .string x150003_2, .slice Ao38 x150004_2.length co38] 26 (0, 0)) (by (with_reducible repeat (first | refine blk_drewN ?_ _ | refine blk_drew ?_ | refine blk_alloc ?_ _)); exact BK149.out) hb); have n2_ := Aside0.mk (below_step (by repeat (first | (with_reducible first | exact HB.out | apply below_alloc | apply pw_below_drewN | apply below_drew1 | refine below_set ?_ GE149.out) | exact HB.out)) hb); clear BK149; clear HB; clear HO_150004; have HO163 := n0_; have BK149 := n1_; have HB := n2_; clear n0_ n1_ n2_; clear hb ho40; obtain ⟨Ao41, co41, eo41⟩ := Kd.N_slice HO163.out; subst eo41; have hcz42_0 : w39.cell? ⟨gb149, 0, none⟩ = some (.int .i64 x150000_2) := (blk_cell BK149.out 0).trans rfl; have hcz42_1 : w39.cell? ⟨gb149, 1, none⟩ = some (.int .i64 x150001_2) := (blk_cell BK149.out 1).trans rfl; have hcz42_2 : w39.cell? ⟨gb149, 2, none⟩ = some (.int .i64 x150002_2) := (blk_cell BK149.out 2).trans rfl; have hcz42_3 : w39.cell? ⟨gb149, 3, none⟩ = some (.string x150003_2) := (blk_cell BK149.out 3).trans rfl; have hcz42_4 : w39.cell? ⟨gb149, 4, none⟩ = some (.slice Ao38 x150004_2.length co38) := (blk_cell BK149.out 4).trans rfl; have hfz42_0 := blk_frozen BK149.out 0; have hfz42_1 := blk_frozen BK149.out 1; have hfz42_2 := blk_frozen BK149.out 2; have hfz42_3 := blk_frozen BK149.out 3; have hfz42_4 := blk_frozen BK149.out 4))
                              go_roundg kj10
                              case measure => have := HJ3.out; have := HK2.out; have := HJ10.out; omega
                              case rel => exact ⟨(wrap64 (x5_2 + 1)), ((25 == 25)), (wrap64 (x7_2 + 1)), (25), (0), (0), ((⟨#[99]⟩ : ByteArray)), (y161), (.slice Ao41 y161.length co41), (by first | rfl | (simp; done) | (simp [*]; done)), (by first | rfl | (simp; done) | (simp [*]; done)), (by first | rfl | (simp; done) | (simp [*]; done)), H', ⟨by have := HJ3.out; have := HK2.out; have := HJ10.out; omega⟩, ⟨by (with_reducible repeat (first | apply Kd.N_alloc | apply Kd.N_drewN | apply Kd.N_drew)); exact Kd.N_mono (Kd.N_far (p := ⟨gb149, 4, none⟩) (Kd.N_far (p := ⟨gb149, 3, none⟩) (Kd.N_far (p := ⟨gb149, 2, none⟩) (Kd.N_far (p := ⟨gb149, 1, none⟩) (Kd.N_far (p := ⟨gb149, 0, none⟩) (Kd.N_mono HO163.out (fun k_ hk => (⟨hk, hk⟩ : _ ∧ k_ ≠ gb149))) (fun _ hk => hk.2) (.int .i64 25)) (fun _ hk => hk.2) (.int .i64 0)) (fun _ hk => hk.2) (.int .i64 0)) (fun _ hk => hk.2) (.string (⟨#[99]⟩ : ByteArray))) (fun _ hk => hk.2) (.slice Ao41 y161.length co41)) (fun _ hk => hk.1)⟩, ⟨by (with_reducible repeat (first | refine blk_drewN ?_ _ | refine blk_drew ?_ | refine blk_alloc ?_ _)); refine blk_put (cs := #[.int .i64 25, .int .i64 0, .int .i64 0, .string (⟨#[99]⟩ : ByteArray), .slice Ao38 x150004_2.length co38]) ?_ 4 _ rfl; (with_reducible repeat (first | refine blk_drewN ?_ _ | refine blk_drew ?_ | refine blk_alloc ?_ _)); refine blk_put (cs := #[.int .i64 25, .int .i64 0, .int .i64 0, .string x150003_2, .slice Ao38 x150004_2.length co38]) ?_ 3 _ rfl; (with_reducible repeat (first | refine blk_drewN ?_ _ | refine blk_drew ?_ | refine blk_alloc ?_ _)); refine blk_put (cs := #[.int .i64 25, .int .i64 0, .int .i64 x150002_2, .string x150003_2, .slice Ao38 x150004_2.length co38]) ?_ 2 _ rfl; (with_reducible repeat (first | refine blk_drewN ?_ _ | refine blk_drew ?_ | refine blk_alloc ?_ _)); refine blk_put (cs := #[.int .i64 25, .int .i64 x150001_2, .int .i64 x150002_2, .string x150003_2, .slice Ao38 x150004_2.length co38]) ?_ 1 _ rfl; (with_reducible repeat (first | refine blk_drewN ?_ _ | refine blk_drew ?_ | refine blk_alloc ?_ _)); refine blk_put (cs := #[.int .i64 x150000_2, .int .i64 x150001_2, .int .i64 x150002_2, .string x150003_2, .slice Ao38 x150004_2.length co38]) ?_ 0 _ rfl; (with_reducible repeat (first | refine blk_drewN ?_ _ | refine blk_drew ?_ | refine blk_alloc ?_ _)); exact BK149.out⟩, ⟨by repeat (first | (with_reducible first | exact HB.out | apply below_alloc | apply pw_below_drewN | apply below_drew1 | refine below_set ?_ GE149.out) | exact HB.out)⟩⟩
                      · rw [if_neg c14] at H
                        exact absurd H (by simp)
                    · rw [if_neg c13] at H
                      exact absurd H (by simp)
              · rw [if_neg c10] at H
                have c10b0 : decide (x7_2 < (l0.length : Int)) = false := decide_eq_false c10
                clear c10
                replace H := Option.bind_eq_some_iff.mp H
                obtain ⟨t164, A430, H⟩ := H
                replace H : (pendulumlaw8_ShowBrackets.l1 k2 x5_2 t164 0 0) = some r := H
                have A43 := Aside0.mk A430
                clear A430
                have H' := Aside0.mk H
                clear H
                have hcz44_0 : wr.cell? ⟨gb149, 0, none⟩ = some (.int .i64 x150000_2) := (blk_cell BK149.out 0).trans rfl
                have hcz44_1 : wr.cell? ⟨gb149, 1, none⟩ = some (.int .i64 x150001_2) := (blk_cell BK149.out 1).trans rfl
                have hcz44_2 : wr.cell? ⟨gb149, 2, none⟩ = some (.int .i64 x150002_2) := (blk_cell BK149.out 2).trans rfl
                have hcz44_3 : wr.cell? ⟨gb149, 3, none⟩ = some (.string x150003_2) := (blk_cell BK149.out 3).trans rfl
                have hcz44_4 : wr.cell? ⟨gb149, 4, none⟩ = some (u150004) := (blk_cell BK149.out 4).trans rfl
                have hfz44_0 := blk_frozen BK149.out 0
                have hfz44_1 := blk_frozen BK149.out 1
                have hfz44_2 := blk_frozen BK149.out 2
                have hfz44_3 := blk_frozen BK149.out 3
                have hfz44_4 := blk_frozen BK149.out 4
                obtain ⟨Ao45, co45, eo45⟩ := Kd.N_slice HO_150004.out
                subst eo45
                go_wp2_with (first | ((with_reducible refine gate_callee (f := 9) rfl ?_); refine goesL_ (some 64) rfl rfl Tryd.func9 (by kernel_rfl) rfl #[.agg #[.int .i64 x150000_2, .int .i64 x150001_2, .int .i64 x150002_2, .string x150003_2, .slice Ao45 x150004_2.length co45]] rfl (by (try simp only [List.map_toArray, List.map_cons, List.map_nil]); first | done | rfl | (simp only [List.length_drop, List.length_take]; rfl)) ?_; (with_reducible refine (show_Expr.calls k2 x150000_2 x150001_2 x150002_2 x150003_2 _ _ x150004_2 t164 _ ?side1 ?side2 ?side3 A43.out).mono ?_); (case side1 => repeat (first | exact (Kd.N_reads' HO_150004.out).2.2 | (with_reducible refine Kd.C_alloc ?_ _) | (with_reducible refine Kd.C_drewN ?_ _) | (with_reducible refine Kd.C_drew ?_))); (case side2 => exact (Kd.N_reads' HO_150004.out).2.1); (case side3 => exact GlobW.below HG.out (by repeat (first | (with_reducible first | exact HB.out | apply below_alloc | apply pw_below_drewN | apply below_drew1 | refine below_set ?_ GE149.out) | exact HB.out))); rintro e w46 ⟨rfl, hb⟩; refine ⟨_, rfl, ?_⟩; have n0_ := Aside0.mk (Kd.N_below (by (with_reducible repeat (first | apply Kd.N_alloc | apply Kd.N_drewN | apply Kd.N_drew)); exact HO_150004.out) hb); have n1_ := Aside0.mk (blk_below (g := gb149) (o := .cells #[.int .i64 x150000_2, .int .i64 x150001_2, .int .i64 x150002_2, .string x150003_2, .slice Ao45 x150004_2.length co45] 26 (0, 0)) (by (with_reducible repeat (first | refine blk_drewN ?_ _ | refine blk_drew ?_ | refine blk_alloc ?_ _)); exact BK149.out) hb); have n2_ := Aside0.mk (below_step (by repeat (first | (with_reducible first | exact HB.out | apply below_alloc | apply pw_below_drewN | apply below_drew1 | refine below_set ?_ GE149.out) | exact HB.out)) hb); clear HO_150004; clear BK149; clear HB; have HO_150004 := n0_; have BK149 := n1_; have HB := n2_; clear n0_ n1_ n2_; (try clear hb); (try clear hb2); (try clear hk); (try clear hi)))
                go_loopg [10, 11] k2 (fun kq v10 v11 w' => ∃ (x10_3 : Int) (x11_3 : Int), v10 = .int .i64 x10_3 ∧ v11 = .int .i64 x11_3 ∧ Aside0 (pendulumlaw8_ShowBrackets.l1 kq x5_2 t164 x10_3 x11_3 = some r) ∧ Aside0 (kq ≤ k2) ∧ Aside0 (Kd.N k26 26 w' w.heap.size (fun k_ => k_ ≠ gb149) (.slice Ao45 x150004_2.length co45) x150004_2) ∧ Aside0 (w'.heap[gb149]? = some (.cells #[.int .i64 x150000_2, .int .i64 x150001_2, .int .i64 x150002_2, .string x150003_2, (.slice Ao45 x150004_2.length co45)] 26 (0, 0))) ∧ Aside0 (Below w.heap.size w w'))
                case atStart => exact ⟨(0), (0), (by first | rfl | (simp; done) | (simp [*]; done)), (by first | rfl | (simp; done) | (simp [*]; done)), H', ⟨Nat.le_refl _⟩, ⟨by (with_reducible repeat (first | apply Kd.N_alloc | apply Kd.N_drewN | apply Kd.N_drew)); exact HO_150004.out⟩, ⟨by (with_reducible repeat (first | refine blk_drewN ?_ _ | refine blk_drew ?_ | refine blk_alloc ?_ _)); exact BK149.out⟩, ⟨by repeat (first | (with_reducible first | exact HB.out | apply below_alloc | apply pw_below_drewN | apply below_drew1 | refine below_set ?_ GE149.out) | exact HB.out)⟩⟩
                case round =>
                  clear H'
                  try clear c1
                  try clear p1
                  try clear q1
                  try clear hx1
                  try clear c2
                  try clear p2
                  try clear c3
                  try clear c5
                  try clear c6
                  try clear c6b0
                  try clear c6b1
                  try clear p6
                  try clear c7
                  try clear c8
                  try clear c9
                  try clear c10
                  try clear c10b0
                  try clear c12
                  try clear c13
                  try clear c13b0
                  try clear c14
                  try clear c14b0
                  try clear p15
                  try clear q15
                  try clear hx15
                  try clear c16
                  try clear c16b0
                  try clear c16b1
                  try clear c23
                  try clear c23b0
                  try clear c23b1
                  try clear c30
                  try clear c30b0
                  try clear c30b1
                  try clear hcz17_0
                  try clear hcz17_1
                  try clear hcz17_2
                  try clear hcz17_3
                  try clear hcz17_4
                  try clear hcz22_0
                  try clear hcz22_1
                  try clear hcz22_2
                  try clear hcz22_3
                  try clear hcz22_4
                  try clear hcz24_0
                  try clear hcz24_1
                  try clear hcz24_2
                  try clear hcz24_3
                  try clear hcz24_4
                  try clear hcz29_0
                  try clear hcz29_1
                  try clear hcz29_2
                  try clear hcz29_3
                  try clear hcz29_4
                  try clear hcz31_0
                  try clear hcz31_1
                  try clear hcz31_2
                  try clear hcz31_3
                  try clear hcz31_4
                  try clear hcz36_0
                  try clear hcz36_1
                  try clear hcz36_2
                  try clear hcz36_3
                  try clear hcz36_4
                  try clear hcz37_0
                  try clear hcz37_1
                  try clear hcz37_2
                  try clear hcz37_3
                  try clear hcz37_4
                  try clear hcz42_0
                  try clear hcz42_1
                  try clear hcz42_2
                  try clear hcz42_3
                  try clear hcz42_4
                  try clear hcz44_0
                  try clear hcz44_1
                  try clear hcz44_2
                  try clear hcz44_3
                  try clear hcz44_4
                  try clear hcz9_0
                  try clear hcz9_1
                  try clear hcz9_2
                  try clear hcz9_3
                  try clear hcz9_4
                  try clear hfz17_0
                  try clear hfz17_1
                  try clear hfz17_2
                  try clear hfz17_3
                  try clear hfz17_4
                  try clear hfz22_0
                  try clear hfz22_1
                  try clear hfz22_2
                  try clear hfz22_3
                  try clear hfz22_4
                  try clear hfz24_0
                  try clear hfz24_1
                  try clear hfz24_2
                  try clear hfz24_3
                  try clear hfz24_4
                  try clear hfz29_0
                  try clear hfz29_1
                  try clear hfz29_2
                  try clear hfz29_3
                  try clear hfz29_4
                  try clear hfz31_0
                  try clear hfz31_1
                  try clear hfz31_2
                  try clear hfz31_3
                  try clear hfz31_4
                  try clear hfz36_0
                  try clear hfz36_1
                  try clear hfz36_2
                  try clear hfz36_3
                  try clear hfz36_4
                  try clear hfz37_0
                  try clear hfz37_1
                  try clear hfz37_2
                  try clear hfz37_3
                  try clear hfz37_4
                  try clear hfz42_0
                  try clear hfz42_1
                  try clear hfz42_2
                  try clear hfz42_3
                  try clear hfz42_4
                  try clear hfz44_0
                  try clear hfz44_1
                  try clear hfz44_2
                  try clear hfz44_3
                  try clear hfz44_4
                  try clear hfz9_0
                  try clear hfz9_1
                  try clear hfz9_2
                  try clear hfz9_3
                  try clear hfz9_4
                  try clear hx150_0
                  try clear p150
                  try clear p2
                  try clear q150
                  obtain ⟨x10_3, x11_3, rfl, rfl, HA, HK3, HO_150004, BK149, HB⟩ := hrel
                  cases gk with
                  | zero => exact absurd HA.out (by simp [pendulumlaw8_ShowBrackets.l1])
                  | succ k3 =>
                    have H := HA.out
                    clear HA
                    simp only [pendulumlaw8_ShowBrackets.l1] at H
                    by_cases c47 : x11_3 < (t164.size : Int)
                    · rw [if_pos c47] at H
                      have c47b0 : decide (x11_3 < (t164.size : Int)) = true := decide_eq_true c47
                      clear c47
                      by_cases c48 : 0 ≤ x11_3
                      · rw [if_pos c48] at H
                        have c48b0 : decide (0 ≤ x11_3) = true := decide_eq_true c48
                        clear c48
                        by_cases c50 : (bt t164 x11_3) = 40
                        · rw [if_pos c50] at H
                          have c50b0 : ((bt t164 x11_3) == 40) = true := beq_iff_eq.mpr c50
                          have c50b1 : ((bt t164 x11_3) != 40) = false := bne_eq_false_iff_eq.mpr c50
                          clear c50
                          have H' := Aside0.mk H
                          clear H
                          have p49 : 0 ≤ (x11_3 : Int) := of_decide_eq_true (by first | (with_reducible assumption) | assumption)
                          have q49 : x11_3 < (t164.size : Int) := of_decide_eq_true (by first | (with_reducible assumption) | assumption)
                          have hx49 := bt_at t164 x11_3
                          replace p49 := eq_true p49
                          replace q49 := eq_true q49
                          go_wp2
                          go_roundg k3
                          case measure => have := HJ3.out; have := HK2.out; have := HK3.out; omega
                          case rel => exact ⟨(wrap64 (x10_3 + 1)), (wrap64 (x11_3 + 1)), (by first | rfl | (simp; done) | (simp [*]; done)), (by first | rfl | (simp; done) | (simp [*]; done)), H', ⟨by have := HJ3.out; have := HK2.out; have := HK3.out; omega⟩, ⟨by (with_reducible repeat (first | apply Kd.N_alloc | apply Kd.N_drewN | apply Kd.N_drew)); exact HO_150004.out⟩, ⟨by (with_reducible repeat (first | refine blk_drewN ?_ _ | refine blk_drew ?_ | refine blk_alloc ?_ _)); exact BK149.out⟩, ⟨by repeat (first | (with_reducible first | exact HB.out | apply below_alloc | apply pw_below_drewN | apply below_drew1 | refine below_set ?_ GE149.out) | exact HB.out)⟩⟩
                        · rw [if_neg c50] at H
                          have c50b0 : ((bt t164 x11_3) == 40) = false := beq_eq_false_iff_ne.mpr c50
                          have c50b1 : ((bt t164 x11_3) != 40) = true := bne_iff_ne.mpr c50
                          have H' := Aside0.mk H
                          clear H
                          have p49 : 0 ≤ (x11_3 : Int) := of_decide_eq_true (by first | (with_reducible assumption) | assumption)
                          have q49 : x11_3 < (t164.size : Int) := of_decide_eq_true (by first | (with_reducible assumption) | assumption)
                          have hx49 := bt_at t164 x11_3
                          replace p49 := eq_true p49
                          replace q49 := eq_true q49
                          go_wp2
                          go_roundg k3
                          case measure => have := HJ3.out; have := HK2.out; have := HK3.out; omega
                          case rel => exact ⟨(x10_3), (wrap64 (x11_3 + 1)), (by first | rfl | (simp; done) | (simp [*]; done)), (by first | rfl | (simp; done) | (simp [*]; done)), H', ⟨by have := HJ3.out; have := HK2.out; have := HK3.out; omega⟩, ⟨by (with_reducible repeat (first | apply Kd.N_alloc | apply Kd.N_drewN | apply Kd.N_drew)); exact HO_150004.out⟩, ⟨by (with_reducible repeat (first | refine blk_drewN ?_ _ | refine blk_drew ?_ | refine blk_alloc ?_ _)); exact BK149.out⟩, ⟨by repeat (first | (with_reducible first | exact HB.out | apply below_alloc | apply pw_below_drewN | apply below_drew1 | refine below_set ?_ GE149.out) | exact HB.out)⟩⟩
                      · rw [if_neg c48] at H
                        exact absurd H (by simp)
                    · rw [if_neg c47] at H
                      have c47b0 : decide (x11_3 < (t164.size : Int)) = false := decide_eq_false c47
                      clear c47
                      obtain rfl := Option.some.inj H
                      go_wp2
                      go_ret
                      exact ⟨by first | rfl | (simp [errW_none, errW_some] <;> rfl) | (simp [*, errW_none, errW_some] <;> rfl), by repeat (first | (with_reducible first | exact HB.out | apply below_alloc | apply pw_below_drewN | apply below_drew1 | refine below_set ?_ GE149.out) | exact HB.out)⟩
  · replace c3 := Bool.eq_false_iff.mpr c3
    subst c3
    have H1 : (some false) = some r := by rw [if_neg (show ¬ (false = true) by decide)] at H; exact H
    clear H
    have H := H1
    clear H1
    obtain rfl := Option.some.inj H
    go_enter Tryd.func3, Tryd.ntmps3
    go_wp2_with (first | ((with_reducible refine gate_callee (f := 7) rfl ?_); refine goesL_ (some 12) rfl rfl Tryd.func7 (by kernel_rfl) rfl #[] rfl (by (try simp only [List.map_toArray, List.map_cons, List.map_nil]); first | done | rfl | (simp only [List.length_drop, List.length_take]; rfl)) ?_; (with_reducible refine (pendulumlaw8_first.calls k  false _ ?side1 A2.out).mono ?_); (case side1 => exact GlobW.below HG.out (by repeat (first | (with_reducible first | exact HB.out | apply below_alloc | apply pw_below_drewN | apply below_drew1) | exact HB.out))); rintro e w51 ⟨rfl, hb⟩; refine ⟨_, rfl, ?_⟩; have n0_ := Aside0.mk (below_step (by repeat (first | (with_reducible first | exact HB.out | apply below_alloc | apply pw_below_drewN | apply below_drew1) | exact HB.out)) hb); clear HB; have HB := n0_; clear n0_; (try clear hb); (try clear hb2); (try clear hk); (try clear hi)))
    go_ret
    exact ⟨by first | rfl | (simp [errW_none, errW_some] <;> rfl) | (simp [*, errW_none, errW_some] <;> rfl), by repeat (first | (with_reducible first | exact HB.out | apply below_alloc | apply pw_below_drewN | apply below_drew1) | exact HB.out)⟩

end Go.Proofs.YtgmnklfbmbahcaaDoor.KTShowBrackets

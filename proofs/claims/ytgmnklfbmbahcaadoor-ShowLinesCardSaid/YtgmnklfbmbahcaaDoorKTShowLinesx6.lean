/- By a program of this session (kprint.py) over the printer: functions of the code as plain Lean functions, and the walks that say so. -/
import Derived.Test.YtgmnklfbmbahcaaDoorKTShowLinesx0
import Derived.Test.YtgmnklfbmbahcaaDoorKTShowLinesx3
import Derived.Test.YtgmnklfbmbahcaaDoorKTShowLinesx5
namespace Go.Proofs.YtgmnklfbmbahcaaDoor.KTShowLines
open Go.RowKit Go.Proofs.YtgmnklfbmbahcaaDoorW.PrintWords Go.Proofs.YtgmnklfbmbahcaaDoorW.PrintLast Go.Proofs.YtgmnklfbmbahcaaDoorW.PrintMore
attribute [local go_sem] max2_int min2_int max_two min_two max_three min_three max_four min_four   -- for this text's walks alone
set_option linter.unusedVariables false
set_option linter.unusedSimpArgs false

/-! ### pendulumlaw8_ShowLines: function 6 -/
mutual
def pendulumlaw8_ShowLines.l0 : Nat → Int → Int → Bool → Int → ByteArray → List (S46) → List (S46) → Option (Bool)
  | 0, _, _, _, _, _, _, _ => none
  | k + 1, x0, x1, x5, x7, x184000, x184002, x184003 => if x7 < x0 then ((pendulumworld_Num.f x7).bind fun t184 => (if 1 + t184.size ≤ 9223372036854775807 then (if x184003.length < 2513169434916 then (pendulumlaw8_ShowLines.l0 k x0 x1 x5 (wrap64 (x7 + 1)) x184000 x184002 (x184003 ++ [(⟨0, (⟨#[121]⟩ : ByteArray) ++ t184, 2, ([] : List (S73))⟩ : S46)])) else (none)) else (none))) else (pendulumlaw8_ShowLines.l1 k x0 x1 x5 0 x184000 x184002 x184003 ([] : List (S49)))
def pendulumlaw8_ShowLines.l1 : Nat → Int → Int → Bool → Int → ByteArray → List (S46) → List (S46) → List (S49) → Option (Bool)
  | 0, _, _, _, _, _, _, _, _ => none
  | k + 1, x0, x1, x5, x8, x184000, x184002, x184003, x184004 => if x8 < x1 then (if x184004.length < 925904528653 then (pendulumlaw8_ShowLines.l1 k x0 x1 x5 (wrap64 (x8 + 1)) x184000 x184002 x184003 (x184004 ++ [(⟨0, (([(⟨#[120]⟩ : ByteArray)] : List ByteArray)), (⟨1, 0, x8, (⟨#[]⟩ : ByteArray), ([] : List (S26))⟩ : S26), (⟨#[]⟩ : ByteArray), ([] : List (S26)), (⟨#[]⟩ : ByteArray)⟩ : S49)])) else (none)) else ((show_Node.f k x184000 ([] : List (S46)) x184002 x184003 x184004).bind fun t194 => (pendulumlaw8_ShowLines.l2 k x0 x1 x5 t194 0 0))
def pendulumlaw8_ShowLines.l2 : Nat → Int → Int → Bool → ByteArray → Int → Int → Option (Bool)
  | 0, _, _, _, _, _, _ => none
  | k + 1, x0, x1, x5, x9, x10, x11 => if x11 < (x9.size : Int) then (if 0 ≤ x11 then (if (bt x9 x11) = 10 then (pendulumlaw8_ShowLines.l2 k x0 x1 x5 x9 (wrap64 (x10 + 1)) (wrap64 (x11 + 1))) else (pendulumlaw8_ShowLines.l2 k x0 x1 x5 x9 x10 (wrap64 (x11 + 1)))) else (none)) else (if x0 > 0 then (if x5 = true then (if x10 = (wrap64 ((wrap64 (3 + x1)) + 1)) then (if 0 ≤ 25 then (if 25 ≤ (x9.size : Int) then (some ((x9.extract 0 25).toList == ([110, 111, 100, 101, 32, 102, 40, 41, 32, 114, 101, 116, 117, 114, 110, 115, 32, 40, 120, 58, 32, 105, 110, 116, 41] : List UInt8))) else (none)) else (none)) else (some false)) else (some false)) else (if x5 = true then (if x10 = (wrap64 (3 + x1)) then (if 0 ≤ 25 then (if 25 ≤ (x9.size : Int) then (some ((x9.extract 0 25).toList == ([110, 111, 100, 101, 32, 102, 40, 41, 32, 114, 101, 116, 117, 114, 110, 115, 32, 40, 120, 58, 32, 105, 110, 116, 41] : List UInt8))) else (none)) else (none)) else (some false)) else (some false)))
end
def pendulumlaw8_ShowLines.f (k : Nat) (a0 : Int) (a1 : Int) : Option (Bool) := (pendulumlaw8_first.f k).bind fun t177 => (if t177 = true then ((pendulumworld_Number.f a0 9).bind fun t178 => ((pendulumworld_Number.f a1 9).bind fun t179 => (pendulumlaw8_ShowLines.l0 k t178 (wrap64 (t179 + 1)) t177 0 (⟨#[102]⟩ : ByteArray) (([(⟨0, (⟨#[120]⟩ : ByteArray), 1, ([] : List (S73))⟩ : S46)] : List (S46))) ([] : List (S46))))) else (some false))
def pendulumlaw8_ShowLines.T10 : Bool × List (List Nat × List Nat) := (true, [([], []), ([0], [0]), ([], []), ([2], [2]), ([3], [3]), ([4], [4]), ([5], [5]), ([1, 6, 3], [1, 6]), ([0, 1, 2, 3, 4, 5, 6, 7], []), ([8, 7, 7, 0, 1, 2, 3, 4, 5, 6, 7], [7, 8])])
def pendulumlaw8_ShowLines.B10 : List Nat := [0, 1, 0, 4, 12, 28, 60, 127, 255, 511]
theorem pendulumlaw8_ShowLines.tab10 : rtab .any (opsOf Tryd.f6 10) = pendulumlaw8_ShowLines.T10 := by kernel_rfl
theorem pendulumlaw8_ShowLines.bits10 : waitsOk pendulumlaw8_ShowLines.T10.2 pendulumlaw8_ShowLines.B10 = true := by kernel_rfl
set_option maxHeartbeats 8000000 in
set_option maxRecDepth 100000 in
theorem pendulumlaw8_ShowLines.calls [Sent] (k : Nat) (a0 : Int) (a1 : Int) (r : Bool) (w : World) (hG : GlobW w) (hr_ : r = true) (h : pendulumlaw8_ShowLines.f k a0 a1 = some r) :
    Calls Tryd.prog 6 #[.int .i64 a0, .int .i64 a1] w fun e w' => e = .returned (.bool r) ∧ Below w.heap.size w w' := by
  have hu46 := Tryd.underlying46
  have hu36 := Tryd.underlying36
  have hu26 := Tryd.underlying26
  have hu49 := Tryd.underlying49
  have HB := Aside0.mk (Below.refl w.heap.size w)
  have HR_ := Aside0.mk hr_
  clear hr_
  have HG := Aside0.mk hG
  clear hG
  have H : ((pendulumlaw8_first.f k).bind fun t177 => (if t177 = true then ((pendulumworld_Number.f a0 9).bind fun t178 => ((pendulumworld_Number.f a1 9).bind fun t179 => (pendulumlaw8_ShowLines.l0 k t178 (wrap64 (t179 + 1)) t177 0 (⟨#[102]⟩ : ByteArray) (([(⟨0, (⟨#[120]⟩ : ByteArray), 1, ([] : List (S73))⟩ : S46)] : List (S46))) ([] : List (S46))))) else (some false))) = some r := h
  clear h
  replace H := Option.bind_eq_some_iff.mp H
  obtain ⟨t177, A30, H⟩ := H
  replace H : (if t177 = true then ((pendulumworld_Number.f a0 9).bind fun t178 => ((pendulumworld_Number.f a1 9).bind fun t179 => (pendulumlaw8_ShowLines.l0 k t178 (wrap64 (t179 + 1)) t177 0 (⟨#[102]⟩ : ByteArray) (([(⟨0, (⟨#[120]⟩ : ByteArray), 1, ([] : List (S73))⟩ : S46)] : List (S46))) ([] : List (S46))))) else (some false)) = some r := H
  have A3 := Aside0.mk A30
  clear A30
  by_cases c4 : t177 = true
  · subst c4
    have H1 : ((pendulumworld_Number.f a0 9).bind fun t178 => ((pendulumworld_Number.f a1 9).bind fun t179 => (pendulumlaw8_ShowLines.l0 k t178 (wrap64 (t179 + 1)) true 0 (⟨#[102]⟩ : ByteArray) (([(⟨0, (⟨#[120]⟩ : ByteArray), 1, ([] : List (S73))⟩ : S46)] : List (S46))) ([] : List (S46))))) = some r := by rw [if_pos rfl] at H; exact H
    clear H
    have H := H1
    clear H1
    replace H := Option.bind_eq_some_iff.mp H
    obtain ⟨t178, A50, H⟩ := H
    replace H : ((pendulumworld_Number.f a1 9).bind fun t179 => (pendulumlaw8_ShowLines.l0 k t178 (wrap64 (t179 + 1)) true 0 (⟨#[102]⟩ : ByteArray) (([(⟨0, (⟨#[120]⟩ : ByteArray), 1, ([] : List (S73))⟩ : S46)] : List (S46))) ([] : List (S46)))) = some r := H
    have A5 := Aside0.mk A50
    clear A50
    replace H := Option.bind_eq_some_iff.mp H
    obtain ⟨t179, A60, H⟩ := H
    replace H : (pendulumlaw8_ShowLines.l0 k t178 (wrap64 (t179 + 1)) true 0 (⟨#[102]⟩ : ByteArray) (([(⟨0, (⟨#[120]⟩ : ByteArray), 1, ([] : List (S73))⟩ : S46)] : List (S46))) ([] : List (S46))) = some r := H
    have A6 := Aside0.mk A60
    clear A60
    obtain ⟨y180, hy180⟩ : ∃ y_ : List (S46), y_ = (([(⟨0, (⟨#[120]⟩ : ByteArray), 1, ([] : List (S73))⟩ : S46)] : List (S46))) := ⟨_, rfl⟩
    replace H : (pendulumlaw8_ShowLines.l0 k t178 (wrap64 (t179 + 1)) true 0 (⟨#[102]⟩ : ByteArray) y180 ([] : List (S46))) = some r := by first | (rw [hy180]; with_reducible exact H) | (have H2_ := (Option.bind_some _ _).symm.trans H; rw [hy180]; with_reducible exact H2_) | (have H2_ := (Option.bind_some _ _).symm.trans H; with_reducible exact H2_) | with_reducible exact H | (rw [hy180]; exact H) | exact H
    have Ny180 := Aside0.mk hy180
    clear hy180
    have H' := Aside0.mk H
    clear H
    go_enter Tryd.func6, Tryd.ntmps6
    go_wp2_with (first | ((with_reducible refine gate_callee (f := 7) rfl ?_); refine goesL_ (some 13) rfl rfl Tryd.func7 (by kernel_rfl) rfl #[] rfl (by (try simp only [List.map_toArray, List.map_cons, List.map_nil]); first | done | rfl | (simp only [List.length_drop, List.length_take]; rfl)) ?_; (with_reducible refine (pendulumlaw8_first.calls k  true _ ?side1 A3.out).mono ?_); (case side1 => exact GlobW.below HG.out (by repeat (first | (with_reducible first | exact HB.out | apply below_alloc | apply pw_below_drewN | apply below_drew1) | exact HB.out))); rintro e w7 ⟨rfl, hb⟩; refine ⟨_, rfl, ?_⟩; have n0_ := Aside0.mk (below_step (by repeat (first | (with_reducible first | exact HB.out | apply below_alloc | apply pw_below_drewN | apply below_drew1) | exact HB.out)) hb); clear HB; have HB := n0_; clear n0_; (try clear hb); (try clear hb2); (try clear hk); (try clear hi)) | ((with_reducible refine gate_callee (f := 8) rfl ?_); refine goesL_ (some 17) rfl rfl Tryd.func8 (by kernel_rfl) rfl #[.int .i64 a0, .int .i64 9] rfl (by (try simp only [List.map_toArray, List.map_cons, List.map_nil]); first | done | rfl | (simp only [List.length_drop, List.length_take]; rfl)) ?_; (with_reducible refine (pendulumworld_Number.calls a0 9 t178 _ A5.out).mono ?_); rintro e w' ⟨rfl, ⟨nd, rfl⟩⟩; refine ⟨_, rfl, ?_⟩; (try (rw [drewN_self w7]; generalize hq_ : World.drewN w7 _ = w7; have n0_ : Aside0 (Below w.heap.size w w7) := ⟨by rw [← hq_]; exact (by repeat (first | (with_reducible first | exact HB.out | apply below_alloc | apply pw_below_drewN | apply below_drew1) | exact HB.out))⟩; clear HB hq_; have HB := n0_; clear n0_))) | ((with_reducible refine gate_callee (f := 8) rfl ?_); refine goesL_ (some 19) rfl rfl Tryd.func8 (by kernel_rfl) rfl #[.int .i64 a1, .int .i64 9] rfl (by (try simp only [List.map_toArray, List.map_cons, List.map_nil]); first | done | rfl | (simp only [List.length_drop, List.length_take]; rfl)) ?_; (with_reducible refine (pendulumworld_Number.calls a1 9 t179 _ A6.out).mono ?_); rintro e w' ⟨rfl, ⟨nd, rfl⟩⟩; refine ⟨_, rfl, ?_⟩; (try (rw [drewN_self w7]; generalize hq_ : World.drewN w7 _ = w7; have n0_ : Aside0 (Below w.heap.size w w7) := ⟨by rw [← hq_]; exact (by repeat (first | (with_reducible first | exact HB.out | apply below_alloc | apply pw_below_drewN | apply below_drew1) | exact HB.out))⟩; clear HB hq_; have HB := n0_; clear n0_))) | ((with_reducible refine gate_dst (N := 22) rfl ?_); refine Kd.S_lit k46 _ 46 ?hg (N := 22) ?hd (xs := ([(⟨0, (⟨#[120]⟩ : ByteArray), 1, ([] : List (S73))⟩ : S46)] : List (S46))) (inner := [.int .i64 0, .string (⟨#[120]⟩ : ByteArray), .int .i64 1, .slice none 0 0]) (ok := fun _ => True) (okp := fun _ => True) ?hr ?hp (fun _ hk => hk) trivial (Below.refl _ _) (Nat.le_refl _) (by simp) ?_; (case hd => rfl); (case hg => rfl); (case hr => first | (go_simp; done) | (go_simp; rfl)); (case hp => exact (Reps.c4 (show Kd.M k46 _ _ _ (⟨0, (⟨#[120]⟩ : ByteArray), 1, ([] : List (S73))⟩ : S46) [.int .i64 0, .string (⟨#[120]⟩ : ByteArray), .int .i64 1, .slice none 0 0] from (k46_mkM _ _ _ (⟨0, (⟨#[120]⟩ : ByteArray), 1, ([] : List (S73))⟩ : S46) (Kd.R_nil _ _ _ _ _))) (Reps.none _ _))); intro v181 w8 ho9 hb hg_ hnew_; clear hg_ hnew_; (first | rw [← Ny180.out] at ho9 | (simp only [Int.reduceToNat] at ho9; rw [← Ny180.out] at ho9)); have n0_ := Aside0.mk (Kd.S_lower ho9 (below_size (by repeat (first | (with_reducible first | exact HB.out | apply below_alloc | apply pw_below_drewN | apply below_drew1) | exact HB.out)))); have n1_ := Aside0.mk (below_step (by repeat (first | (with_reducible first | exact HB.out | apply below_alloc | apply pw_below_drewN | apply below_drew1) | exact HB.out)) hb); clear HB; have HO182 := n0_; have HB := n1_; clear n0_ n1_; clear hb ho9; obtain ⟨Ao10, co10, eo10⟩ := Kd.S_slice HO182.out; subst eo10) | ((with_reducible refine gate_dst (N := 6) rfl ?_); refine box_event ?hg (N := 6) ?hd (cs := #[.string (⟨#[]⟩ : ByteArray), .slice none 0 0, .slice none 0 0, .slice none 0 0, .slice none 0 0]) (t := 36) ?hr ?_; (case hd => rfl); (case hg => rfl); (case hr => first | (go_simp; done) | (go_simp; rfl)); intro gb183 hg w11 hbox hb; have n0_ := Aside0.mk (Kd.S_below (by (with_reducible repeat (first | apply Kd.S_alloc | apply Kd.S_drewN | apply Kd.S_drew)); exact HO182.out) hb); have n1_ := Aside0.mk (below_step (by repeat (first | (with_reducible first | exact HB.out | apply below_alloc | apply pw_below_drewN | apply below_drew1) | exact HB.out)) hb); have n2_ := Aside0.mk (hbox); have n3_ := Aside0.mk ((by rw [hg]; exact (below_size (by repeat (first | (with_reducible first | exact HB.out | apply below_alloc | apply pw_below_drewN | apply below_drew1) | exact HB.out))) : w.heap.size ≤ gb183)); have n4_ := Aside0.mk ((by rw [hg]; exact (below_size (by repeat (first | (with_reducible first | exact HB.out | apply below_alloc | apply pw_below_drewN | apply below_drew1) | exact HB.out))) : w.heap.size ≤ gb183)); clear HO182; clear HB; have HO182 := n0_; have HB := n1_; have BK183 := n2_; have GW183 := n3_; have GE183 := n4_; clear n0_ n1_ n2_ n3_ n4_; clear hb hbox hg; have hcz12_0 : w11.cell? ⟨gb183, 0, none⟩ = some (.string (⟨#[]⟩ : ByteArray)) := (blk_cell BK183.out 0).trans rfl; have hcz12_1 : w11.cell? ⟨gb183, 1, none⟩ = some (.slice none 0 0) := (blk_cell BK183.out 1).trans rfl; have hcz12_2 : w11.cell? ⟨gb183, 2, none⟩ = some (.slice none 0 0) := (blk_cell BK183.out 2).trans rfl; have hcz12_3 : w11.cell? ⟨gb183, 3, none⟩ = some (.slice none 0 0) := (blk_cell BK183.out 3).trans rfl; have hcz12_4 : w11.cell? ⟨gb183, 4, none⟩ = some (.slice none 0 0) := (blk_cell BK183.out 4).trans rfl; have hfz12_0 := blk_frozen BK183.out 0; have hfz12_1 := blk_frozen BK183.out 1; have hfz12_2 := blk_frozen BK183.out 2; have hfz12_3 := blk_frozen BK183.out 3; have hfz12_4 := blk_frozen BK183.out 4))
    go_loopg [7] k (fun kq v7 w' => ∃ (x7_1 : Int) (x184003_1 : List (S46)) (u184003 : Value), v7 = .int .i64 x7_1 ∧ Aside0 (pendulumlaw8_ShowLines.l0 kq t178 (wrap64 (t179 + 1)) true x7_1 (⟨#[102]⟩ : ByteArray) y180 x184003_1 = some r) ∧ Aside0 (kq ≤ k) ∧ Aside0 (Kd.S k46 46 w' w.heap.size (fun k_ => some k_ ≠ (u184003 : Value).ownBlock) (.slice Ao10 y180.length co10) y180) ∧ Aside0 (Kd.S k46 46 w' w.heap.size (fun k_ => some k_ ≠ ((.slice Ao10 y180.length co10) : Value).ownBlock) u184003 x184003_1) ∧ Aside0 (w'.heap[gb183]? = some (.cells #[.string (⟨#[102]⟩ : ByteArray), (.slice none 0 0), (.slice Ao10 y180.length co10), u184003, (.slice none 0 0)] 36 (0, 0))) ∧ Aside0 (Below w.heap.size w w'))
    case atStart => exact ⟨(0), (([] : List (S46))), (.slice none 0 0), (by first | rfl | (simp; done) | (simp [*]; done)), H', ⟨Nat.le_refl _⟩, ⟨by (with_reducible repeat (first | apply Kd.S_alloc | apply Kd.S_drewN | apply Kd.S_drew)); exact Kd.S_mono (Kd.S_far (p := ⟨gb183, 4, none⟩) (Kd.S_far (p := ⟨gb183, 3, none⟩) (Kd.S_far (p := ⟨gb183, 2, none⟩) (Kd.S_far (p := ⟨gb183, 1, none⟩) (Kd.S_far (p := ⟨gb183, 0, none⟩) (Kd.S_types HO182.out BK183.out (by decide)) (fun _ hk => hk.2) (.string (⟨#[102]⟩ : ByteArray))) (fun _ hk => hk.2) (.slice none 0 0)) (fun _ hk => hk.2) (.slice Ao10 y180.length co10)) (fun _ hk => hk.2) (.slice none 0 0)) (fun _ hk => hk.2) (.slice none 0 0)) (fun _ hk => (by simp [Value.ownBlock]))⟩, ⟨by first | exact Kd.S_nil _ _ _ _ _ | exact Kd.N_nil _ _ _ _ _ | exact Kd.V_nil _ _ _ _ _ | exact Kd.Q_nil _ _ _ _ _ | exact Kd.R_nil _ _ _ _ _⟩, ⟨by (with_reducible repeat (first | refine blk_drewN ?_ _ | refine blk_drew ?_ | refine blk_alloc ?_ _)); refine blk_put (cs := #[.string (⟨#[102]⟩ : ByteArray), .slice none 0 0, .slice Ao10 y180.length co10, .slice none 0 0, .slice none 0 0]) ?_ 4 _ rfl; (with_reducible repeat (first | refine blk_drewN ?_ _ | refine blk_drew ?_ | refine blk_alloc ?_ _)); refine blk_put (cs := #[.string (⟨#[102]⟩ : ByteArray), .slice none 0 0, .slice Ao10 y180.length co10, .slice none 0 0, .slice none 0 0]) ?_ 3 _ rfl; (with_reducible repeat (first | refine blk_drewN ?_ _ | refine blk_drew ?_ | refine blk_alloc ?_ _)); refine blk_put (cs := #[.string (⟨#[102]⟩ : ByteArray), .slice none 0 0, .slice none 0 0, .slice none 0 0, .slice none 0 0]) ?_ 2 _ rfl; (with_reducible repeat (first | refine blk_drewN ?_ _ | refine blk_drew ?_ | refine blk_alloc ?_ _)); refine blk_put (cs := #[.string (⟨#[102]⟩ : ByteArray), .slice none 0 0, .slice none 0 0, .slice none 0 0, .slice none 0 0]) ?_ 1 _ rfl; (with_reducible repeat (first | refine blk_drewN ?_ _ | refine blk_drew ?_ | refine blk_alloc ?_ _)); refine blk_put (cs := #[.string (⟨#[]⟩ : ByteArray), .slice none 0 0, .slice none 0 0, .slice none 0 0, .slice none 0 0]) ?_ 0 _ rfl; (with_reducible repeat (first | refine blk_drewN ?_ _ | refine blk_drew ?_ | refine blk_alloc ?_ _)); exact BK183.out⟩, ⟨by repeat (first | (with_reducible first | exact HB.out | apply below_alloc | apply pw_below_drewN | apply below_drew1 | refine below_set ?_ GE183.out) | exact HB.out)⟩⟩
    case round =>
      clear H'
      try clear p2
      try clear c4
      try clear c6
      try clear p6
      try clear c7
      try clear c8
      try clear hcz12_0
      try clear hcz12_1
      try clear hcz12_2
      try clear hcz12_3
      try clear hcz12_4
      try clear hfz12_0
      try clear hfz12_1
      try clear hfz12_2
      try clear hfz12_3
      try clear hfz12_4
      obtain ⟨x7_1, x184003_1, u184003, rfl, HA, HK1, HO_184002, HO_184003, BK183, HB⟩ := hrel
      cases gk with
      | zero => exact absurd HA.out (by simp [pendulumlaw8_ShowLines.l0])
      | succ k1 =>
        have H := HA.out
        clear HA
        simp only [pendulumlaw8_ShowLines.l0] at H
        by_cases c13 : x7_1 < t178
        · rw [if_pos c13] at H
          have c13b0 : decide (x7_1 < t178) = true := decide_eq_true c13
          clear c13
          replace H := Option.bind_eq_some_iff.mp H
          obtain ⟨t184, A140, H⟩ := H
          replace H : (if 1 + t184.size ≤ 9223372036854775807 then (if x184003_1.length < 2513169434916 then (pendulumlaw8_ShowLines.l0 k1 t178 (wrap64 (t179 + 1)) true (wrap64 (x7_1 + 1)) (⟨#[102]⟩ : ByteArray) y180 (x184003_1 ++ [(⟨0, (⟨#[121]⟩ : ByteArray) ++ t184, 2, ([] : List (S73))⟩ : S46)])) else (none)) else (none)) = some r := H
          have A14 := Aside0.mk A140
          clear A140
          by_cases c15 : 1 + t184.size ≤ 9223372036854775807
          · rw [if_pos c15] at H
            have c15b0 := eq_true c15
            have c15b1 : decide (1 + t184.size ≤ 9223372036854775807) = true := decide_eq_true c15
            try have c15b2 : (9223372036854775807 < 1 + t184.size) = False := eq_false (Nat.not_lt.2 c15)
            by_cases c16 : x184003_1.length < 2513169434916
            · rw [if_pos c16] at H
              have LMc16 := Aside0.mk c16
              clear c16
              obtain ⟨y185, hy185⟩ : ∃ y_ : List (S46), y_ = (x184003_1 ++ [(⟨0, (⟨#[121]⟩ : ByteArray) ++ t184, 2, ([] : List (S73))⟩ : S46)]) := ⟨_, rfl⟩
              replace H : (pendulumlaw8_ShowLines.l0 k1 t178 (wrap64 (t179 + 1)) true (wrap64 (x7_1 + 1)) (⟨#[102]⟩ : ByteArray) y180 y185) = some r := by first | (rw [hy185]; with_reducible exact H) | (have H2_ := (Option.bind_some _ _).symm.trans H; rw [hy185]; with_reducible exact H2_) | (have H2_ := (Option.bind_some _ _).symm.trans H; with_reducible exact H2_) | with_reducible exact H | (rw [hy185]; exact H) | exact H
              have Ny185 := Aside0.mk hy185
              clear hy185
              have H' := Aside0.mk H
              clear H
              try go_wp2
              have n0_ := Aside0.mk (Kd.S_drew HO_184002.out)
              have n1_ := Aside0.mk (Kd.S_drew HO_184003.out)
              have n2_ := Aside0.mk (blk_drew BK183.out)
              have n3_ := Aside0.mk (below_drew1 HB.out)
              clear HO_184002
              clear HO_184003
              clear BK183
              clear HB
              have HO_184002 := n0_
              have HO_184003 := n1_
              have BK183 := n2_
              have HB := n3_
              clear n0_ n1_ n2_ n3_
              refine start_ (n := 10) (S := fun w' => w'.cell? ⟨gb183, 0, none⟩ = some (.string (⟨#[102]⟩ : ByteArray)) ∧ w'.cell? ⟨gb183, 1, none⟩ = some (.slice none 0 0) ∧ w'.cell? ⟨gb183, 2, none⟩ = some (.slice Ao10 y180.length co10) ∧ w'.cell? ⟨gb183, 3, none⟩ = some (u184003) ∧ w'.cell? ⟨gb183, 4, none⟩ = some (.slice none 0 0)) (ds := [9]) #[false, false, false, false, false, false, false, false, false, false] (by kernel_rfl) rfl rfl ⟨(blk_cell BK183.out 0).trans rfl, (blk_cell BK183.out 1).trans rfl, (blk_cell BK183.out 2).trans rfl, (blk_cell BK183.out 3).trans rfl, (blk_cell BK183.out 4).trans rfl⟩ (fun hHeld => ?_); refine with_tabW pendulumlaw8_ShowLines.tab10 pendulumlaw8_ShowLines.bits10 (fun HT_ HW_ => ?_)
              generalize wr.drew = w17 at HO_184002 HO_184003 BK183 HB hHeld ⊢
              refine pure_ (i := 0) (N := some 29) (v := ?_) (a' := ?_) #[true, false, false, false, false, false, false, false, false, false] rfl rfl (any_of HT_.out (by kernel_rfl)) (fun _ _ _ h => h) (Or.inl ⟨by rfl, ?_⟩) ?_ ?_
              rotate_left
              · intro w'
                go_simp
                with_reducible rfl
              rotate_left
              · simp only [Act.put, List.setIfInBounds_toArray, List.set_cons_zero, List.set_cons_succ, i64_w, i32_w]
                rfl
              refine pure_ (i := 2) (N := some 31) (v := ?_) (a' := ?_) #[true, false, true, false, false, false, false, false, false, false] rfl rfl (any_of HT_.out (by kernel_rfl)) (fun _ _ _ h => h) (Or.inl ⟨by rfl, ?_⟩) ?_ ?_
              rotate_left
              · intro w'
                go_simp
                with_reducible rfl
              rotate_left
              · simp only [Act.put, List.setIfInBounds_toArray, List.set_cons_zero, List.set_cons_succ, i64_w, i32_w]
                rfl
              refine take_ (i := 1) (N := some 30) (v := ?_) (a' := ?_) #[true, true, true, false, false, false, false, false, false, false] rfl rfl (take_ofW HT_.out HW_.out (by kernel_rfl)) (fun _ _ _ h => h) (Or.inl ⟨by rfl, ?_⟩) hHeld ?_ ?_
              rotate_left
              · rintro w' ⟨s0, s1, s2, s3, s4⟩
                go_simp
                with_reducible rfl
              rotate_left
              · simp only [Act.put, List.setIfInBounds_toArray, List.set_cons_zero, List.set_cons_succ, i64_w, i32_w]
                rfl
              refine one_ (i := 3) (N := some 32) #[true, true, true, true, false, false, false, false, false, false] rfl rfl (one_of HT_.out (by kernel_rfl)) (by decide) (fun K hK => ?_)
              refine goes_ Tryd.func22 (by kernel_rfl) rfl #[.int .i64 x7_1] (by rfl) rfl rfl (by (try simp only [List.map_toArray, List.map_cons, List.map_nil]); first | done | rfl | (simp only [List.length_drop, List.length_take]; rfl)) ?_
              with_reducible refine (pendulumworld_Num.calls x7_1 t184 _ ?side1 A14.out).mono ?_
              (case side1 => exact GlobW.below HG.out (by repeat (first | (with_reducible first | exact HB.out | apply below_alloc | apply pw_below_drewN | apply below_drew1 | refine below_set ?_ GE183.out) | exact HB.out)))
              rintro e w18 ⟨rfl, hb⟩
              refine ⟨_, rfl, ?_⟩
              have n0_ := Aside0.mk (Kd.S_below (by (with_reducible repeat (first | apply Kd.S_alloc | apply Kd.S_drewN | apply Kd.S_drew)); exact HO_184002.out) hb)
              have n1_ := Aside0.mk (Kd.S_below (by (with_reducible repeat (first | apply Kd.S_alloc | apply Kd.S_drewN | apply Kd.S_drew)); exact HO_184003.out) hb)
              have n2_ := Aside0.mk (blk_below (g := gb183) (o := .cells #[.string (⟨#[102]⟩ : ByteArray), .slice none 0 0, .slice Ao10 y180.length co10, u184003, .slice none 0 0] 36 (0, 0)) (by (with_reducible repeat (first | refine blk_drewN ?_ _ | refine blk_drew ?_ | refine blk_alloc ?_ _)); exact BK183.out) hb)
              have n3_ := Aside0.mk (below_step (by repeat (first | (with_reducible first | exact HB.out | apply below_alloc | apply pw_below_drewN | apply below_drew1 | refine below_set ?_ GE183.out) | exact HB.out)) hb)
              clear HO_184002
              clear HO_184003
              clear BK183
              clear HB
              have HO_184002 := n0_
              have HO_184003 := n1_
              have BK183 := n2_
              have HB := n3_
              clear n0_ n1_ n2_ n3_
              (try clear hb)
              (try clear hb2)
              (try clear hk)
              (try clear hi)
              refine hK.out _ _ ⟨(blk_cell BK183.out 0).trans rfl, (blk_cell BK183.out 1).trans rfl, (blk_cell BK183.out 2).trans rfl, (blk_cell BK183.out 3).trans rfl, (blk_cell BK183.out 4).trans rfl⟩ (fun hHeld => ?_)
              clear hK K
              refine norm_ (a' := ?_) ?_ ?_
              rotate_left
              · show Act.put _ (some 32) _ = _
                simp only [Act.put, List.setIfInBounds_toArray, List.set_cons_zero, List.set_cons_succ, i64_w, i32_w]
                rfl
              refine pure_ (i := 4) (N := some 33) (v := ?_) (a' := ?_) #[true, true, true, true, true, false, false, false, false, false] rfl rfl (any_of HT_.out (by kernel_rfl)) (fun _ _ _ h => h) (Or.inl ⟨by rfl, ?_⟩) ?_ ?_
              rotate_left
              · intro w'
                go_simp
                with_reducible rfl
              rotate_left
              · simp only [Act.put, List.setIfInBounds_toArray, List.set_cons_zero, List.set_cons_succ, i64_w, i32_w]
                rfl
              refine pure_ (i := 5) (N := some 34) (v := ?_) (a' := ?_) #[true, true, true, true, true, true, false, false, false, false] rfl rfl (any_of HT_.out (by kernel_rfl)) (fun _ _ _ h => h) (Or.inl ⟨by rfl, ?_⟩) ?_ ?_
              rotate_left
              · intro w'
                go_simp
                with_reducible rfl
              rotate_left
              · simp only [Act.put, List.setIfInBounds_toArray, List.set_cons_zero, List.set_cons_succ, i64_w, i32_w]
                rfl
              refine one_ (i := 6) (N := some 35) #[true, true, true, true, true, true, true, false, false, false] rfl rfl (one_of HT_.out (by kernel_rfl)) (by decide) (fun K hK => ?_)
              refine value_ (w1 := ?_) (v := ?_) (by rfl) rfl ?_ ?_
              rotate_left 2
              · go_simp
                constructor
                · rfl
                · rfl
              refine hK.out _ _ ⟨(blk_cell (blk_alloc BK183.out _) 0).trans rfl, (blk_cell (blk_alloc BK183.out _) 1).trans rfl, (blk_cell (blk_alloc BK183.out _) 2).trans rfl, (blk_cell (blk_alloc BK183.out _) 3).trans rfl, (blk_cell (blk_alloc BK183.out _) 4).trans rfl⟩ (fun hHeld => ?_)
              clear hK K
              refine norm_ (a' := ?_) ?_ ?_
              rotate_left
              · show Act.put _ (some 35) _ = _
                simp only [Act.put, List.setIfInBounds_toArray, List.set_cons_zero, List.set_cons_succ, i64_w, i32_w]
                rfl
              refine one_ (i := 7) (N := some 36) #[true, true, true, true, true, true, true, true, false, false] rfl rfl (one_of HT_.out (by kernel_rfl)) (by decide) (fun K hK => ?_)
              refine Kd.S_append_step k46 (w0 := w) w.heap.size (by rfl) (.tmp 30) (.tmp 35) 33 46 (.agg #[(.int .i64 0), (.string ⟨#[]⟩), (.int .i64 0), (.slice none 0 0)]) 56 rfl Tryd.underlying33 info46 rfl (by decide) (by omega) u184003 x184003_1 (⟨0, (⟨#[121]⟩ : ByteArray) ++ t184, 2, ([] : List (S73))⟩ : S46) [.int .i64 0, .string ((⟨#[121]⟩ : ByteArray) ++ t184), .int .i64 2, .slice none 0 0] (fun k_ => some k_ ≠ (.slice Ao10 y180.length co10 : Value).ownBlock) (fun _ => False) rfl rfl ?aP (fun k_ hk_ => hk_.elim) ?aF ?aO ?aB ?aS ?aL ?_
              (case aP => exact k46_mkM _ _ _ (⟨0, (⟨#[121]⟩ : ByteArray) ++ t184, 2, ([] : List (S73))⟩ : S46) (Kd.R_nil _ _ _ _ _))
              (case aB => exact (by repeat (first | (with_reducible first | exact HB.out | apply below_alloc | apply pw_below_drewN | apply below_drew1 | refine below_set ?_ GE183.out) | exact HB.out)))
              (case aF => exact (fun k_ hk => Kd.fresh' (Kd.S_lt (by (with_reducible repeat (first | apply Kd.S_alloc | apply Kd.S_drewN | apply Kd.S_drew)); exact HO_184002.out)) k_ hk))
              (case aO => exact (by (with_reducible repeat (first | apply Kd.S_alloc | apply Kd.S_drewN | apply Kd.S_drew)); exact Kd.S_mono HO_184003.out (fun k_ hk => ⟨hk, fun e_ => e_⟩)))
              (case aS => exact (below_size (by repeat (first | (with_reducible first | exact HB.out | apply below_alloc | apply pw_below_drewN | apply below_drew1 | refine below_set ?_ GE183.out) | exact HB.out))))
              (case aL => have := LMc16.out; omega)
              intro v186 w19 ho hb hg hat
              rw [← Ny185.out] at ho
              have n0_ := Aside0.mk (Kd.S_after (ok := (fun _ => True)) (by (with_reducible repeat (first | apply Kd.S_alloc | apply Kd.S_drewN | apply Kd.S_drew)); exact Kd.S_mono HO_184002.out (fun _ hk => ⟨trivial, hk⟩)) hg hat)
              have n1_ := Aside0.mk (blk_grown (g := gb183) (o := .cells #[.string (⟨#[102]⟩ : ByteArray), .slice none 0 0, .slice Ao10 y180.length co10, u184003, .slice none 0 0] 36 (0, 0)) (by (with_reducible repeat (first | refine blk_drewN ?_ _ | refine blk_drew ?_ | refine blk_alloc ?_ _)); exact BK183.out) hg (Kd.S_ne HO_184003.out BK183.out (by decide)))
              have n2_ := Aside0.mk (hb)
              have n3_ := Aside0.mk (ho)
              clear HO_184002
              clear BK183
              clear HB
              clear HO_184003
              have HO_184002 := n0_
              have BK183 := n1_
              have HB := n2_
              have HO187 := n3_
              clear n0_ n1_ n2_ n3_
              clear ho hb hg hat
              obtain ⟨Ao20, co20, eo20⟩ := Kd.S_slice HO187.out
              (first | subst eo20 | (injection eo20 with f1_ f2_ f3_; have f4_ := f1_.symm; have f5_ := f3_.symm; clear f1_ f2_ f3_; subst f4_; subst f5_))
              refine hK.out _ _ ⟨(blk_cell BK183.out 0).trans rfl, (blk_cell BK183.out 1).trans rfl, (blk_cell BK183.out 2).trans rfl, (blk_cell BK183.out 3).trans rfl, (blk_cell BK183.out 4).trans rfl⟩ (fun hHeld => ?_)
              clear hK K
              refine norm_ (a' := ?_) ?_ ?_
              rotate_left
              · show Act.put _ (some 36) _ = _
                simp only [Act.put, List.setIfInBounds_toArray, List.set_cons_zero, List.set_cons_succ, i64_w, i32_w]
                rfl
              refine pure_ (i := 8) (N := some 37) (v := ?_) (a' := ?_) #[true, true, true, true, true, true, true, true, true, false] rfl rfl (any_of HT_.out (by kernel_rfl)) (fun _ _ _ h => h) (Or.inl ⟨by rfl, ?_⟩) ?_ ?_
              rotate_left
              · intro w'
                go_simp
                with_reducible rfl
              rotate_left
              · simp only [Act.put, List.setIfInBounds_toArray, List.set_cons_zero, List.set_cons_succ, i64_w, i32_w]
                rfl
              refine last_ (i := 9) (N := none) #[true, true, true, true, true, true, true, true, true, true] rfl rfl (one_of HT_.out (by kernel_rfl)) (by decide) (fun K hK => ?_)
              have hs21 : w19.cell? ⟨gb183, 3, none⟩ = some (u184003) := (blk_cell BK183.out 3).trans rfl
              have hfs21 := blk_frozen BK183.out 3
              refine skip_ (w1 := ?_) (by rfl) rfl ?_ ?_
              rotate_left
              · go_simp
                rfl
              refine hK.out _ _ ?_
              clear hK K
              refine done_ (done_of HT_.out (by kernel_rfl)) ?_
              try go_wp2
              go_roundg k1
              case measure => have := HK1.out; omega
              case rel => exact ⟨(wrap64 (x7_1 + 1)), (y185), (.slice Ao20 y185.length co20), (by first | rfl | (simp; done) | (simp [*]; done)), H', ⟨by have := HK1.out; omega⟩, ⟨by (with_reducible repeat (first | apply Kd.S_alloc | apply Kd.S_drewN | apply Kd.S_drew)); exact Kd.S_mono (Kd.S_far (p := ⟨gb183, 3, none⟩) (Kd.S_types HO_184002.out BK183.out (by decide)) (fun _ hk => hk.2) (.slice Ao20 y185.length co20)) (fun _ hk => hk.1.2)⟩, ⟨by (with_reducible repeat (first | apply Kd.S_alloc | apply Kd.S_drewN | apply Kd.S_drew)); exact Kd.S_mono (Kd.S_far (p := ⟨gb183, 3, none⟩) (Kd.S_types HO187.out BK183.out (by decide)) (fun _ hk => hk.2) (.slice Ao20 y185.length co20)) (fun _ hk => hk.1)⟩, ⟨by (with_reducible repeat (first | refine blk_drewN ?_ _ | refine blk_drew ?_ | refine blk_alloc ?_ _)); refine blk_put (cs := #[.string (⟨#[102]⟩ : ByteArray), .slice none 0 0, .slice Ao10 y180.length co10, u184003, .slice none 0 0]) ?_ 3 _ rfl; (with_reducible repeat (first | refine blk_drewN ?_ _ | refine blk_drew ?_ | refine blk_alloc ?_ _)); exact BK183.out⟩, ⟨by repeat (first | (with_reducible first | exact HB.out | apply below_alloc | apply pw_below_drewN | apply below_drew1 | refine below_set ?_ GE183.out) | exact HB.out)⟩⟩
            · rw [if_neg c16] at H
              exact absurd H (by simp)
          · rw [if_neg c15] at H
            exact absurd H (by simp)
        · rw [if_neg c13] at H
          have c13b0 : decide (x7_1 < t178) = false := decide_eq_false c13
          clear c13
          have H' := Aside0.mk H
          clear H
          go_wp2
          go_loopg [8] k1 (fun kq v8 w' => ∃ (x8_2 : Int) (x184004_2 : List (S49)) (u184004 : Value), v8 = .int .i64 x8_2 ∧ Aside0 (pendulumlaw8_ShowLines.l1 kq t178 (wrap64 (t179 + 1)) true x8_2 (⟨#[102]⟩ : ByteArray) y180 x184003_1 x184004_2 = some r) ∧ Aside0 (kq ≤ k1) ∧ Aside0 (Kd.S k46 46 w' w.heap.size (fun k_ => some k_ ≠ (u184003 : Value).ownBlock) (.slice Ao10 y180.length co10) y180) ∧ Aside0 (Kd.S k46 46 w' w.heap.size (fun k_ => some k_ ≠ ((.slice Ao10 y180.length co10) : Value).ownBlock) u184003 x184003_1) ∧ Aside0 (Kd.R k49 49 w' w.heap.size (fun _ => True) u184004 x184004_2) ∧ Aside0 (w'.heap[gb183]? = some (.cells #[.string (⟨#[102]⟩ : ByteArray), (.slice none 0 0), (.slice Ao10 y180.length co10), u184003, u184004] 36 (0, 0))) ∧ Aside0 (Below w.heap.size w w'))
          case atStart => exact ⟨(0), (([] : List (S49))), (.slice none 0 0), (by first | rfl | (simp; done) | (simp [*]; done)), H', ⟨Nat.le_refl _⟩, ⟨by (with_reducible repeat (first | apply Kd.S_alloc | apply Kd.S_drewN | apply Kd.S_drew)); exact HO_184002.out⟩, ⟨by (with_reducible repeat (first | apply Kd.S_alloc | apply Kd.S_drewN | apply Kd.S_drew)); exact HO_184003.out⟩, ⟨by first | exact Kd.R_nil _ _ _ _ _ | exact Kd.N_nil _ _ _ _ _ | exact Kd.V_nil _ _ _ _ _ | exact Kd.Q_nil _ _ _ _ _ | exact Kd.S_nil _ _ _ _ _⟩, ⟨by (with_reducible repeat (first | refine blk_drewN ?_ _ | refine blk_drew ?_ | refine blk_alloc ?_ _)); exact BK183.out⟩, ⟨by repeat (first | (with_reducible first | exact HB.out | apply below_alloc | apply pw_below_drewN | apply below_drew1 | refine below_set ?_ GE183.out) | exact HB.out)⟩⟩
          case round =>
            clear H'
            try clear c1
            try clear c2
            try clear p2
            try clear c4
            try clear c6
            try clear p6
            try clear c7
            try clear c8
            try clear c13
            try clear c13b0
            try clear c15
            try clear c15b0
            try clear c15b1
            try clear c15b2
            try clear c16
            try clear hcz12_0
            try clear hcz12_1
            try clear hcz12_2
            try clear hcz12_3
            try clear hcz12_4
            try clear hfz12_0
            try clear hfz12_1
            try clear hfz12_2
            try clear hfz12_3
            try clear hfz12_4
            try clear p2
            try clear p6
            obtain ⟨x8_2, x184004_2, u184004, rfl, HA, HK2, HO_184002, HO_184003, HO_184004, BK183, HB⟩ := hrel
            cases gk with
            | zero => exact absurd HA.out (by simp [pendulumlaw8_ShowLines.l1])
            | succ k2 =>
              have H := HA.out
              clear HA
              simp only [pendulumlaw8_ShowLines.l1] at H
              by_cases c22 : x8_2 < (wrap64 (t179 + 1))
              · rw [if_pos c22] at H
                have c22b0 : decide (x8_2 < (wrap64 (t179 + 1))) = true := decide_eq_true c22
                clear c22
                obtain ⟨y188, hy188⟩ : ∃ y_ : List ByteArray, y_ = (([(⟨#[120]⟩ : ByteArray)] : List ByteArray)) := ⟨_, rfl⟩
                replace H : (if x184004_2.length < 925904528653 then (pendulumlaw8_ShowLines.l1 k2 t178 (wrap64 (t179 + 1)) true (wrap64 (x8_2 + 1)) (⟨#[102]⟩ : ByteArray) y180 x184003_1 (x184004_2 ++ [(⟨0, y188, (⟨1, 0, x8_2, (⟨#[]⟩ : ByteArray), ([] : List (S26))⟩ : S26), (⟨#[]⟩ : ByteArray), ([] : List (S26)), (⟨#[]⟩ : ByteArray)⟩ : S49)])) else (none)) = some r := by first | (rw [hy188]; with_reducible exact H) | (have H2_ := (Option.bind_some _ _).symm.trans H; rw [hy188]; with_reducible exact H2_) | (have H2_ := (Option.bind_some _ _).symm.trans H; with_reducible exact H2_) | with_reducible exact H | (rw [hy188]; exact H) | exact H
                have Ny188 := Aside0.mk hy188
                clear hy188
                by_cases c23 : x184004_2.length < 925904528653
                · rw [if_pos c23] at H
                  have LMc23 := Aside0.mk c23
                  clear c23
                  obtain ⟨y191, hy191⟩ : ∃ y_ : List (S49), y_ = (x184004_2 ++ [(⟨0, y188, (⟨1, 0, x8_2, (⟨#[]⟩ : ByteArray), ([] : List (S26))⟩ : S26), (⟨#[]⟩ : ByteArray), ([] : List (S26)), (⟨#[]⟩ : ByteArray)⟩ : S49)]) := ⟨_, rfl⟩
                  replace H : (pendulumlaw8_ShowLines.l1 k2 t178 (wrap64 (t179 + 1)) true (wrap64 (x8_2 + 1)) (⟨#[102]⟩ : ByteArray) y180 x184003_1 y191) = some r := by first | (rw [hy191]; with_reducible exact H) | (have H2_ := (Option.bind_some _ _).symm.trans H; rw [hy191]; with_reducible exact H2_) | (have H2_ := (Option.bind_some _ _).symm.trans H; with_reducible exact H2_) | with_reducible exact H | (rw [hy191]; exact H) | exact H
                  have Ny191 := Aside0.mk hy191
                  clear hy191
                  have H' := Aside0.mk H
                  clear H
                  have hcz24_0 : wr.cell? ⟨gb183, 0, none⟩ = some (.string (⟨#[102]⟩ : ByteArray)) := (blk_cell BK183.out 0).trans rfl
                  have hcz24_1 : wr.cell? ⟨gb183, 1, none⟩ = some (.slice none 0 0) := (blk_cell BK183.out 1).trans rfl
                  have hcz24_2 : wr.cell? ⟨gb183, 2, none⟩ = some (.slice Ao10 y180.length co10) := (blk_cell BK183.out 2).trans rfl
                  have hcz24_3 : wr.cell? ⟨gb183, 3, none⟩ = some (u184003) := (blk_cell BK183.out 3).trans rfl
                  have hcz24_4 : wr.cell? ⟨gb183, 4, none⟩ = some (u184004) := (blk_cell BK183.out 4).trans rfl
                  have hfz24_0 := blk_frozen BK183.out 0
                  have hfz24_1 := blk_frozen BK183.out 1
                  have hfz24_2 := blk_frozen BK183.out 2
                  have hfz24_3 := blk_frozen BK183.out 3
                  have hfz24_4 := blk_frozen BK183.out 4
                  go_wp2_with (first | ((with_reducible refine gate_dst (N := 45) rfl ?_); refine Kd.R_lit Kd.string _ 9 ?hg (N := 45) ?hd (xs := ([(⟨#[120]⟩ : ByteArray)] : List ByteArray)) (inner := [.string (⟨#[120]⟩ : ByteArray)]) (ok := fun _ => True) (okp := fun _ => True) ?hr ?hp (fun _ hk => hk) trivial (Below.refl _ _) (Nat.le_refl _) (by simp) ?_; (case hd => rfl); (case hg => rfl); (case hr => first | (go_simp; done) | (go_simp; rfl)); (case hp => exact (Reps.one (show Kd.M Kd.string _ _ _ (⟨#[120]⟩ : ByteArray) [.string (⟨#[120]⟩ : ByteArray)] from rfl) (Reps.none _ _))); intro v189 w25 ho26 hb hg_ hnew_; clear hg_ hnew_; (first | rw [← Ny188.out] at ho26 | (simp only [Int.reduceToNat] at ho26; rw [← Ny188.out] at ho26)); have n0_ := Aside0.mk (Kd.S_below (by (with_reducible repeat (first | apply Kd.S_alloc | apply Kd.S_drewN | apply Kd.S_drew)); exact HO_184002.out) hb); have n1_ := Aside0.mk (Kd.S_below (by (with_reducible repeat (first | apply Kd.S_alloc | apply Kd.S_drewN | apply Kd.S_drew)); exact HO_184003.out) hb); have n2_ := Aside0.mk (Kd.R_elder' (by (with_reducible repeat (first | apply Kd.R_alloc | apply Kd.R_drewN | apply Kd.R_drew)); exact HO_184004.out) (Kd.R_base ho26) hb); have n3_ := Aside0.mk (Kd.R_lower ho26 (below_size (by repeat (first | (with_reducible first | exact HB.out | apply below_alloc | apply pw_below_drewN | apply below_drew1 | refine below_set ?_ GE183.out) | exact HB.out)))); have n4_ := Aside0.mk (blk_below (g := gb183) (o := .cells #[.string (⟨#[102]⟩ : ByteArray), .slice none 0 0, .slice Ao10 y180.length co10, u184003, u184004] 36 (0, 0)) (by (with_reducible repeat (first | refine blk_drewN ?_ _ | refine blk_drew ?_ | refine blk_alloc ?_ _)); exact BK183.out) hb); have n5_ := Aside0.mk (below_step (by repeat (first | (with_reducible first | exact HB.out | apply below_alloc | apply pw_below_drewN | apply below_drew1 | refine below_set ?_ GE183.out) | exact HB.out)) hb); clear HO_184002; clear HO_184003; clear HO_184004; clear BK183; clear HB; have HO_184002 := n0_; have HO_184003 := n1_; have HO_184004 := n2_; have HO190 := n3_; have BK183 := n4_; have HB := n5_; clear n0_ n1_ n2_ n3_ n4_ n5_; clear hb ho26; obtain ⟨Ao27, co27, eo27⟩ := Kd.R_slice HO190.out; subst eo27) | ((with_reducible refine gate_builtin (b := .append) (xs := #[.tmp 44, .tmp 49]) rfl ?_); at_builtin; refine Kd.R_append k49 (w0 := w) w.heap.size rfl (.tmp 44) (.tmp 49) 34 49 (.agg #[(.int .i64 0), (.slice none 0 0), (.int .i64 0), (.int .i64 0), (.int .i64 0), (.string ⟨#[]⟩), (.slice none 0 0), (.string ⟨#[]⟩), (.slice none 0 0), (.string ⟨#[]⟩)]) 152 rfl Tryd.underlying34 info49 rfl (by decide) (by omega) u184004 x184004_2 (⟨0, y188, (⟨1, 0, x8_2, (⟨#[]⟩ : ByteArray), ([] : List (S26))⟩ : S26), (⟨#[]⟩ : ByteArray), ([] : List (S26)), (⟨#[]⟩ : ByteArray)⟩ : S49) [.int .i64 0, .slice Ao27 y188.length co27, .int .i64 1, .int .i64 0, .int .i64 x8_2, .string (⟨#[]⟩ : ByteArray), .slice none 0 0, .string (⟨#[]⟩ : ByteArray), .slice none 0 0, .string (⟨#[]⟩ : ByteArray)] (fun _ => True) (fun k_ => ((fun _ => True)) k_ ∧ some k_ ≠ (u184004 : Value).ownBlock) rfl rfl ?aP (fun _ hk => hk) ?aF ?aO ?aB ?aS ?aL ?_; (case aP => exact k49_mkM _ _ _ (⟨0, y188, (⟨1, 0, x8_2, (⟨#[]⟩ : ByteArray), ([] : List (S26))⟩ : S26), (⟨#[]⟩ : ByteArray), ([] : List (S26)), (⟨#[]⟩ : ByteArray)⟩ : S49) (Kd.R_mono (Kd.R_apart' (HO190.out) (Kd.R_typed HO_184004.out) (by decide)) (fun k_ hk => ⟨trivial, hk.2⟩)) (Kd.R_nil _ _ _ _ _) (Kd.R_nil _ _ _ _ _)); (case aB => exact (by repeat (first | (with_reducible first | exact HB.out | apply below_alloc | apply pw_below_drewN | apply below_drew1 | refine below_set ?_ GE183.out) | exact HB.out))); (case aF => exact (fun _ _ => trivial)); (case aO => exact (by (with_reducible repeat (first | apply Kd.R_alloc | apply Kd.R_drewN | apply Kd.R_drew)); exact Kd.R_mono HO_184004.out (fun _ hk => trivial))); (case aS => exact (below_size (by repeat (first | (with_reducible first | exact HB.out | apply below_alloc | apply pw_below_drewN | apply below_drew1 | refine below_set ?_ GE183.out) | exact HB.out)))); (case aL => have := LMc23.out; omega); intro v192 w28 ho hb hg hat; rw [← Ny191.out] at ho; have n0_ := Aside0.mk (Kd.S_over' (by (with_reducible repeat (first | apply Kd.S_alloc | apply Kd.S_drewN | apply Kd.S_drew)); exact HO_184002.out) (Kd.R_typed (by (with_reducible repeat (first | apply Kd.R_alloc | apply Kd.R_drewN | apply Kd.R_drew)); exact HO_184004.out)) (by decide) hg); have n1_ := Aside0.mk (Kd.S_over' (by (with_reducible repeat (first | apply Kd.S_alloc | apply Kd.S_drewN | apply Kd.S_drew)); exact HO_184003.out) (Kd.R_typed (by (with_reducible repeat (first | apply Kd.R_alloc | apply Kd.R_drewN | apply Kd.R_drew)); exact HO_184004.out)) (by decide) hg); have n2_ := Aside0.mk (blk_grown (g := gb183) (o := .cells #[.string (⟨#[102]⟩ : ByteArray), .slice none 0 0, .slice Ao10 y180.length co10, u184003, u184004] 36 (0, 0)) (by (with_reducible repeat (first | refine blk_drewN ?_ _ | refine blk_drew ?_ | refine blk_alloc ?_ _)); exact BK183.out) hg (Kd.R_ne HO_184004.out BK183.out (by decide))); have n3_ := Aside0.mk (hb); have n4_ := Aside0.mk (ho); clear HO_184002; clear HO_184003; clear BK183; clear HB; clear HO_184004; clear HO190; have HO_184002 := n0_; have HO_184003 := n1_; have BK183 := n2_; have HB := n3_; have HO193 := n4_; clear n0_ n1_ n2_ n3_ n4_; clear ho hb hg hat; obtain ⟨Ao29, co29, eo29⟩ := Kd.R_slice HO193.out; subst eo29; have hcz30_0 : w28.cell? ⟨gb183, 0, none⟩ = some (.string (⟨#[102]⟩ : ByteArray)) := (blk_cell BK183.out 0).trans rfl; have hcz30_1 : w28.cell? ⟨gb183, 1, none⟩ = some (.slice none 0 0) := (blk_cell BK183.out 1).trans rfl; have hcz30_2 : w28.cell? ⟨gb183, 2, none⟩ = some (.slice Ao10 y180.length co10) := (blk_cell BK183.out 2).trans rfl; have hcz30_3 : w28.cell? ⟨gb183, 3, none⟩ = some (u184003) := (blk_cell BK183.out 3).trans rfl; have hcz30_4 : w28.cell? ⟨gb183, 4, none⟩ = some (u184004) := (blk_cell BK183.out 4).trans rfl; have hfz30_0 := blk_frozen BK183.out 0; have hfz30_1 := blk_frozen BK183.out 1; have hfz30_2 := blk_frozen BK183.out 2; have hfz30_3 := blk_frozen BK183.out 3; have hfz30_4 := blk_frozen BK183.out 4))
                  go_roundg k2
                  case measure => have := HK1.out; have := HK2.out; omega
                  case rel => exact ⟨(wrap64 (x8_2 + 1)), (y191), (.slice Ao29 y191.length co29), (by first | rfl | (simp; done) | (simp [*]; done)), H', ⟨by have := HK1.out; have := HK2.out; omega⟩, ⟨by (with_reducible repeat (first | apply Kd.S_alloc | apply Kd.S_drewN | apply Kd.S_drew)); exact Kd.S_mono (Kd.S_far (p := ⟨gb183, 4, none⟩) (Kd.S_types HO_184002.out BK183.out (by decide)) (fun _ hk => hk.2) (.slice Ao29 y191.length co29)) (fun _ hk => hk.1)⟩, ⟨by (with_reducible repeat (first | apply Kd.S_alloc | apply Kd.S_drewN | apply Kd.S_drew)); exact Kd.S_mono (Kd.S_far (p := ⟨gb183, 4, none⟩) (Kd.S_types HO_184003.out BK183.out (by decide)) (fun _ hk => hk.2) (.slice Ao29 y191.length co29)) (fun _ hk => hk.1)⟩, ⟨by (with_reducible repeat (first | apply Kd.R_alloc | apply Kd.R_drewN | apply Kd.R_drew)); exact Kd.R_mono (Kd.R_far (p := ⟨gb183, 4, none⟩) (Kd.R_types HO193.out BK183.out (by decide)) (fun _ hk => hk.2) (.slice Ao29 y191.length co29)) (fun _ hk => trivial)⟩, ⟨by (with_reducible repeat (first | refine blk_drewN ?_ _ | refine blk_drew ?_ | refine blk_alloc ?_ _)); refine blk_put (cs := #[.string (⟨#[102]⟩ : ByteArray), .slice none 0 0, .slice Ao10 y180.length co10, u184003, u184004]) ?_ 4 _ rfl; (with_reducible repeat (first | refine blk_drewN ?_ _ | refine blk_drew ?_ | refine blk_alloc ?_ _)); exact BK183.out⟩, ⟨by repeat (first | (with_reducible first | exact HB.out | apply below_alloc | apply pw_below_drewN | apply below_drew1 | refine below_set ?_ GE183.out) | exact HB.out)⟩⟩
                · rw [if_neg c23] at H
                  exact absurd H (by simp)
              · rw [if_neg c22] at H
                have c22b0 : decide (x8_2 < (wrap64 (t179 + 1))) = false := decide_eq_false c22
                clear c22
                replace H := Option.bind_eq_some_iff.mp H
                obtain ⟨t194, A310, H⟩ := H
                replace H : (pendulumlaw8_ShowLines.l2 k2 t178 (wrap64 (t179 + 1)) true t194 0 0) = some r := H
                have A31 := Aside0.mk A310
                clear A310
                have H' := Aside0.mk H
                clear H
                have hcz32_0 : wr.cell? ⟨gb183, 0, none⟩ = some (.string (⟨#[102]⟩ : ByteArray)) := (blk_cell BK183.out 0).trans rfl
                have hcz32_1 : wr.cell? ⟨gb183, 1, none⟩ = some (.slice none 0 0) := (blk_cell BK183.out 1).trans rfl
                have hcz32_2 : wr.cell? ⟨gb183, 2, none⟩ = some (.slice Ao10 y180.length co10) := (blk_cell BK183.out 2).trans rfl
                have hcz32_3 : wr.cell? ⟨gb183, 3, none⟩ = some (u184003) := (blk_cell BK183.out 3).trans rfl
                have hcz32_4 : wr.cell? ⟨gb183, 4, none⟩ = some (u184004) := (blk_cell BK183.out 4).trans rfl
                have hfz32_0 := blk_frozen BK183.out 0
                have hfz32_1 := blk_frozen BK183.out 1
                have hfz32_2 := blk_frozen BK183.out 2
                have hfz32_3 := blk_frozen BK183.out 3
                have hfz32_4 := blk_frozen BK183.out 4
                obtain ⟨Ao33, co33, eo33⟩ := Kd.S_slice HO_184003.out
                subst eo33
                obtain ⟨Ao34, co34, eo34⟩ := Kd.R_slice HO_184004.out
                subst eo34
                go_wp2_with (first | ((with_reducible refine gate_callee (f := 13) rfl ?_); refine goesL_ (some 53) rfl rfl Tryd.func13 (by kernel_rfl) rfl #[.agg #[.string (⟨#[102]⟩ : ByteArray), .slice none 0 0, .slice Ao10 y180.length co10, .slice Ao33 x184003_1.length co33, .slice Ao34 x184004_2.length co34]] rfl (by (try simp only [List.map_toArray, List.map_cons, List.map_nil]); first | done | rfl | (simp only [List.length_drop, List.length_take]; rfl)) ?_; (refine (show_Node.calls k2 (⟨#[102]⟩ : ByteArray) _ _ ([] : List (S46)) _ _ y180 _ _ x184003_1 _ _ x184004_2 t194 _ ?side1 ?side2 ?side3 ?side4 ?side5 ?side6 ?side7 ?side8 ?side9 A31.out).mono ?_); (case side1 => exact Kd.C_nil _ _); (case side2 => exact Nat.le_refl _); (case side3 => repeat (first | exact (Kd.S_reads' HO_184002.out).2.2 | (with_reducible refine Kd.C_alloc ?_ _) | (with_reducible refine Kd.C_drewN ?_ _) | (with_reducible refine Kd.C_drew ?_))); (case side4 => exact (Kd.S_reads' HO_184002.out).2.1); (case side5 => repeat (first | exact (Kd.S_reads' HO_184003.out).2.2 | (with_reducible refine Kd.C_alloc ?_ _) | (with_reducible refine Kd.C_drewN ?_ _) | (with_reducible refine Kd.C_drew ?_))); (case side6 => exact (Kd.S_reads' HO_184003.out).2.1); (case side7 => repeat (first | exact (Kd.R_reads' HO_184004.out).2.2 | (with_reducible refine Kd.C_alloc ?_ _) | (with_reducible refine Kd.C_drewN ?_ _) | (with_reducible refine Kd.C_drew ?_))); (case side8 => exact (Kd.R_reads' HO_184004.out).2.1); (case side9 => exact GlobW.below HG.out (by repeat (first | (with_reducible first | exact HB.out | apply below_alloc | apply pw_below_drewN | apply below_drew1 | refine below_set ?_ GE183.out) | exact HB.out))); rintro e w35 ⟨rfl, hb⟩; refine ⟨_, rfl, ?_⟩; have n0_ := Aside0.mk (Kd.S_below (by (with_reducible repeat (first | apply Kd.S_alloc | apply Kd.S_drewN | apply Kd.S_drew)); exact HO_184002.out) hb); have n1_ := Aside0.mk (Kd.S_below (by (with_reducible repeat (first | apply Kd.S_alloc | apply Kd.S_drewN | apply Kd.S_drew)); exact HO_184003.out) hb); have n2_ := Aside0.mk (Kd.R_below (by (with_reducible repeat (first | apply Kd.R_alloc | apply Kd.R_drewN | apply Kd.R_drew)); exact HO_184004.out) hb); have n3_ := Aside0.mk (blk_below (g := gb183) (o := .cells #[.string (⟨#[102]⟩ : ByteArray), .slice none 0 0, .slice Ao10 y180.length co10, .slice Ao33 x184003_1.length co33, .slice Ao34 x184004_2.length co34] 36 (0, 0)) (by (with_reducible repeat (first | refine blk_drewN ?_ _ | refine blk_drew ?_ | refine blk_alloc ?_ _)); exact BK183.out) hb); have n4_ := Aside0.mk (below_step (by repeat (first | (with_reducible first | exact HB.out | apply below_alloc | apply pw_below_drewN | apply below_drew1 | refine below_set ?_ GE183.out) | exact HB.out)) hb); clear HO_184002; clear HO_184003; clear HO_184004; clear BK183; clear HB; have HO_184002 := n0_; have HO_184003 := n1_; have HO_184004 := n2_; have BK183 := n3_; have HB := n4_; clear n0_ n1_ n2_ n3_ n4_; (try clear hb); (try clear hb2); (try clear hk); (try clear hi)))
                go_loopg [10, 11] k2 (fun kq v10 v11 w' => ∃ (x10_3 : Int) (x11_3 : Int), v10 = .int .i64 x10_3 ∧ v11 = .int .i64 x11_3 ∧ Aside0 (pendulumlaw8_ShowLines.l2 kq t178 (wrap64 (t179 + 1)) true t194 x10_3 x11_3 = some r) ∧ Aside0 (kq ≤ k2) ∧ Aside0 (Kd.S k46 46 w' w.heap.size (fun k_ => some k_ ≠ ((.slice Ao33 x184003_1.length co33) : Value).ownBlock) (.slice Ao10 y180.length co10) y180) ∧ Aside0 (Kd.S k46 46 w' w.heap.size (fun k_ => some k_ ≠ ((.slice Ao10 y180.length co10) : Value).ownBlock) (.slice Ao33 x184003_1.length co33) x184003_1) ∧ Aside0 (Kd.R k49 49 w' w.heap.size (fun _ => True) (.slice Ao34 x184004_2.length co34) x184004_2) ∧ Aside0 (w'.heap[gb183]? = some (.cells #[.string (⟨#[102]⟩ : ByteArray), (.slice none 0 0), (.slice Ao10 y180.length co10), (.slice Ao33 x184003_1.length co33), (.slice Ao34 x184004_2.length co34)] 36 (0, 0))) ∧ Aside0 (Below w.heap.size w w'))
                case atStart => exact ⟨(0), (0), (by first | rfl | (simp; done) | (simp [*]; done)), (by first | rfl | (simp; done) | (simp [*]; done)), H', ⟨Nat.le_refl _⟩, ⟨by (with_reducible repeat (first | apply Kd.S_alloc | apply Kd.S_drewN | apply Kd.S_drew)); exact HO_184002.out⟩, ⟨by (with_reducible repeat (first | apply Kd.S_alloc | apply Kd.S_drewN | apply Kd.S_drew)); exact HO_184003.out⟩, ⟨by (with_reducible repeat (first | apply Kd.R_alloc | apply Kd.R_drewN | apply Kd.R_drew)); exact HO_184004.out⟩, ⟨by (with_reducible repeat (first | refine blk_drewN ?_ _ | refine blk_drew ?_ | refine blk_alloc ?_ _)); exact BK183.out⟩, ⟨by repeat (first | (with_reducible first | exact HB.out | apply below_alloc | apply pw_below_drewN | apply below_drew1 | refine below_set ?_ GE183.out) | exact HB.out)⟩⟩
                case round =>
                  clear H'
                  try clear c1
                  try clear c2
                  try clear p2
                  try clear c4
                  try clear c6
                  try clear p6
                  try clear c7
                  try clear c8
                  try clear c13
                  try clear c13b0
                  try clear c15
                  try clear c15b0
                  try clear c15b1
                  try clear c15b2
                  try clear c16
                  try clear c22
                  try clear c22b0
                  try clear c23
                  try clear hcz12_0
                  try clear hcz12_1
                  try clear hcz12_2
                  try clear hcz12_3
                  try clear hcz12_4
                  try clear hcz24_0
                  try clear hcz24_1
                  try clear hcz24_2
                  try clear hcz24_3
                  try clear hcz24_4
                  try clear hcz30_0
                  try clear hcz30_1
                  try clear hcz30_2
                  try clear hcz30_3
                  try clear hcz30_4
                  try clear hcz32_0
                  try clear hcz32_1
                  try clear hcz32_2
                  try clear hcz32_3
                  try clear hcz32_4
                  try clear hfz12_0
                  try clear hfz12_1
                  try clear hfz12_2
                  try clear hfz12_3
                  try clear hfz12_4
                  try clear hfz24_0
                  try clear hfz24_1
                  try clear hfz24_2
                  try clear hfz24_3
                  try clear hfz24_4
                  try clear hfz30_0
                  try clear hfz30_1
                  try clear hfz30_2
                  try clear hfz30_3
                  try clear hfz30_4
                  try clear hfz32_0
                  try clear hfz32_1
                  try clear hfz32_2
                  try clear hfz32_3
                  try clear hfz32_4
                  try clear p2
                  try clear p6
                  obtain ⟨x10_3, x11_3, rfl, rfl, HA, HK3, HO_184002, HO_184003, HO_184004, BK183, HB⟩ := hrel
                  cases gk with
                  | zero => exact absurd HA.out (by simp [pendulumlaw8_ShowLines.l2])
                  | succ k3 =>
                    have H := HA.out
                    clear HA
                    simp only [pendulumlaw8_ShowLines.l2] at H
                    by_cases c36 : x11_3 < (t194.size : Int)
                    · rw [if_pos c36] at H
                      have c36b0 : decide (x11_3 < (t194.size : Int)) = true := decide_eq_true c36
                      clear c36
                      by_cases c37 : 0 ≤ x11_3
                      · rw [if_pos c37] at H
                        have c37b0 : decide (0 ≤ x11_3) = true := decide_eq_true c37
                        clear c37
                        by_cases c39 : (bt t194 x11_3) = 10
                        · rw [if_pos c39] at H
                          have c39b0 : ((bt t194 x11_3) == 10) = true := beq_iff_eq.mpr c39
                          have c39b1 : ((bt t194 x11_3) != 10) = false := bne_eq_false_iff_eq.mpr c39
                          clear c39
                          have H' := Aside0.mk H
                          clear H
                          have p38 : 0 ≤ (x11_3 : Int) := of_decide_eq_true (by first | (with_reducible assumption) | assumption)
                          have q38 : x11_3 < (t194.size : Int) := of_decide_eq_true (by first | (with_reducible assumption) | assumption)
                          have hx38 := bt_at t194 x11_3
                          replace p38 := eq_true p38
                          replace q38 := eq_true q38
                          go_wp2
                          go_roundg k3
                          case measure => have := HK1.out; have := HK2.out; have := HK3.out; omega
                          case rel => exact ⟨(wrap64 (x10_3 + 1)), (wrap64 (x11_3 + 1)), (by first | rfl | (simp; done) | (simp [*]; done)), (by first | rfl | (simp; done) | (simp [*]; done)), H', ⟨by have := HK1.out; have := HK2.out; have := HK3.out; omega⟩, ⟨by (with_reducible repeat (first | apply Kd.S_alloc | apply Kd.S_drewN | apply Kd.S_drew)); exact HO_184002.out⟩, ⟨by (with_reducible repeat (first | apply Kd.S_alloc | apply Kd.S_drewN | apply Kd.S_drew)); exact HO_184003.out⟩, ⟨by (with_reducible repeat (first | apply Kd.R_alloc | apply Kd.R_drewN | apply Kd.R_drew)); exact HO_184004.out⟩, ⟨by (with_reducible repeat (first | refine blk_drewN ?_ _ | refine blk_drew ?_ | refine blk_alloc ?_ _)); exact BK183.out⟩, ⟨by repeat (first | (with_reducible first | exact HB.out | apply below_alloc | apply pw_below_drewN | apply below_drew1 | refine below_set ?_ GE183.out) | exact HB.out)⟩⟩
                        · rw [if_neg c39] at H
                          have c39b0 : ((bt t194 x11_3) == 10) = false := beq_eq_false_iff_ne.mpr c39
                          have c39b1 : ((bt t194 x11_3) != 10) = true := bne_iff_ne.mpr c39
                          have H' := Aside0.mk H
                          clear H
                          have p38 : 0 ≤ (x11_3 : Int) := of_decide_eq_true (by first | (with_reducible assumption) | assumption)
                          have q38 : x11_3 < (t194.size : Int) := of_decide_eq_true (by first | (with_reducible assumption) | assumption)
                          have hx38 := bt_at t194 x11_3
                          replace p38 := eq_true p38
                          replace q38 := eq_true q38
                          go_wp2
                          go_roundg k3
                          case measure => have := HK1.out; have := HK2.out; have := HK3.out; omega
                          case rel => exact ⟨(x10_3), (wrap64 (x11_3 + 1)), (by first | rfl | (simp; done) | (simp [*]; done)), (by first | rfl | (simp; done) | (simp [*]; done)), H', ⟨by have := HK1.out; have := HK2.out; have := HK3.out; omega⟩, ⟨by (with_reducible repeat (first | apply Kd.S_alloc | apply Kd.S_drewN | apply Kd.S_drew)); exact HO_184002.out⟩, ⟨by (with_reducible repeat (first | apply Kd.S_alloc | apply Kd.S_drewN | apply Kd.S_drew)); exact HO_184003.out⟩, ⟨by (with_reducible repeat (first | apply Kd.R_alloc | apply Kd.R_drewN | apply Kd.R_drew)); exact HO_184004.out⟩, ⟨by (with_reducible repeat (first | refine blk_drewN ?_ _ | refine blk_drew ?_ | refine blk_alloc ?_ _)); exact BK183.out⟩, ⟨by repeat (first | (with_reducible first | exact HB.out | apply below_alloc | apply pw_below_drewN | apply below_drew1 | refine below_set ?_ GE183.out) | exact HB.out)⟩⟩
                      · rw [if_neg c37] at H
                        exact absurd H (by simp)
                    · rw [if_neg c36] at H
                      have c36b0 : decide (x11_3 < (t194.size : Int)) = false := decide_eq_false c36
                      clear c36
                      by_cases c40 : t178 > 0
                      · rw [if_pos c40] at H
                        have c40b0 : decide (0 < t178) = true := decide_eq_true c40
                        clear c40
                        replace H : (if x10_3 = (wrap64 ((wrap64 (3 + (wrap64 (t179 + 1)))) + 1)) then (if 0 ≤ 25 then (if 25 ≤ (t194.size : Int) then (some ((t194.extract 0 25).toList == ([110, 111, 100, 101, 32, 102, 40, 41, 32, 114, 101, 116, 117, 114, 110, 115, 32, 40, 120, 58, 32, 105, 110, 116, 41] : List UInt8))) else (none)) else (none)) else (some false)) = some r := by first | (rw [if_pos rfl] at H; exact H) | (simp only [if_true, if_false] at H; exact H)
                        by_cases c41 : x10_3 = (wrap64 ((wrap64 (3 + (wrap64 (t179 + 1)))) + 1))
                        · rw [if_pos c41] at H
                          have c41b0 : (x10_3 == (wrap64 ((wrap64 (3 + (wrap64 (t179 + 1)))) + 1))) = true := beq_iff_eq.mpr c41
                          have c41b1 : (x10_3 != (wrap64 ((wrap64 (3 + (wrap64 (t179 + 1)))) + 1))) = false := bne_eq_false_iff_eq.mpr c41
                          clear c41
                          by_cases c42 : 0 ≤ 25
                          · rw [if_pos c42] at H
                            have c42b0 := eq_true c42
                            have c42b1 : decide (0 ≤ 25) = true := decide_eq_true c42
                            clear c42
                            by_cases c43 : 25 ≤ (t194.size : Int)
                            · rw [if_pos c43] at H
                              have c43b0 := eq_true c43
                              have c43b1 : decide (25 ≤ (t194.size : Int)) = true := decide_eq_true c43
                              clear c43
                              obtain rfl := Option.some.inj H
                              simp only [Option.some.injEq, Prod.mk.injEq] at H
                              obtain ⟨rfl⟩ := H
                              go_wp2
                              go_ret
                              exact ⟨by first | rfl | (simp [errW_none, errW_some] <;> rfl) | (simp [*, errW_none, errW_some] <;> rfl), by repeat (first | (with_reducible first | exact HB.out | apply below_alloc | apply pw_below_drewN | apply below_drew1 | refine below_set ?_ GE183.out) | exact HB.out)⟩
                            · rw [if_neg c43] at H
                              exact absurd H (by simp)
                          · rw [if_neg c42] at H
                            exact absurd H (by simp)
                        · rw [if_neg c41] at H
                          have c41b0 : (x10_3 == (wrap64 ((wrap64 (3 + (wrap64 (t179 + 1)))) + 1))) = false := beq_eq_false_iff_ne.mpr c41
                          have c41b1 : (x10_3 != (wrap64 ((wrap64 (3 + (wrap64 (t179 + 1)))) + 1))) = true := bne_iff_ne.mpr c41
                          obtain rfl := Option.some.inj H
                          exact absurd HR_.out (by decide)
                      · rw [if_neg c40] at H
                        have c40b0 : decide (0 < t178) = false := decide_eq_false c40
                        clear c40
                        replace H : (if x10_3 = (wrap64 (3 + (wrap64 (t179 + 1)))) then (if 0 ≤ 25 then (if 25 ≤ (t194.size : Int) then (some ((t194.extract 0 25).toList == ([110, 111, 100, 101, 32, 102, 40, 41, 32, 114, 101, 116, 117, 114, 110, 115, 32, 40, 120, 58, 32, 105, 110, 116, 41] : List UInt8))) else (none)) else (none)) else (some false)) = some r := by first | (rw [if_pos rfl] at H; exact H) | (simp only [if_true, if_false] at H; exact H)
                        by_cases c44 : x10_3 = (wrap64 (3 + (wrap64 (t179 + 1))))
                        · rw [if_pos c44] at H
                          have c44b0 : (x10_3 == (wrap64 (3 + (wrap64 (t179 + 1))))) = true := beq_iff_eq.mpr c44
                          have c44b1 : (x10_3 != (wrap64 (3 + (wrap64 (t179 + 1))))) = false := bne_eq_false_iff_eq.mpr c44
                          clear c44
                          by_cases c45 : 0 ≤ 25
                          · rw [if_pos c45] at H
                            have c45b0 := eq_true c45
                            have c45b1 : decide (0 ≤ 25) = true := decide_eq_true c45
                            clear c45
                            by_cases c46 : 25 ≤ (t194.size : Int)
                            · rw [if_pos c46] at H
                              have c46b0 := eq_true c46
                              have c46b1 : decide (25 ≤ (t194.size : Int)) = true := decide_eq_true c46
                              clear c46
                              obtain rfl := Option.some.inj H
                              simp only [Option.some.injEq, Prod.mk.injEq] at H
                              obtain ⟨rfl⟩ := H
                              go_wp2
                              go_ret
                              exact ⟨by first | rfl | (simp [errW_none, errW_some] <;> rfl) | (simp [*, errW_none, errW_some] <;> rfl), by repeat (first | (with_reducible first | exact HB.out | apply below_alloc | apply pw_below_drewN | apply below_drew1 | refine below_set ?_ GE183.out) | exact HB.out)⟩
                            · rw [if_neg c46] at H
                              exact absurd H (by simp)
                          · rw [if_neg c45] at H
                            exact absurd H (by simp)
                        · rw [if_neg c44] at H
                          have c44b0 : (x10_3 == (wrap64 (3 + (wrap64 (t179 + 1))))) = false := beq_eq_false_iff_ne.mpr c44
                          have c44b1 : (x10_3 != (wrap64 (3 + (wrap64 (t179 + 1))))) = true := bne_iff_ne.mpr c44
                          obtain rfl := Option.some.inj H
                          exact absurd HR_.out (by decide)
  · replace c4 := Bool.eq_false_iff.mpr c4
    subst c4
    have H1 : (some false) = some r := by rw [if_neg (show ¬ (false = true) by decide)] at H; exact H
    clear H
    have H := H1
    clear H1
    obtain rfl := Option.some.inj H
    exact absurd HR_.out (by decide)

end Go.Proofs.YtgmnklfbmbahcaaDoor.KTShowLines

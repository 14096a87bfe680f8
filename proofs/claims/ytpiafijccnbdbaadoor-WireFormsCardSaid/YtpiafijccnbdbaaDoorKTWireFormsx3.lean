/- By a program of this session (kprint.py) over the printer: functions of the code as plain Lean functions, and the walks that say so. -/
import Derived.Test.YtpiafijccnbdbaaDoorKTWireFormsx0
import Derived.Test.YtpiafijccnbdbaaDoorKTWireFormsx1
import Derived.Test.YtpiafijccnbdbaaDoorKTWireFormsx2
namespace Go.Proofs.YtpiafijccnbdbaaDoor.KTWireForms
open Go.RowKit Go.Proofs.YtpiafijccnbdbaaDoorW.PrintWords Go.Proofs.YtpiafijccnbdbaaDoorW.PrintLast Go.Proofs.YtpiafijccnbdbaaDoorW.PrintMore
attribute [local go_sem] max2_int min2_int max_two min_two max_three min_three max_four min_four   -- for this text's walks alone
set_option linter.unusedVariables false
set_option linter.unusedSimpArgs false

/-! ### pendulumlaw1_WireForms: function 3 -/
mutual
def pendulumlaw1_WireForms.j0 : Nat → Int → Int → Bool → List Int → List Int → Bool → Option (Bool)
  | 0, _, _, _, _, _, _ => none
  | k + 1, x0, x1, x5, x6, x7, x29 => if x29 = true then (some false) else (if x0 = x1 then (pendulumlaw1_WireForms.j1 k x5 x6 false) else (if (x6.length : Int) ≤ (x7.length : Int) then (if 0 ≤ (x6.length : Int) then ((pendulumref_SameBytes.f k x6 (x7.take ((x6.length : Int) : Int).toNat)).bind fun t157 => (pendulumlaw1_WireForms.j1 k x5 x6 t157)) else (none)) else (pendulumlaw1_WireForms.j1 k x5 x6 false)))
def pendulumlaw1_WireForms.j1 : Nat → Bool → List Int → Bool → Option (Bool)
  | 0, _, _, _ => none
  | k + 1, x5, x6, x47 => if x47 = true then (some false) else ((pendulumref_Bytes.f k x6).bind fun t158 => (if 0 ≤ (wrap64 ((t158.length : Int) - 1)) then (if (wrap64 ((t158.length : Int) - 1)) < (t158.length : Int) then ((some (t158.set ((wrap64 ((t158.length : Int) - 1)) : Int).toNat (Go.bits .or .u8 (rd t158 (wrap64 ((t158.length : Int) - 1))) 128) : List Int)).bind fun y162 => (if y162.length < 140737488355328 then ((wire_NewReader.f (y162 ++ [0])).bind fun bt166 => ((wire_Num.f bt166.1 bt166.2.1 bt166.2.2 (-9223372036854775808) 9223372036854775807).bind fun bt170 => (if x5 = true then ((wire_Err.f bt166.1 bt170.2.1 bt170.2.2).bind fun bt173 => ((pendulumref_Placed.f 102 0).bind fun bt178 => ((pendulumsee_Same.f bt173.1 bt178.1 bt178.2.1 bt178.2.2.1 bt178.2.2.2.1 bt178.2.2.2.2).bind fun t183 => (if t183 = true then ((wire_At.f bt166.1 bt173.2.1 bt173.2.2).bind fun bt184 => (some (bt184.1 == 0))) else (some false))))) else (some false)))) else (none))) else (none)) else (none)))
end
def pendulumlaw1_WireForms.f (k : Nat) (a0 : Int) (a1 : Int) : Option (Bool) := (pendulumlaw1_first.f k).bind fun t146 => (if t146 = true then ((wire_Put.f k ([] : List Int) a0).bind fun t147 => ((wire_Put.f k ([] : List Int) a1).bind fun t150 => (if (t147.length : Int) = 0 then (pendulumlaw1_WireForms.j0 k a0 a1 t146 t147 t150 true) else (if (t147.length : Int) > 10 then (pendulumlaw1_WireForms.j0 k a0 a1 t146 t147 t150 true) else (pendulumlaw1_WireForms.j0 k a0 a1 t146 t147 t150 ((t150.length : Int) == 0)))))) else (some false))
theorem pendulumlaw1_WireForms.mono_l : ∀ k, (∀ y0 y1 y2 y3 y4 y5, LeO (pendulumlaw1_WireForms.j0 k y0 y1 y2 y3 y4 y5) (pendulumlaw1_WireForms.j0 (k + 1) y0 y1 y2 y3 y4 y5)) ∧ (∀ y0 y1 y2, LeO (pendulumlaw1_WireForms.j1 k y0 y1 y2) (pendulumlaw1_WireForms.j1 (k + 1) y0 y1 y2))
  | 0 => ⟨fun _ _ _ _ _ _ r h => by simp [pendulumlaw1_WireForms.j0] at h, fun _ _ _ r h => by simp [pendulumlaw1_WireForms.j1] at h⟩
  | k + 1 => by
    obtain ⟨ih0, ih1⟩ := pendulumlaw1_WireForms.mono_l k
    refine ⟨?_, ?_⟩
    · intro y0 y1 y2 y3 y4 y5
      unfold pendulumlaw1_WireForms.j0
      repeat' first
      | (with_reducible exact ih0 _ _ _ _ _ _)
      | (with_reducible exact ih1 _ _ _)
      | (with_reducible exact pendulumlaw1_first.mono _)
      | (with_reducible exact pendulumref_Bytes.mono _ _)
      | (with_reducible exact pendulumref_SameBytes.mono _ _ _)
      | (with_reducible exact wire_Put.mono _ _ _)
      | (with_reducible exact LeO.refl _)
      | (with_reducible exact LeO.none _)
      | (with_reducible refine LeO.ite ?_ ?_)
      | (with_reducible refine LeO.bind ?_ (fun _ => ?_))
      | exact ih0 _ _ _ _ _ _
      | exact ih1 _ _ _
      | exact pendulumlaw1_first.mono _
      | exact pendulumref_Bytes.mono _ _
      | exact pendulumref_SameBytes.mono _ _ _
      | exact wire_Put.mono _ _ _
      | exact LeO.none _
      | refine LeO.ite ?_ ?_
      | refine LeO.bind ?_ (fun _ => ?_)
    · intro y0 y1 y2
      unfold pendulumlaw1_WireForms.j1
      repeat' first
      | (with_reducible exact ih0 _ _ _ _ _ _)
      | (with_reducible exact ih1 _ _ _)
      | (with_reducible exact pendulumlaw1_first.mono _)
      | (with_reducible exact pendulumref_Bytes.mono _ _)
      | (with_reducible exact pendulumref_SameBytes.mono _ _ _)
      | (with_reducible exact wire_Put.mono _ _ _)
      | (with_reducible exact LeO.refl _)
      | (with_reducible exact LeO.none _)
      | (with_reducible refine LeO.ite ?_ ?_)
      | (with_reducible refine LeO.bind ?_ (fun _ => ?_))
      | exact ih0 _ _ _ _ _ _
      | exact ih1 _ _ _
      | exact pendulumlaw1_first.mono _
      | exact pendulumref_Bytes.mono _ _
      | exact pendulumref_SameBytes.mono _ _ _
      | exact wire_Put.mono _ _ _
      | exact LeO.none _
      | refine LeO.ite ?_ ?_
      | refine LeO.bind ?_ (fun _ => ?_)
theorem pendulumlaw1_WireForms.mono : ∀ a0 a1 k, LeO (pendulumlaw1_WireForms.f k a0 a1) (pendulumlaw1_WireForms.f (k + 1) a0 a1) := by
  intro a0 a1 k
  obtain ⟨ih0, ih1⟩ := pendulumlaw1_WireForms.mono_l k
  unfold pendulumlaw1_WireForms.f
  repeat' first
      | (with_reducible exact ih0 _ _ _ _ _ _)
      | (with_reducible exact ih1 _ _ _)
      | (with_reducible exact pendulumlaw1_first.mono _)
      | (with_reducible exact pendulumref_Bytes.mono _ _)
      | (with_reducible exact pendulumref_SameBytes.mono _ _ _)
      | (with_reducible exact wire_Put.mono _ _ _)
      | (with_reducible exact LeO.refl _)
      | (with_reducible exact LeO.none _)
      | (with_reducible refine LeO.ite ?_ ?_)
      | (with_reducible refine LeO.bind ?_ (fun _ => ?_))
      | exact ih0 _ _ _ _ _ _
      | exact ih1 _ _ _
      | exact pendulumlaw1_first.mono _
      | exact pendulumref_Bytes.mono _ _
      | exact pendulumref_SameBytes.mono _ _ _
      | exact wire_Put.mono _ _ _
      | exact LeO.none _
      | refine LeO.ite ?_ ?_
      | refine LeO.bind ?_ (fun _ => ?_)
set_option maxHeartbeats 8000000 in
set_option maxRecDepth 100000 in
theorem pendulumlaw1_WireForms.calls [Sent] (k : Nat) (a0 : Int) (a1 : Int) (r : Bool) (w : World) (hG : GlobW w) (hr_ : r = true) (h : pendulumlaw1_WireForms.f k a0 a1 = some r) :
    Calls Tryd.prog 3 #[.int .i64 a0, .int .i64 a1] w fun e w' => e = .returned (.bool r) ∧ Below w.heap.size w w' := by
  have HB := Aside0.mk (Below.refl w.heap.size w)
  have HR_ := Aside0.mk hr_
  clear hr_
  have HG := Aside0.mk hG
  clear hG
  have H : ((pendulumlaw1_first.f k).bind fun t146 => (if t146 = true then ((wire_Put.f k ([] : List Int) a0).bind fun t147 => ((wire_Put.f k ([] : List Int) a1).bind fun t150 => (if (t147.length : Int) = 0 then (pendulumlaw1_WireForms.j0 k a0 a1 t146 t147 t150 true) else (if (t147.length : Int) > 10 then (pendulumlaw1_WireForms.j0 k a0 a1 t146 t147 t150 true) else (pendulumlaw1_WireForms.j0 k a0 a1 t146 t147 t150 ((t150.length : Int) == 0)))))) else (some false))) = some r := h
  clear h
  replace H := Option.bind_eq_some_iff.mp H
  obtain ⟨t146, A30, H⟩ := H
  replace H : (if t146 = true then ((wire_Put.f k ([] : List Int) a0).bind fun t147 => ((wire_Put.f k ([] : List Int) a1).bind fun t150 => (if (t147.length : Int) = 0 then (pendulumlaw1_WireForms.j0 k a0 a1 t146 t147 t150 true) else (if (t147.length : Int) > 10 then (pendulumlaw1_WireForms.j0 k a0 a1 t146 t147 t150 true) else (pendulumlaw1_WireForms.j0 k a0 a1 t146 t147 t150 ((t150.length : Int) == 0)))))) else (some false)) = some r := H
  have A3 := Aside0.mk A30
  clear A30
  by_cases c4 : t146 = true
  · subst c4
    have H1 : ((wire_Put.f k ([] : List Int) a0).bind fun t147 => ((wire_Put.f k ([] : List Int) a1).bind fun t150 => (if (t147.length : Int) = 0 then (pendulumlaw1_WireForms.j0 k a0 a1 true t147 t150 true) else (if (t147.length : Int) > 10 then (pendulumlaw1_WireForms.j0 k a0 a1 true t147 t150 true) else (pendulumlaw1_WireForms.j0 k a0 a1 true t147 t150 ((t150.length : Int) == 0)))))) = some r := by rw [if_pos rfl] at H; exact H
    clear H
    have H := H1
    clear H1
    replace H := Option.bind_eq_some_iff.mp H
    obtain ⟨t147, A50, H⟩ := H
    replace H : ((wire_Put.f k ([] : List Int) a1).bind fun t150 => (if (t147.length : Int) = 0 then (pendulumlaw1_WireForms.j0 k a0 a1 true t147 t150 true) else (if (t147.length : Int) > 10 then (pendulumlaw1_WireForms.j0 k a0 a1 true t147 t150 true) else (pendulumlaw1_WireForms.j0 k a0 a1 true t147 t150 ((t150.length : Int) == 0))))) = some r := H
    have A5 := Aside0.mk A50
    clear A50
    replace H := Option.bind_eq_some_iff.mp H
    obtain ⟨t150, A60, H⟩ := H
    replace H : (if (t147.length : Int) = 0 then (pendulumlaw1_WireForms.j0 k a0 a1 true t147 t150 true) else (if (t147.length : Int) > 10 then (pendulumlaw1_WireForms.j0 k a0 a1 true t147 t150 true) else (pendulumlaw1_WireForms.j0 k a0 a1 true t147 t150 ((t150.length : Int) == 0)))) = some r := H
    have A6 := Aside0.mk A60
    clear A60
    have HC7 := Aside0.mk H
    clear H
    go_enter Tryd.func3, Tryd.ntmps3
    go_upto_region 6 with (first | ((with_reducible refine gate_callee (f := 9) rfl ?_); refine goesL_ (some 10) rfl rfl Tryd.func9 (by kernel_rfl) rfl #[] rfl (by (try simp only [List.map_toArray, List.map_cons, List.map_nil]); first | done | rfl | (simp only [List.length_drop, List.length_take]; rfl)) ?_; (with_reducible refine (pendulumlaw1_first.calls k  true _ A3.out).mono ?_); rintro e w8 ⟨rfl, hb⟩; refine ⟨_, rfl, ?_⟩; have n0_ := Aside0.mk (below_step (by repeat (first | (with_reducible first | exact HB.out | apply below_alloc | apply pw_below_drewN | apply below_drew1) | exact HB.out)) hb); clear HB; have HB := n0_; clear n0_; (try clear hb); (try clear hb2); (try clear hk); (try clear hi); have CN9 := fun W_ => wire_Put.calls k none 0 ([] : List Int) a0 t147 W_; try simp only [List.length_nil, -Nat.reduceLeDiff] at CN9) | ((with_reducible refine gate_callee (f := 10) rfl ?_); refine goesL_ (some 14) rfl rfl Tryd.func10 (by kernel_rfl) rfl #[.slice none 0 0, .int .i64 a0] rfl (by (try simp only [List.map_toArray, List.map_cons, List.map_nil]); first | done | rfl | (simp only [List.length_drop, List.length_take]; rfl)) ?_; (with_reducible refine (CN9 _  ?side1 ?side2 A5.out).mono ?_); (case side1 => exact Kd.C_nil _ _); (case side2 => exact Nat.le_refl _); rintro e w10 ⟨v148, rfl, ho0, hb⟩; refine ⟨_, rfl, ?_⟩; have n0_ := Aside0.mk (Kd.R_lower ho0 (below_size (by repeat (first | (with_reducible first | exact HB.out | apply below_alloc | apply pw_below_drewN | apply below_drew1) | exact HB.out)))); have n1_ := Aside0.mk (below_step (by repeat (first | (with_reducible first | exact HB.out | apply below_alloc | apply pw_below_drewN | apply below_drew1) | exact HB.out)) hb); clear HB; have HO149 := n0_; have HB := n1_; clear n0_ n1_; (try clear hb); (try clear hb2); (try clear hk); (try clear hi); (try clear ho0); have CN11 := fun W_ => wire_Put.calls k none 0 ([] : List Int) a1 t150 W_; try simp only [List.length_nil, -Nat.reduceLeDiff] at CN11) | ((with_reducible refine gate_callee (f := 10) rfl ?_); refine goesL_ (some 16) rfl rfl Tryd.func10 (by kernel_rfl) rfl #[.slice none 0 0, .int .i64 a1] rfl (by (try simp only [List.map_toArray, List.map_cons, List.map_nil]); first | done | rfl | (simp only [List.length_drop, List.length_take]; rfl)) ?_; (with_reducible refine (CN11 _  ?side1 ?side2 A6.out).mono ?_); (case side1 => exact Kd.C_nil _ _); (case side2 => exact Nat.le_refl _); rintro e w12 ⟨v151, rfl, ho0, hb⟩; refine ⟨_, rfl, ?_⟩; have n0_ := Aside0.mk (Kd.R_elder' (by (with_reducible repeat (first | apply Kd.R_alloc | apply Kd.R_drewN | apply Kd.R_drew)); exact HO149.out) (Kd.R_base ho0) hb); have n1_ := Aside0.mk (Kd.R_lower (Kd.R_new' ho0 (Kd.R_lt (by (with_reducible repeat (first | apply Kd.R_alloc | apply Kd.R_drewN | apply Kd.R_drew)); exact HO149.out))) (below_size (by repeat (first | (with_reducible first | exact HB.out | apply below_alloc | apply pw_below_drewN | apply below_drew1) | exact HB.out)))); have n2_ := Aside0.mk (below_step (by repeat (first | (with_reducible first | exact HB.out | apply below_alloc | apply pw_below_drewN | apply below_drew1) | exact HB.out)) hb); clear HO149; clear HB; have HO149 := n0_; have HO152 := n1_; have HB := n2_; clear n0_ n1_ n2_; (try clear hb); (try clear hb2); (try clear hk); (try clear hi); (try clear ho0)))
    (try simp only [Act.put, List.setIfInBounds_toArray, List.set_cons_zero, List.set_cons_succ])
    go_cut [29] (fun v29 wc => ∃ (kq : Nat) (x29_6 : Bool), v29 = .bool x29_6 ∧ Aside0 (pendulumlaw1_WireForms.j0 kq a0 a1 true t147 t150 x29_6 = some r) ∧ Aside0 (kq ≤ k) ∧ Aside0 (Kd.R (Kd.int .u8) 5 wc w.heap.size (fun k_ => some k_ ≠ (v151 : Value).ownBlock) v148 t147) ∧ Aside0 (Kd.R (Kd.int .u8) 5 wc w.heap.size (fun k_ => some k_ ≠ (v148 : Value).ownBlock) v151 t150) ∧ Aside0 (Below w.heap.size w wc))
    case first =>
      have H := HC7.out
      clear HC7
      by_cases c13 : (t147.length : Int) = 0
      · rw [if_pos c13] at H
        have c13b0 : ((t147.length : Int) == 0) = true := beq_iff_eq.mpr c13
        have c13b1 : ((t147.length : Int) != 0) = false := bne_eq_false_iff_eq.mpr c13
        clear c13
        (first | rw [c13b0] | (simp only [i64_w, i32_w]; rw [c13b0]) | skip)
        have H' := Aside0.mk H
        clear H
        obtain ⟨Ao14, co14, eo14⟩ := Kd.R_slice HO149.out
        subst eo14
        go_wp2
        go_meet
        case rel => exact ⟨_, (true), (by first | rfl | (simp; done) | (simp [*]; done)), H', ⟨by first | omega | exact Nat.le_refl _⟩, ⟨by (with_reducible repeat (first | apply Kd.R_alloc | apply Kd.R_drewN | apply Kd.R_drew)); exact Kd.R_mono HO149.out (fun _ hk => hk.2)⟩, ⟨by (with_reducible repeat (first | apply Kd.R_alloc | apply Kd.R_drewN | apply Kd.R_drew)); exact Kd.R_mono HO152.out (fun _ hk => hk.2)⟩, ⟨by repeat (first | (with_reducible first | exact HB.out | apply below_alloc | apply pw_below_drewN | apply below_drew1) | exact HB.out)⟩⟩
      · rw [if_neg c13] at H
        have c13b0 : ((t147.length : Int) == 0) = false := beq_eq_false_iff_ne.mpr c13
        have c13b1 : ((t147.length : Int) != 0) = true := bne_iff_ne.mpr c13
        have c13b2 : ¬ (t147 = []) := fun h_ => c13 (by rw [h_]; rfl)
        (first | rw [c13b0] | (simp only [i64_w, i32_w]; rw [c13b0]) | skip)
        by_cases c15 : (t147.length : Int) > 10
        · rw [if_pos c15] at H
          have c15b0 : decide (10 < (t147.length : Int)) = true := decide_eq_true c15
          have c15b1 : decide (10 < t147.length) = true := decide_eq_true (by omega)
          clear c15
          have H' := Aside0.mk H
          clear H
          obtain ⟨Ao16, co16, eo16⟩ := Kd.R_slice HO149.out
          subst eo16
          go_wp2
          go_meet
          case rel => exact ⟨_, (true), (by first | rfl | (simp; done) | (simp [*]; done)), H', ⟨by first | omega | exact Nat.le_refl _⟩, ⟨by (with_reducible repeat (first | apply Kd.R_alloc | apply Kd.R_drewN | apply Kd.R_drew)); exact Kd.R_mono HO149.out (fun _ hk => hk.2)⟩, ⟨by (with_reducible repeat (first | apply Kd.R_alloc | apply Kd.R_drewN | apply Kd.R_drew)); exact Kd.R_mono HO152.out (fun _ hk => hk.2)⟩, ⟨by repeat (first | (with_reducible first | exact HB.out | apply below_alloc | apply pw_below_drewN | apply below_drew1) | exact HB.out)⟩⟩
        · rw [if_neg c15] at H
          have c15b0 : decide (10 < (t147.length : Int)) = false := decide_eq_false c15
          have c15b1 : decide (10 < t147.length) = false := decide_eq_false (by omega)
          clear c15
          have H' := Aside0.mk H
          clear H
          obtain ⟨Ao17, co17, eo17⟩ := Kd.R_slice HO149.out
          subst eo17
          obtain ⟨Ao18, co18, eo18⟩ := Kd.R_slice HO152.out
          subst eo18
          go_wp2
          go_meet
          case rel => exact ⟨_, (((t150.length : Int) == 0)), (by first | rfl | (simp; done) | (simp [*]; done)), H', ⟨by first | omega | exact Nat.le_refl _⟩, ⟨by (with_reducible repeat (first | apply Kd.R_alloc | apply Kd.R_drewN | apply Kd.R_drew)); exact Kd.R_mono HO149.out (fun _ hk => hk.2)⟩, ⟨by (with_reducible repeat (first | apply Kd.R_alloc | apply Kd.R_drewN | apply Kd.R_drew)); exact Kd.R_mono HO152.out (fun _ hk => hk.2)⟩, ⟨by repeat (first | (with_reducible first | exact HB.out | apply below_alloc | apply pw_below_drewN | apply below_drew1) | exact HB.out)⟩⟩
    case rest =>
      clear HC7
      try clear c1
      try clear p2
      try clear c3
      try clear c4
      try clear c9
      try clear c10
      try clear c13
      try clear c13b0
      try clear c13b1
      try clear c13b2
      try clear c15
      try clear c15b0
      try clear c15b1
      obtain ⟨kq, x29_6, rfl, HA, HJ6, HO_6, HO_7, HB⟩ := hcut
      cases kq with
      | zero => exact absurd HA.out (by simp [pendulumlaw1_WireForms.j0])
      | succ kj6 =>
        have H := HA.out
        clear HA
        simp only [pendulumlaw1_WireForms.j0] at H
        by_cases c19 : x29_6 = true
        · subst c19
          have H1 : (some false) = some r := by rw [if_pos rfl] at H; exact H
          clear H
          have H := H1
          clear H1
          obtain rfl := Option.some.inj H
          exact absurd HR_.out (by decide)
        · replace c19 := Bool.eq_false_iff.mpr c19
          subst c19
          have H1 : (if a0 = a1 then (pendulumlaw1_WireForms.j1 kj6 true t147 false) else (if (t147.length : Int) ≤ (t150.length : Int) then (if 0 ≤ (t147.length : Int) then ((pendulumref_SameBytes.f kj6 t147 (t150.take ((t147.length : Int) : Int).toNat)).bind fun t157 => (pendulumlaw1_WireForms.j1 kj6 true t147 t157)) else (none)) else (pendulumlaw1_WireForms.j1 kj6 true t147 false))) = some r := by rw [if_neg (show ¬ (false = true) by decide)] at H; exact H
          clear H
          have H := H1
          clear H1
          have HC20 := Aside0.mk H
          clear H
          go_upto_region 8 with (fail)
          go_cut [47] (fun v47 wc => ∃ (kq : Nat) (x47_19 : Bool), v47 = .bool x47_19 ∧ Aside0 (pendulumlaw1_WireForms.j1 kq true t147 x47_19 = some r) ∧ Aside0 (kq ≤ kj6) ∧ Aside0 (Kd.R (Kd.int .u8) 5 wc w.heap.size (fun _ => True) v148 t147) ∧ Aside0 (Below w.heap.size w wc))
          case first =>
            have H := HC20.out
            clear HC20
            by_cases c21 : a0 = a1
            · rw [if_pos c21] at H
              have c21b0 : (a0 == a1) = true := beq_iff_eq.mpr c21
              have c21b1 : (a0 != a1) = false := bne_eq_false_iff_eq.mpr c21
              clear c21
              (first | rw [c21b0] | (simp only [i64_w, i32_w]; rw [c21b0]) | skip)
              have H' := Aside0.mk H
              clear H
              go_wp2
              go_meet
              case rel => exact ⟨_, (false), (by first | rfl | (simp; done) | (simp [*]; done)), H', ⟨by have := HJ6.out; first | omega | exact Nat.le_refl _⟩, ⟨by (with_reducible repeat (first | apply Kd.R_alloc | apply Kd.R_drewN | apply Kd.R_drew)); exact Kd.R_mono HO_6.out (fun _ hk => trivial)⟩, ⟨by repeat (first | (with_reducible first | exact HB.out | apply below_alloc | apply pw_below_drewN | apply below_drew1) | exact HB.out)⟩⟩
            · rw [if_neg c21] at H
              have c21b0 : (a0 == a1) = false := beq_eq_false_iff_ne.mpr c21
              have c21b1 : (a0 != a1) = true := bne_iff_ne.mpr c21
              (first | rw [c21b0] | (simp only [i64_w, i32_w]; rw [c21b0]) | skip)
              by_cases c22 : (t147.length : Int) ≤ (t150.length : Int)
              · rw [if_pos c22] at H
                have c22b0 : decide ((t147.length : Int) ≤ (t150.length : Int)) = true := decide_eq_true c22
                have c22b1 : decide (t147.length ≤ t150.length) = true := decide_eq_true (Int.ofNat_le.mp c22)
                clear c22
                by_cases c23 : 0 ≤ (t147.length : Int)
                · rw [if_pos c23] at H
                  have c23b0 := eq_true c23
                  have c23b1 : decide (0 ≤ (t147.length : Int)) = true := decide_eq_true c23
                  clear c23
                  have c24b0 := eq_true (of_decide_eq_true (by first | (with_reducible assumption) | assumption) : (t147.length : Int) ≤ (t150.length : Int))
                  obtain ⟨y153, hy153⟩ : ∃ y_ : List Int, y_ = (t150.take ((t147.length : Int) : Int).toNat) := ⟨_, rfl⟩
                  replace H : ((pendulumref_SameBytes.f kj6 t147 y153).bind fun t157 => (pendulumlaw1_WireForms.j1 kj6 true t147 t157)) = some r := by first | (rw [hy153]; with_reducible exact H) | (have H2_ := (Option.bind_some _ _).symm.trans H; rw [hy153]; with_reducible exact H2_) | (have H2_ := (Option.bind_some _ _).symm.trans H; with_reducible exact H2_) | with_reducible exact H | (rw [hy153]; exact H) | exact H
                  have Ny153 := Aside0.mk hy153
                  clear hy153
                  replace H := Option.bind_eq_some_iff.mp H
                  obtain ⟨t157, A250, H⟩ := H
                  replace H : (pendulumlaw1_WireForms.j1 kj6 true t147 t157) = some r := H
                  have A25 := Aside0.mk A250
                  clear A250
                  have H' := Aside0.mk H
                  clear H
                  obtain ⟨Ao26, co26, eo26⟩ := Kd.R_slice HO_6.out
                  subst eo26
                  obtain ⟨Ao27, co27, eo27⟩ := Kd.R_slice HO_7.out
                  subst eo27
                  have q28 : ((t147.length : Int) : Int) ≤ ((t150.length : Int) : Int) := of_decide_eq_true (by first | (with_reducible assumption) | assumption)
                  obtain ⟨i028, hi028, _, hsz28, _⟩ := info_parts info5
                  have hroom28 : t150.length ≤ co27 := (Kd.R_reads' HO_7.out).2.1
                  have hC28 : Kd.C (Kd.int .u8) _ Ao27 t150.length t150 := (Kd.R_reads' HO_7.out).2.2
                  have hcut28 := cut_to (P := Tryd.prog) 23 5 .i64 Tryd.underlying23 hi028 Ao27 t150.length co27 (t147.length : Int) (of_decide_eq_true (by first | (with_reducible assumption) | assumption)) q28 hroom28
                  have hr28 := Kd.C_take (m := ((t147.length : Int) : Int).toNat) hC28 (by omega)
                  have hy28 : y153.length = ((t147.length : Int) : Int).toNat := (by rw [Ny153.out, List.length_take]; omega)
                  rw [← Ny153.out] at hr28
                  rw [← hy28] at hcut28
                  have HR156 := Aside0.mk hr28
                  have HC156 := Aside0.mk (show y153.length ≤ co27 from by omega)
                  clear hr28 hC28 hroom28 hi028 hsz28
                  have KY28 := Aside0.mk hy28
                  clear hy28
                  have KL28 := Aside0.mk (show ((t147.length : Int) : Int).toNat ≤ t150.length from by omega)
                  replace q28 := eq_true q28
                  go_wp2_with (first | (go_at_call 11; (with_reducible refine (pendulumref_SameBytes.calls kj6 _ _ t147 _ _ y153 t157 _ ?side1 ?side2 ?side3 ?side4 A25.out).mono ?_); (case side1 => repeat (first | exact (Kd.R_reads' HO_6.out).2.2 | (with_reducible refine Kd.C_alloc ?_ _) | (with_reducible refine Kd.C_drewN ?_ _) | (with_reducible refine Kd.C_drew ?_))); (case side2 => exact (Kd.R_reads' HO_6.out).2.1); (case side3 => repeat (first | exact (by repeat (first | (with_reducible exact HR156.out) | (with_reducible refine Kd.C_alloc ?_ _) | (with_reducible refine Kd.C_drewN ?_ _) | (with_reducible refine Kd.C_drew ?_) | exact HR156.out)) | (with_reducible refine Kd.C_alloc ?_ _) | (with_reducible refine Kd.C_drewN ?_ _) | (with_reducible refine Kd.C_drew ?_))); (case side4 => exact HC156.out); rintro e w' ⟨rfl, ⟨nd, rfl⟩⟩))
                  go_meet
                  case rel => exact ⟨_, (t157), (by first | rfl | (simp; done) | (simp [*]; done)), H', ⟨by have := HJ6.out; first | omega | exact Nat.le_refl _⟩, ⟨by (with_reducible repeat (first | apply Kd.R_alloc | apply Kd.R_drewN | apply Kd.R_drew)); exact Kd.R_mono HO_6.out (fun _ hk => trivial)⟩, ⟨by repeat (first | (with_reducible first | exact HB.out | apply below_alloc | apply pw_below_drewN | apply below_drew1) | exact HB.out)⟩⟩
                · rw [if_neg c23] at H
                  exact absurd H (by simp)
              · rw [if_neg c22] at H
                have c22b0 : decide ((t147.length : Int) ≤ (t150.length : Int)) = false := decide_eq_false c22
                have c22b1 : decide (t147.length ≤ t150.length) = false := decide_eq_false (fun h => c22 (Int.ofNat_le.mpr h))
                clear c22
                have H' := Aside0.mk H
                clear H
                obtain ⟨Ao29, co29, eo29⟩ := Kd.R_slice HO_6.out
                subst eo29
                obtain ⟨Ao30, co30, eo30⟩ := Kd.R_slice HO_7.out
                subst eo30
                go_wp2
                go_meet
                case rel => exact ⟨_, (false), (by first | rfl | (simp; done) | (simp [*]; done)), H', ⟨by have := HJ6.out; first | omega | exact Nat.le_refl _⟩, ⟨by (with_reducible repeat (first | apply Kd.R_alloc | apply Kd.R_drewN | apply Kd.R_drew)); exact Kd.R_mono HO_6.out (fun _ hk => trivial)⟩, ⟨by repeat (first | (with_reducible first | exact HB.out | apply below_alloc | apply pw_below_drewN | apply below_drew1) | exact HB.out)⟩⟩
          case rest =>
            clear HC20
            try clear c1
            try clear c2
            try clear p2
            try clear q2
            try clear c3
            try clear c4
            try clear c9
            try clear c10
            try clear c13
            try clear c13b0
            try clear c13b1
            try clear c13b2
            try clear c15
            try clear c15b0
            try clear c15b1
            try clear c19
            try clear c21
            try clear c21b0
            try clear c21b1
            try clear c22
            try clear c22b0
            try clear c22b1
            try clear c23
            try clear c23b0
            try clear c23b1
            try clear c24
            try clear c24b0
            try clear q28
            try clear p2
            try clear q28
            obtain ⟨kq, x47_19, rfl, HA, HJ19, HO_6, HB⟩ := hcut
            cases kq with
            | zero => exact absurd HA.out (by simp [pendulumlaw1_WireForms.j1])
            | succ kj19 =>
              have H := HA.out
              clear HA
              simp only [pendulumlaw1_WireForms.j1] at H
              by_cases c31 : x47_19 = true
              · subst c31
                have H1 : (some false) = some r := by rw [if_pos rfl] at H; exact H
                clear H
                have H := H1
                clear H1
                obtain rfl := Option.some.inj H
                exact absurd HR_.out (by decide)
              · replace c31 := Bool.eq_false_iff.mpr c31
                subst c31
                have H1 : ((pendulumref_Bytes.f kj19 t147).bind fun t158 => (if 0 ≤ (wrap64 ((t158.length : Int) - 1)) then (if (wrap64 ((t158.length : Int) - 1)) < (t158.length : Int) then ((some (t158.set ((wrap64 ((t158.length : Int) - 1)) : Int).toNat (Go.bits .or .u8 (rd t158 (wrap64 ((t158.length : Int) - 1))) 128) : List Int)).bind fun y162 => (if y162.length < 140737488355328 then ((wire_NewReader.f (y162 ++ [0])).bind fun bt166 => ((wire_Num.f bt166.1 bt166.2.1 bt166.2.2 (-9223372036854775808) 9223372036854775807).bind fun bt170 => (if true = true then ((wire_Err.f bt166.1 bt170.2.1 bt170.2.2).bind fun bt173 => ((pendulumref_Placed.f 102 0).bind fun bt178 => ((pendulumsee_Same.f bt173.1 bt178.1 bt178.2.1 bt178.2.2.1 bt178.2.2.2.1 bt178.2.2.2.2).bind fun t183 => (if t183 = true then ((wire_At.f bt166.1 bt173.2.1 bt173.2.2).bind fun bt184 => (some (bt184.1 == 0))) else (some false))))) else (some false)))) else (none))) else (none)) else (none))) = some r := by rw [if_neg (show ¬ (false = true) by decide)] at H; exact H
                clear H
                have H := H1
                clear H1
                replace H := Option.bind_eq_some_iff.mp H
                obtain ⟨t158, A320, H⟩ := H
                replace H : (if 0 ≤ (wrap64 ((t158.length : Int) - 1)) then (if (wrap64 ((t158.length : Int) - 1)) < (t158.length : Int) then ((some (t158.set ((wrap64 ((t158.length : Int) - 1)) : Int).toNat (Go.bits .or .u8 (rd t158 (wrap64 ((t158.length : Int) - 1))) 128) : List Int)).bind fun y162 => (if y162.length < 140737488355328 then ((wire_NewReader.f (y162 ++ [0])).bind fun bt166 => ((wire_Num.f bt166.1 bt166.2.1 bt166.2.2 (-9223372036854775808) 9223372036854775807).bind fun bt170 => (if true = true then ((wire_Err.f bt166.1 bt170.2.1 bt170.2.2).bind fun bt173 => ((pendulumref_Placed.f 102 0).bind fun bt178 => ((pendulumsee_Same.f bt173.1 bt178.1 bt178.2.1 bt178.2.2.1 bt178.2.2.2.1 bt178.2.2.2.2).bind fun t183 => (if t183 = true then ((wire_At.f bt166.1 bt173.2.1 bt173.2.2).bind fun bt184 => (some (bt184.1 == 0))) else (some false))))) else (some false)))) else (none))) else (none)) else (none)) = some r := H
                have A32 := Aside0.mk A320
                clear A320
                obtain ⟨ji33, hji33⟩ : ∃ j_ : Int, (wrap64 ((t158.length : Int) - 1)) = j_ := ⟨_, rfl⟩
                replace H : (if 0 ≤ (ji33) then (if (ji33) < (t158.length : Int) then ((some (t158.set ((ji33) : Int).toNat (Go.bits .or .u8 (rd t158 (ji33)) 128) : List Int)).bind fun y162 => (if y162.length < 140737488355328 then ((wire_NewReader.f (y162 ++ [0])).bind fun bt166 => ((wire_Num.f bt166.1 bt166.2.1 bt166.2.2 (-9223372036854775808) 9223372036854775807).bind fun bt170 => (if true = true then ((wire_Err.f bt166.1 bt170.2.1 bt170.2.2).bind fun bt173 => ((pendulumref_Placed.f 102 0).bind fun bt178 => ((pendulumsee_Same.f bt173.1 bt178.1 bt178.2.1 bt178.2.2.1 bt178.2.2.2.1 bt178.2.2.2.2).bind fun t183 => (if t183 = true then ((wire_At.f bt166.1 bt173.2.1 bt173.2.2).bind fun bt184 => (some (bt184.1 == 0))) else (some false))))) else (some false)))) else (none))) else (none)) else (none)) = some r := by first | (rw [hji33] at H; exact H) | (simp only [hji33] at H ⊢; exact H)
                (try rw [hji33] at A32)
                have hji33w : (IntKind.i64.wrap ((t158.length : Int) - 1)) = ji33 := (i64_w _).trans hji33
                by_cases c34 : 0 ≤ (ji33)
                · rw [if_pos c34] at H
                  have c34b0 : decide (0 ≤ (ji33)) = true := decide_eq_true c34
                  clear c34
                  by_cases c35 : (ji33) < (t158.length : Int)
                  · rw [if_pos c35] at H
                    have c35b0 : decide ((ji33) < (t158.length : Int)) = true := decide_eq_true c35
                    clear c35
                    obtain ⟨y162, hy162⟩ : ∃ y_ : List Int, y_ = (t158.set ((ji33) : Int).toNat (Go.bits .or .u8 (rd t158 (ji33)) 128)) := ⟨_, rfl⟩
                    replace H : (if y162.length < 140737488355328 then ((wire_NewReader.f (y162 ++ [0])).bind fun bt166 => ((wire_Num.f bt166.1 bt166.2.1 bt166.2.2 (-9223372036854775808) 9223372036854775807).bind fun bt170 => (if true = true then ((wire_Err.f bt166.1 bt170.2.1 bt170.2.2).bind fun bt173 => ((pendulumref_Placed.f 102 0).bind fun bt178 => ((pendulumsee_Same.f bt173.1 bt178.1 bt178.2.1 bt178.2.2.1 bt178.2.2.2.1 bt178.2.2.2.2).bind fun t183 => (if t183 = true then ((wire_At.f bt166.1 bt173.2.1 bt173.2.2).bind fun bt184 => (some (bt184.1 == 0))) else (some false))))) else (some false)))) else (none)) = some r := by first | (rw [hy162]; with_reducible exact H) | (have H2_ := (Option.bind_some _ _).symm.trans H; rw [hy162]; with_reducible exact H2_) | (have H2_ := (Option.bind_some _ _).symm.trans H; with_reducible exact H2_) | with_reducible exact H | (rw [hy162]; exact H) | exact H
                    have Ny162 := Aside0.mk hy162
                    clear hy162
                    by_cases c37 : y162.length < 140737488355328
                    · rw [if_pos c37] at H
                      have LMc37 := Aside0.mk c37
                      clear c37
                      obtain ⟨y163, hy163⟩ : ∃ y_ : List Int, y_ = (y162 ++ [0]) := ⟨_, rfl⟩
                      replace H : ((wire_NewReader.f y163).bind fun bt166 => ((wire_Num.f bt166.1 bt166.2.1 bt166.2.2 (-9223372036854775808) 9223372036854775807).bind fun bt170 => (if true = true then ((wire_Err.f bt166.1 bt170.2.1 bt170.2.2).bind fun bt173 => ((pendulumref_Placed.f 102 0).bind fun bt178 => ((pendulumsee_Same.f bt173.1 bt178.1 bt178.2.1 bt178.2.2.1 bt178.2.2.2.1 bt178.2.2.2.2).bind fun t183 => (if t183 = true then ((wire_At.f bt166.1 bt173.2.1 bt173.2.2).bind fun bt184 => (some (bt184.1 == 0))) else (some false))))) else (some false)))) = some r := by first | (rw [hy163]; with_reducible exact H) | (have H2_ := (Option.bind_some _ _).symm.trans H; rw [hy163]; with_reducible exact H2_) | (have H2_ := (Option.bind_some _ _).symm.trans H; with_reducible exact H2_) | with_reducible exact H | (rw [hy163]; exact H) | exact H
                      have Ny163 := Aside0.mk hy163
                      clear hy163
                      replace H := Option.bind_eq_some_iff.mp H
                      obtain ⟨⟨t166, t167, t168⟩, A380, H⟩ := H
                      replace H : ((wire_Num.f t166 t167 t168 (-9223372036854775808) 9223372036854775807).bind fun bt170 => (if true = true then ((wire_Err.f t166 bt170.2.1 bt170.2.2).bind fun bt173 => ((pendulumref_Placed.f 102 0).bind fun bt178 => ((pendulumsee_Same.f bt173.1 bt178.1 bt178.2.1 bt178.2.2.1 bt178.2.2.2.1 bt178.2.2.2.2).bind fun t183 => (if t183 = true then ((wire_At.f t166 bt173.2.1 bt173.2.2).bind fun bt184 => (some (bt184.1 == 0))) else (some false))))) else (some false))) = some r := H
                      have A38 := Aside0.mk A380
                      clear A380
                      replace H := Option.bind_eq_some_iff.mp H
                      obtain ⟨⟨t170, t171, t172⟩, A390, H⟩ := H
                      replace H : (if true = true then ((wire_Err.f t166 t171 t172).bind fun bt173 => ((pendulumref_Placed.f 102 0).bind fun bt178 => ((pendulumsee_Same.f bt173.1 bt178.1 bt178.2.1 bt178.2.2.1 bt178.2.2.2.1 bt178.2.2.2.2).bind fun t183 => (if t183 = true then ((wire_At.f t166 bt173.2.1 bt173.2.2).bind fun bt184 => (some (bt184.1 == 0))) else (some false))))) else (some false)) = some r := H
                      have A39 := Aside0.mk A390
                      clear A390
                      replace H : ((wire_Err.f t166 t171 t172).bind fun bt173 => ((pendulumref_Placed.f 102 0).bind fun bt178 => ((pendulumsee_Same.f bt173.1 bt178.1 bt178.2.1 bt178.2.2.1 bt178.2.2.2.1 bt178.2.2.2.2).bind fun t183 => (if t183 = true then ((wire_At.f t166 bt173.2.1 bt173.2.2).bind fun bt184 => (some (bt184.1 == 0))) else (some false))))) = some r := by first | (rw [if_pos rfl] at H; exact H) | (simp only [if_true, if_false] at H; exact H)
                      replace H := Option.bind_eq_some_iff.mp H
                      obtain ⟨⟨t173, t176, t177⟩, A400, H⟩ := H
                      replace H : ((pendulumref_Placed.f 102 0).bind fun bt178 => ((pendulumsee_Same.f t173 bt178.1 bt178.2.1 bt178.2.2.1 bt178.2.2.2.1 bt178.2.2.2.2).bind fun t183 => (if t183 = true then ((wire_At.f t166 t176 t177).bind fun bt184 => (some (bt184.1 == 0))) else (some false)))) = some r := H
                      have A40 := Aside0.mk A400
                      clear A400
                      replace H := Option.bind_eq_some_iff.mp H
                      obtain ⟨⟨t178, t179, t180, t181, t182⟩, A410, H⟩ := H
                      replace H : ((pendulumsee_Same.f t173 t178 t179 t180 t181 t182).bind fun t183 => (if t183 = true then ((wire_At.f t166 t176 t177).bind fun bt184 => (some (bt184.1 == 0))) else (some false))) = some r := H
                      have A41 := Aside0.mk A410
                      clear A410
                      replace H := Option.bind_eq_some_iff.mp H
                      obtain ⟨t183, A420, H⟩ := H
                      replace H : (if t183 = true then ((wire_At.f t166 t176 t177).bind fun bt184 => (some (bt184.1 == 0))) else (some false)) = some r := H
                      have A42 := Aside0.mk A420
                      clear A420
                      by_cases c43 : t183 = true
                      · subst c43
                        have H1 : ((wire_At.f t166 t176 t177).bind fun bt184 => (some (bt184.1 == 0))) = some r := by rw [if_pos rfl] at H; exact H
                        clear H
                        have H := H1
                        clear H1
                        replace H := Option.bind_eq_some_iff.mp H
                        obtain ⟨⟨t184, t185, t186⟩, A440, H⟩ := H
                        replace H : (some (t184 == 0)) = some r := H
                        have A44 := Aside0.mk A440
                        clear A440
                        obtain rfl := Option.some.inj H
                        simp only [Option.some.injEq, Prod.mk.injEq] at H
                        obtain ⟨rfl⟩ := H
                        obtain ⟨Ao45, co45, eo45⟩ := Kd.R_slice HO_6.out
                        subst eo45
                        go_wp2_with (first | ((with_reducible refine gate_callee (f := 12) rfl ?_); refine goesL_ (some 49) rfl rfl Tryd.func12 (by kernel_rfl) rfl #[.slice Ao45 t147.length co45] rfl (by (try simp only [List.map_toArray, List.map_cons, List.map_nil]); first | done | rfl | (simp only [List.length_drop, List.length_take]; rfl)) ?_; (with_reducible refine (pendulumref_Bytes.calls kj19 _ _ t147 t158 _ ?side1 ?side2 A32.out).mono ?_); (case side1 => repeat (first | exact (Kd.R_reads' HO_6.out).2.2 | (with_reducible refine Kd.C_alloc ?_ _) | (with_reducible refine Kd.C_drewN ?_ _) | (with_reducible refine Kd.C_drew ?_))); (case side2 => exact (Kd.R_reads' HO_6.out).2.1); rintro e w46 ⟨v159, rfl, ho0, hb⟩; refine ⟨_, rfl, ?_⟩; have n0_ := Aside0.mk (Kd.R_elder' (by (with_reducible repeat (first | apply Kd.R_alloc | apply Kd.R_drewN | apply Kd.R_drew)); exact HO_6.out) (Kd.R_base ho0) hb); have n1_ := Aside0.mk (Kd.R_lower (Kd.R_new' ho0 (Kd.R_lt (by (with_reducible repeat (first | apply Kd.R_alloc | apply Kd.R_drewN | apply Kd.R_drew)); exact HO_6.out))) (below_size (by repeat (first | (with_reducible first | exact HB.out | apply below_alloc | apply pw_below_drewN | apply below_drew1) | exact HB.out)))); have n2_ := Aside0.mk (below_step (by repeat (first | (with_reducible first | exact HB.out | apply below_alloc | apply pw_below_drewN | apply below_drew1) | exact HB.out)) hb); clear HO_6; clear HB; have HO_6 := n0_; have HO160 := n1_; have HB := n2_; clear n0_ n1_ n2_; (try clear hb); (try clear hb2); (try clear hk); (try clear hi); (try clear ho0); obtain ⟨Ao47, co47, eo47⟩ := Kd.R_slice HO160.out; subst eo47; have p161 : 0 ≤ ((ji33) : Int) := of_decide_eq_true (by first | (with_reducible assumption) | assumption); have q161 : (ji33) < (t158.length : Int) := of_decide_eq_true (by first | (with_reducible assumption) | assumption); obtain ⟨ad161, e161, hx161_0⟩ := Kd.at_int (Kd.R_reads' HO160.out).2.2 (ji33) p161 q161; cases e161; replace p161 := eq_true p161; replace q161 := eq_true q161; have p36 : 0 ≤ ((ji33) : Int) := of_decide_eq_true (by first | (with_reducible assumption) | assumption); have q36 : ((ji33) : Int) < ((t158.length : Int) : Int) := of_decide_eq_true (by first | (with_reducible assumption) | assumption); obtain ⟨go36, co36, eo36, gb36, gl36, cl36, HG36⟩ := Kd.R_form HO160.out (by omega); (first | cases eo36 | (injection eo36 with ea_ en_ ec_; (first | subst ea_ | (injection ea_ with ea_; subst ea_)); subst ec_; clear en_)); have GB36 := Aside0.mk gb36; have GG36 := Aside0.mk HG36; clear gb36 gl36 HG36; (first | simp only [add_plain] at hx161_0 | skip); obtain ⟨hx36_0, hf36_0⟩ := Kd.R_celln 0 HO160.out ((ji33) : Int) p36 q36; replace p36 := eq_true p36; replace q36 := eq_true q36; have n_ := Aside0.mk (Kd.R_mono (ok' := (fun k_ => some k_ ≠ (.slice Ao45 t147.length co45 : Value).ownBlock)) HO160.out (fun k_ hk => hk.2)); clear HO160; have HO160 := n_; clear n_; obtain ⟨hy48_, hz48_⟩ := Kd.R_celln 0 HO160.out ((ji33) : Int) (of_decide_eq_true (by first | (with_reducible assumption) | assumption)) (of_decide_eq_true (by first | (with_reducible assumption) | assumption)); have HP48 := Kd.R_putg HO160.out ((ji33) : Int) (Go.bits .or .u8 (rd t158 (ji33)) 128)) | ((with_reducible refine gate_store (t := 5) (p := 57) rfl ?_); refine store_event (t := 5) (p := 57) (v := ?vo_w49) (w1 := (w46.setCell ⟨go36, ((ji33) : Int).toNat, none⟩ (.int .u8 (Go.bits .or .u8 (rd t158 (ji33)) 128)))) ?hg ?ho ?hn ?hr ?_; (case ho => rfl); (case hg => rfl); (case hn => rfl); (case hr => first | (go_simp; done) | (go_simp; rfl)); intro w49 hw; have hg : w46.grownBy w49 (some go36) := (by rw [hw]; exact HP48.2); have hp_ : Kd.R (Kd.int .u8) 5 w49 w.heap.size (fun k_ => some k_ ≠ (.slice Ao45 t147.length co45 : Value).ownBlock) (.slice (some ⟨go36, 0, none⟩) t158.length co47) y162 := (by rw [hw, Ny162.out]; exact HP48.1); clear HP48; have n0_ := Aside0.mk (Kd.R_after (v := (.slice (some ⟨go36, 0, none⟩) t158.length co47)) (v1 := (.slice (some ⟨go36, 0, none⟩) t158.length co47)) (ok := (fun _ => True)) (by (with_reducible repeat (first | apply Kd.R_alloc | apply Kd.R_drewN | apply Kd.R_drew)); exact HO_6.out) hg (.inl rfl)); have n1_ := Aside0.mk (hp_); have n2_ := Aside0.mk ((by rw [hw]; exact below_set (HB.out) GB36.out : Below w.heap.size w w49)); clear HO_6; clear HO160; clear HB; have HO_6 := n0_; have HO160 := n1_; have HB := n2_; clear n0_ n1_ n2_; clear hg hw hp_) | ((with_reducible refine gate_builtin (b := .append) (xs := #[.tmp 58, .tmp 59]) rfl ?_); (try (refine gate_guard (by rfl) ?_; dsimp only)); at_builtin; refine Kd.R_append (Kd.int .u8) (w0 := w) w.heap.size rfl (.tmp 58) (.tmp 59) 23 5 (.int .u8 0) 1 rfl Tryd.underlying23 info5 rfl (by decide) (by omega) (.slice (some ⟨go36, 0, none⟩) t158.length co47) y162 0 [.int .u8 0] (fun k_ => some k_ ≠ (.slice Ao45 t147.length co45 : Value).ownBlock) (fun _ => False) rfl rfl ?aP (fun _ hk => hk.elim) ?aF ?aO ?aB ?aS ?aL ?_; (case aP => exact rfl); (case aB => exact (by repeat (first | (with_reducible first | exact HB.out | apply below_alloc | apply pw_below_drewN | apply below_drew1) | exact HB.out))); (case aF => exact (fun k_ hk => Kd.fresh' (Kd.R_lt (by (with_reducible repeat (first | apply Kd.R_alloc | apply Kd.R_drewN | apply Kd.R_drew)); exact HO_6.out)) k_ hk)); (case aO => exact (by (with_reducible repeat (first | apply Kd.R_alloc | apply Kd.R_drewN | apply Kd.R_drew)); exact HO160.out)); (case aS => exact (below_size (by repeat (first | (with_reducible first | exact HB.out | apply below_alloc | apply pw_below_drewN | apply below_drew1) | exact HB.out)))); (case aL => have := LMc37.out; omega); intro v164 w50 ho hb hg hat; rw [← Ny163.out] at ho; have n0_ := Aside0.mk (Kd.R_after (ok := (fun _ => True)) (by (with_reducible repeat (first | apply Kd.R_alloc | apply Kd.R_drewN | apply Kd.R_drew)); exact HO_6.out) hg hat); have n1_ := Aside0.mk (hb); have n2_ := Aside0.mk (ho); clear HO_6; clear HB; clear HO160; have HO_6 := n0_; have HB := n1_; have HO165 := n2_; clear n0_ n1_ n2_; clear ho hb hg hat; obtain ⟨Ao51, co51, eo51⟩ := Kd.R_slice HO165.out; subst eo51) | ((with_reducible refine gate_callee (f := 13) rfl ?_); refine goesL_ (some 61) rfl rfl Tryd.func13 (by kernel_rfl) rfl #[.slice Ao51 y163.length co51] rfl (by (try simp only [List.map_toArray, List.map_cons, List.map_nil]); first | done | rfl | (simp only [List.length_drop, List.length_take]; rfl)) ?_; (with_reducible refine (wire_NewReader.calls _ _ y163 t166 t167 t168 w _ ?side1 ?side2 ?side3 A38.out).mono ?_); (case side1 => repeat (first | (with_reducible first | exact HB.out | apply below_alloc | apply pw_below_drewN | apply below_drew1) | exact HB.out)); (case side2 => repeat (first | exact (Kd.R_reads' HO165.out).2.2 | (with_reducible refine Kd.C_alloc ?_ _) | (with_reducible refine Kd.C_drewN ?_ _) | (with_reducible refine Kd.C_drew ?_))); (case side3 => exact (Kd.R_reads' HO165.out).2.1); rintro e w52 ⟨g169, rfl, hi, hb, hb2⟩; refine ⟨_, rfl, ?_⟩; have n0_ := Aside0.mk (Kd.R_below (by (with_reducible repeat (first | apply Kd.R_alloc | apply Kd.R_drewN | apply Kd.R_drew)); exact HO_6.out) hb2); have n1_ := Aside0.mk (Kd.R_below (by (with_reducible repeat (first | apply Kd.R_alloc | apply Kd.R_drewN | apply Kd.R_drew)); exact HO165.out) hb2); have n2_ := Aside0.mk (hb); have n3_ := Aside0.mk (hi); clear HO_6; clear HO165; clear HB; have HO_6 := n0_; have HO165 := n1_; have HB := n2_; have HI169 := n3_; clear n0_ n1_ n2_ n3_; (try clear hb); (try clear hb2); (try clear hk); (try clear hi)) | ((with_reducible refine gate_callee (f := 14) rfl ?_); refine goesL_ (some 65) rfl rfl Tryd.func14 (by kernel_rfl) rfl #[.pointer (some ⟨g169, 0, none⟩), .int .i64 (-9223372036854775808), .int .i64 9223372036854775807] rfl (by (try simp only [List.map_toArray, List.map_cons, List.map_nil]); first | done | rfl | (simp only [List.length_drop, List.length_take]; rfl)) ?_; (with_reducible refine (wire_Num.calls g169 t166 t167 t168 (-9223372036854775808) 9223372036854775807 t170 t171 t172 w _ ?side1 ?side2 ?side3 A39.out).mono ?_); (case side1 => repeat (first | (with_reducible first | exact HI169.out | apply IsS50.alloc | apply IsS50.drewN | apply IsS50.drew | apply IsS50.set_1 | apply IsS50.set_2) | exact HI169.out)); (case side2 => repeat (first | (with_reducible first | exact HB.out | apply below_alloc | apply pw_below_drewN | apply below_drew1 | refine below_set ?_ (IsS50.ge HI169.out)) | exact HB.out)); (case side3 => exact GlobW.below HG.out (by repeat (first | (with_reducible first | exact HB.out | apply below_alloc | apply pw_below_drewN | apply below_drew1 | refine below_set ?_ (IsS50.ge HI169.out)) | exact HB.out))); rintro e w53 ⟨rfl, hi, hb, hk⟩; refine ⟨_, rfl, ?_⟩; have n0_ := Aside0.mk (Kd.R_mono (Kd.R_keep (IsS50.apart (show IsS50 w _ g169 t166 t167 t168 from by repeat (first | (with_reducible first | exact HI169.out | apply IsS50.alloc | apply IsS50.drewN | apply IsS50.drew | apply IsS50.set_1 | apply IsS50.set_2) | exact HI169.out)) (by (with_reducible repeat (first | apply Kd.R_alloc | apply Kd.R_drewN | apply Kd.R_drew)); exact HO_6.out) (by decide)) hk (fun _ h => h.2)) (fun _ h => h.1)); have n1_ := Aside0.mk (Kd.R_mono (Kd.R_keep (IsS50.apart (show IsS50 w _ g169 t166 t167 t168 from by repeat (first | (with_reducible first | exact HI169.out | apply IsS50.alloc | apply IsS50.drewN | apply IsS50.drew | apply IsS50.set_1 | apply IsS50.set_2) | exact HI169.out)) (by (with_reducible repeat (first | apply Kd.R_alloc | apply Kd.R_drewN | apply Kd.R_drew)); exact HO165.out) (by decide)) hk (fun _ h => h.2)) (fun _ h => h.1)); have n2_ := Aside0.mk (hb); have n3_ := Aside0.mk (hi); clear HO_6; clear HO165; clear HB; clear HI169; have HO_6 := n0_; have HO165 := n1_; have HB := n2_; have HI169 := n3_; clear n0_ n1_ n2_ n3_; (try clear hb); (try clear hb2); (try clear hk); (try clear hi)) | (go_at_call 16; (with_reducible refine (wire_Err.calls g169 t166 t171 t172 t173 t176 t177 w _ ?side1 ?side2 A40.out).mono ?_); (case side1 => repeat (first | (with_reducible first | exact HI169.out | apply IsS50.alloc | apply IsS50.drewN | apply IsS50.drew | apply IsS50.set_1 | apply IsS50.set_2) | exact HI169.out)); (case side2 => repeat (first | (with_reducible first | exact HB.out | apply below_alloc | apply pw_below_drewN | apply below_drew1 | refine below_set ?_ (IsS50.ge HI169.out)) | exact HB.out)); rintro e w54 ⟨A174, rfl, heHE175, hi, hb, hk⟩; have n0_ := Aside0.mk (Kd.R_mono (Kd.R_keep (IsS50.apart (show IsS50 w _ g169 t166 t171 t172 from by repeat (first | (with_reducible first | exact HI169.out | apply IsS50.alloc | apply IsS50.drewN | apply IsS50.drew | apply IsS50.set_1 | apply IsS50.set_2) | exact HI169.out)) (by (with_reducible repeat (first | apply Kd.R_alloc | apply Kd.R_drewN | apply Kd.R_drew)); exact HO_6.out) (by decide)) hk (fun _ h => h.2)) (fun _ h => h.1)); have n1_ := Aside0.mk (Kd.R_mono (Kd.R_keep (IsS50.apart (show IsS50 w _ g169 t166 t171 t172 from by repeat (first | (with_reducible first | exact HI169.out | apply IsS50.alloc | apply IsS50.drewN | apply IsS50.drew | apply IsS50.set_1 | apply IsS50.set_2) | exact HI169.out)) (by (with_reducible repeat (first | apply Kd.R_alloc | apply Kd.R_drewN | apply Kd.R_drew)); exact HO165.out) (by decide)) hk (fun _ h => h.2)) (fun _ h => h.1)); have n2_ := Aside0.mk (hb); have n3_ := Aside0.mk (hi); have n4_ := Aside0.mk (heHE175); clear HO_6; clear HO165; clear HB; clear HI169; have HO_6 := n0_; have HO165 := n1_; have HB := n2_; have HI169 := n3_; have HE175 := n4_; clear n0_ n1_ n2_ n3_ n4_; (try clear hb); (try clear hb2); (try clear hk); (try clear hi); (try clear heHE175)) | (go_at_call 17; (with_reducible refine (pendulumref_Placed.calls 102 0 t178 t179 t180 t181 t182 _ A41.out).mono ?_); rintro e w55 ⟨rfl, hb⟩; have n0_ := Aside0.mk (Kd.R_below (by (with_reducible repeat (first | apply Kd.R_alloc | apply Kd.R_drewN | apply Kd.R_drew)); exact HO_6.out) hb); have n1_ := Aside0.mk (Kd.R_below (by (with_reducible repeat (first | apply Kd.R_alloc | apply Kd.R_drewN | apply Kd.R_drew)); exact HO165.out) hb); have n2_ := Aside0.mk (IsS50.below (by repeat (first | (with_reducible first | exact HI169.out | apply IsS50.alloc | apply IsS50.drewN | apply IsS50.drew | apply IsS50.set_1 | apply IsS50.set_2) | exact HI169.out)) hb); have n3_ := Aside0.mk (Kd.C_below (by repeat (first | (with_reducible exact HE175.out) | (with_reducible refine Kd.C_alloc ?_ _) | (with_reducible refine Kd.C_drewN ?_ _) | (with_reducible refine Kd.C_drew ?_) | exact HE175.out)) hb); have n4_ := Aside0.mk (below_step (by repeat (first | (with_reducible first | exact HB.out | apply below_alloc | apply pw_below_drewN | apply below_drew1 | refine below_set ?_ (IsS50.ge HI169.out)) | exact HB.out)) hb); clear HO_6; clear HO165; clear HI169; clear HE175; clear HB; have HO_6 := n0_; have HO165 := n1_; have HI169 := n2_; have HE175 := n3_; have HB := n4_; clear n0_ n1_ n2_ n3_ n4_; (try clear hb); (try clear hb2); (try clear hk); (try clear hi)) | (go_at_call 15; (with_reducible refine (pendulumsee_Same.calls _ t173 t178 t179 t180 t181 t182 true _ ?side1 ?side2 A42.out).mono ?_); (case side1 => exact GlobW.below HG.out (by repeat (first | (with_reducible first | exact HB.out | apply below_alloc | apply pw_below_drewN | apply below_drew1 | refine below_set ?_ (IsS50.ge HI169.out)) | exact HB.out))); (case side2 => exact by repeat (first | (with_reducible exact HE175.out) | (with_reducible refine Kd.C_alloc ?_ _) | (with_reducible refine Kd.C_drewN ?_ _) | (with_reducible refine Kd.C_drew ?_) | exact HE175.out)); rintro e w56 ⟨rfl, hb⟩; have n0_ := Aside0.mk (Kd.R_below (by (with_reducible repeat (first | apply Kd.R_alloc | apply Kd.R_drewN | apply Kd.R_drew)); exact HO_6.out) hb); have n1_ := Aside0.mk (Kd.R_below (by (with_reducible repeat (first | apply Kd.R_alloc | apply Kd.R_drewN | apply Kd.R_drew)); exact HO165.out) hb); have n2_ := Aside0.mk (IsS50.below (by repeat (first | (with_reducible first | exact HI169.out | apply IsS50.alloc | apply IsS50.drewN | apply IsS50.drew | apply IsS50.set_1 | apply IsS50.set_2) | exact HI169.out)) hb); have n3_ := Aside0.mk (Kd.C_below (by repeat (first | (with_reducible exact HE175.out) | (with_reducible refine Kd.C_alloc ?_ _) | (with_reducible refine Kd.C_drewN ?_ _) | (with_reducible refine Kd.C_drew ?_) | exact HE175.out)) hb); have n4_ := Aside0.mk (below_step (by repeat (first | (with_reducible first | exact HB.out | apply below_alloc | apply pw_below_drewN | apply below_drew1 | refine below_set ?_ (IsS50.ge HI169.out)) | exact HB.out)) hb); clear HO_6; clear HO165; clear HI169; clear HE175; clear HB; have HO_6 := n0_; have HO165 := n1_; have HI169 := n2_; have HE175 := n3_; have HB := n4_; clear n0_ n1_ n2_ n3_ n4_; (try clear hb); (try clear hb2); (try clear hk); (try clear hi)) | (go_at_call 18; (with_reducible refine (wire_At.calls g169 t166 t176 t177 t184 t185 t186 w _ ?side1 ?side2 A44.out).mono ?_); (case side1 => repeat (first | (with_reducible first | exact HI169.out | apply IsS50.alloc | apply IsS50.drewN | apply IsS50.drew | apply IsS50.set_1 | apply IsS50.set_2) | exact HI169.out)); (case side2 => repeat (first | (with_reducible first | exact HB.out | apply below_alloc | apply pw_below_drewN | apply below_drew1 | refine below_set ?_ (IsS50.ge HI169.out)) | exact HB.out)); rintro e w57 ⟨rfl, hi, hb, hk⟩; have n0_ := Aside0.mk (Kd.R_mono (Kd.R_keep (IsS50.apart (show IsS50 w _ g169 t166 t176 t177 from by repeat (first | (with_reducible first | exact HI169.out | apply IsS50.alloc | apply IsS50.drewN | apply IsS50.drew | apply IsS50.set_1 | apply IsS50.set_2) | exact HI169.out)) (by (with_reducible repeat (first | apply Kd.R_alloc | apply Kd.R_drewN | apply Kd.R_drew)); exact HO_6.out) (by decide)) hk (fun _ h => h.2)) (fun _ h => h.1)); have n1_ := Aside0.mk (Kd.R_mono (Kd.R_keep (IsS50.apart (show IsS50 w _ g169 t166 t176 t177 from by repeat (first | (with_reducible first | exact HI169.out | apply IsS50.alloc | apply IsS50.drewN | apply IsS50.drew | apply IsS50.set_1 | apply IsS50.set_2) | exact HI169.out)) (by (with_reducible repeat (first | apply Kd.R_alloc | apply Kd.R_drewN | apply Kd.R_drew)); exact HO165.out) (by decide)) hk (fun _ h => h.2)) (fun _ h => h.1)); have n2_ := Aside0.mk (hb); have n3_ := Aside0.mk (hi); clear HO_6; clear HO165; clear HB; clear HI169; have HO_6 := n0_; have HO165 := n1_; have HB := n2_; have HI169 := n3_; clear n0_ n1_ n2_ n3_; (try clear hb); (try clear hb2); (try clear hk); (try clear hi)))
                        go_ret
                        exact ⟨by first | rfl | (simp [errW_none, errW_some] <;> rfl) | (simp only [← hji33]; first | rfl | (simp [errW_none, errW_some] <;> rfl)) | (simp [*, errW_none, errW_some] <;> rfl), by repeat (first | (with_reducible first | exact HB.out | apply below_alloc | apply pw_below_drewN | apply below_drew1 | refine below_set ?_ (IsS50.ge HI169.out)) | exact HB.out)⟩
                      · replace c43 := Bool.eq_false_iff.mpr c43
                        subst c43
                        have H1 : (some false) = some r := by rw [if_neg (show ¬ (false = true) by decide)] at H; exact H
                        clear H
                        have H := H1
                        clear H1
                        obtain rfl := Option.some.inj H
                        exact absurd HR_.out (by decide)
                    · rw [if_neg c37] at H
                      exact absurd H (by simp)
                  · rw [if_neg c35] at H
                    exact absurd H (by simp)
                · rw [if_neg c34] at H
                  exact absurd H (by simp)
  · replace c4 := Bool.eq_false_iff.mpr c4
    subst c4
    have H1 : (some false) = some r := by rw [if_neg (show ¬ (false = true) by decide)] at H; exact H
    clear H
    have H := H1
    clear H1
    obtain rfl := Option.some.inj H
    exact absurd HR_.out (by decide)

end Go.Proofs.YtpiafijccnbdbaaDoor.KTWireForms

/- By a program of this session (kprint.py) over the printer: functions of the code as plain Lean functions, and the walks that say so. -/
import Derived.Test.YtjccbolnjnefiaaDoorKTCodeBoundsx0
import Derived.Test.YtjccbolnjnefiaaDoorKTCodeBoundsx1
namespace Go.Proofs.YtjccbolnjnefiaaDoor.KTCodeBounds
open Go.RowKit Go.Proofs.YtjccbolnjnefiaaDoorW.PrintWords Go.Proofs.YtjccbolnjnefiaaDoorW.PrintLast Go.Proofs.YtjccbolnjnefiaaDoorW.PrintMore
attribute [local go_sem] max2_int min2_int max_two min_two max_three min_three max_four min_four   -- for this text's walks alone
set_option linter.unusedVariables false
set_option linter.unusedSimpArgs false

/-! ### slices_ConcatInt: function 35 -/
theorem infoCat : (Tryd.prog.info? 3).map (fun i => (i.zero, i.size, i.bytes)) = some (some (.int .i64 0), 1, 8) := by kernel_rfl
set_option maxHeartbeats 1000000 in
set_option maxRecDepth 100000 in
theorem growInt [Sent] (n : Int) (w : World) (h0 : 0 ≤ n) (hn : n < 17592186044416) :
    Calls Tryd.prog 57 #[.slice none 0 0, .int .i64 n] w fun e w' => ∃ v, e = .returned v ∧ Kd.R (Kd.int .i64) 3 w' w.heap.size (fun _ => True) v [] ∧ Below w.heap.size w w' := by
  obtain ⟨m, hm⟩ : ∃ m, wrap64 n = m := ⟨_, rfl⟩
  have hmn : m = n := by rw [← hm]; unfold wrap64; omega
  have HM := Aside0.mk (show 0 ≤ m ∧ m < 17592186044416 by omega)
  have d0 : decide (n < 0) = false := decide_eq_false (by omega)
  by_cases hp : 0 < n
  · have d1 : decide (0 < wrap64 n) = true := decide_eq_true (by omega)
    have d2 : decide (0 < n) = true := decide_eq_true hp
    have HW := Aside0.mk (show 0 ≤ wrap64 n ∧ wrap64 n < 17592186044416 by omega)
    clear h0 hn hp hm hmn HM
    go_enter Tryd.func57, Tryd.ntmps57
    go_wp2_with (at_builtin; refine Kd.R_append_zeros (Kd.int .i64) (w0 := w) w.heap.size rfl (.tmp 20) (.tmp 21) 28 3 3 (.int .i64 0) 8 rfl Tryd.underlying28 (k := .i64) Tryd.underlying3 infoCat rfl (by decide) (by omega) (.slice none 0 0) [] 0 (kx := .i64) (wrap64 n) (fun _ => True) rfl rfl rfl (fun _ _ => trivial) (Kd.R_nil _ _ _ _ _) HW.out.1 (Below.refl _ _) (Nat.le_refl _) (by have := HW.out; simp; omega) ?_; intro v1 w1 hr hb hg hat; obtain ⟨A1, c1, rfl⟩ := Kd.R_slice hr; have HR1 := Aside0.mk hr; have HB1 := Aside0.mk hb; clear hr hb hg hat)
    go_ret
    exact ⟨_, rfl, by simpa using Kd.R_take HR1.out (m := 0) (by omega), HB1.out⟩
  · have d1 : decide (0 < wrap64 n) = false := decide_eq_false (by omega)
    have d2 : decide (0 < n) = false := decide_eq_false hp
    clear hp hm hmn
    go_enter Tryd.func57, Tryd.ntmps57
    go_wp2
    go_ret
    exact ⟨_, rfl, Kd.R_nil _ _ _ _ _, Below.refl _ _⟩
theorem catStep (l : List (List Int)) (k : Nat) (h : k < l.length) : (l.take (k + 1)).flatten = (l.take k).flatten ++ l.getD k [] := by
  rw [List.take_succ_eq_append_getElem h, List.flatten_append, List.getD_eq_getElem?_getD, List.getElem?_eq_getElem h]
  simp
theorem catLe (l : List (List Int)) (k : Nat) : ((l.take k).flatten).length ≤ l.flatten.length := by
  conv => rhs; rw [← List.take_append_drop k l]
  rw [List.flatten_append, List.length_append]
  omega
def slices_ConcatInt.f (l0 : List (List Int)) : Option (List Int) := if l0.flatten.length < 17592186044416 then some l0.flatten else none
set_option maxHeartbeats 2000000 in
set_option maxRecDepth 100000 in
theorem slices_ConcatInt.calls [Sent] (A0 : Option Addr) (c0 : Nat) (l0 : List (List Int)) (r : List Int) (w : World) (hr0 : Kd.C (Kd.slice 3 (Kd.int .i64)) w A0 l0.length l0) (hc0 : l0.length ≤ c0) (h : slices_ConcatInt.f l0 = some r) :
    Calls Tryd.prog 35 #[.slice A0 l0.length c0] w fun e w' => ∃ v0_ : Value, e = .returned (v0_) ∧ Kd.R (Kd.int .i64) 3 w' w.heap.size (fun _ => True) v0_ r ∧ Below w.heap.size w w' := by
  unfold slices_ConcatInt.f at h
  by_cases hl : l0.flatten.length < 17592186044416
  · rw [if_pos hl] at h
    obtain rfl := Option.some.inj h
    have hcm := hr0.2.1
    have HR := Aside0.mk hr0
    have HL := Aside0.mk hl
    clear h hr0 hl
    go_enter Tryd.func35, Tryd.ntmps35
    go_wp2
    go_loopw [3, 11] (fun s i w' => ∃ k q : Nat, i = .int .i64 k ∧ s = .int .i64 (q : Int) ∧ Aside0 (k ≤ l0.length ∧ q = ((l0.take k).flatten).length) ∧ w' = w) (fun _ i _ => l0.length - (intOf i).toNat)
    case atStart => exact ⟨0, 0, rfl, rfl, ⟨by omega, by simp⟩, rfl⟩
    case round =>
      obtain ⟨k, q, rfl, rfl, HK, rfl⟩ := hrel
      by_cases hlt : k < l0.length
      · obtain ⟨ad, c, rfl, hcl, ⟨A1, c1, rfl, hle, hC⟩, hcell⟩ := Kd.C_get HR.out [] (k : Int) (by omega) (by omega)
        have x0 := hcell 0 _ rfl
        simp only [Int.toNat_natCast] at x0
        obtain ⟨x, hx⟩ : ∃ x, l0.getD k [] = x := ⟨_, rfl⟩
        rw [hx] at x0
        have x0' : wr.cell? (ad.add k) = some (.slice A1 x.length c1) := by simpa [Kd.slice] using x0
        have hstep := catStep l0 k hlt
        rw [hx] at hstep
        have hle2 := catLe l0 (k + 1)
        rw [hstep, List.length_append] at hle2
        have hq := HK.out.2
        obtain ⟨q', hq'⟩ : ∃ q', q + x.length = q' := ⟨_, rfl⟩
        have hw : wrap64 ((q : Int) + (x.length : Int)) = (q' : Int) := by
          have := HL.out
          unfold wrap64
          omega
        have HQ := Aside0.mk (show q' = ((l0.take (k + 1)).flatten).length by rw [hstep, List.length_append]; omega)
        have d0 : decide (wrap64 ((q : Int) + (x.length : Int)) < 0) = false := decide_eq_false (by rw [hw]; exact Int.not_lt.2 (Int.natCast_nonneg q'))
        have HW := Aside0.mk hw
        have HLT := Aside0.mk hlt
        clear x0 hcell hcl hC hle hstep hle2 hq hq' hx hw
        go_wp2
        go_roundw
        case rel => exact ⟨k + 1, q', by go_num, by rw [HW.out], ⟨HLT.out, HQ.out⟩, by first | rfl | trivial⟩
        case measure => have := HLT.out; simp [intOf]; omega
      · obtain rfl : k = l0.length := by have := HK.out; omega
        have hq := HK.out.2
        rw [List.take_length] at hq
        have HQ := Aside0.mk hq
        clear hq
        go_wp2_with (go_at_call 57; refine (growInt _ _ (by omega) (by have := HL.out; have := HQ.out; omega)).mono ?_; rintro e w1 ⟨v, rfl, hr, hb⟩; have HR1 := Aside0.mk hr; have HB1 := Aside0.mk hb; clear hr hb)
        have hz := Aside0.mk (And.intro HB1.out (show w1.heap.size ≥ wr.heap.size from HB1.out.size))
        go_loopw [6, 27] (fun v i w' => ∃ k : Nat, i = .int .i64 k ∧ Aside0 (k ≤ l0.length) ∧ Aside0 (Kd.R (Kd.int .i64) 3 w' wr.heap.size (fun _ => True) v (l0.take k).flatten) ∧ Aside0 (Below wr.heap.size wr w')) (fun _ i _ => l0.length - (intOf i).toNat)
        case atStart => exact ⟨0, rfl, ⟨by omega⟩, ⟨by simpa using HR1.out⟩, HB1⟩
        case round =>
          obtain ⟨k2, rfl, HK2, HO, HB2⟩ := hrel
          by_cases hlt2 : k2 < l0.length
          · obtain ⟨ad, c, rfl, hcl, ⟨A1, c1, rfl, hle, hC⟩, hcell⟩ := Kd.C_get (Kd.C_below HR.out HB2.out) [] (k2 : Int) (by omega) (by omega)
            have x0 := hcell 0 _ rfl
            simp only [Int.toNat_natCast] at x0 hC hle
            obtain ⟨x, hx⟩ : ∃ x, l0.getD k2 [] = x := ⟨_, rfl⟩
            have hstep := catStep l0 k2 hlt2
            rw [hx] at x0 hC hle hstep
            have x0' := show World.cell? _ (ad.add k2) = some (.slice A1 x.length c1) by simpa [Kd.slice] using x0
            have hle2 := catLe l0 (k2 + 1)
            rw [hstep, List.length_append] at hle2
            have HRoom := Aside0.mk (show (((l0.take k2).flatten).length + x.length) * 8 ≤ 140737488355328 by have := HL.out; omega)
            have HST := Aside0.mk hstep
            have HX := Aside0.mk hC
            have HLT := Aside0.mk hlt2
            clear x0 hcell hcl hC hle hstep hle2 hx hlt
            go_wp2_with (at_builtin; refine Kd.R_append_rows (Kd.int .i64) _ rfl (.tmp 31) (.tmp 32) 28 3 (.int .i64 0) 8 rfl Tryd.underlying28 infoCat rfl (by decide) (by omega) _ ((l0.take k2).flatten) x A1 x.length c1 (fun _ => True) (fun _ => False) rfl rfl HO.out HX.out (fun _ _ h => h) (fun _ h => h.elim) (fun _ _ => trivial) HB2.out HB2.out.size HRoom.out ?_; intro v1 w1 hr hb hg hat; have HO1 := Aside0.mk hr; have HB3 := Aside0.mk hb; clear hr hb hg hat)
            go_roundw
            case rel => exact ⟨k2 + 1, by go_num, ⟨HLT.out⟩, ⟨by rw [HST.out]; exact HO1.out⟩, HB3⟩
            case measure => have := HLT.out; simp [intOf]; omega
          · obtain rfl : k2 = l0.length := by have := HK2.out; omega
            go_wp2
            go_ret
            exact ⟨_, rfl, by simpa using HO.out, HB2.out⟩
  · rw [if_neg hl] at h
    cases h

/-! ### slices_ContainsType: function 36 -/
def noType (k : Int) : Bool := k != 1 && k != 2
theorem noType.calls [Sent] (k : Int) (W : World) : Calls Tryd.prog 37 #[.int .i64 k] W fun e w' => e = .returned (.bool (noType k)) ∧ Below W.heap.size W w' := by
  obtain ⟨r, hr⟩ : ∃ r, noType k = r := ⟨_, rfl⟩
  rw [hr]
  have HR := Aside0.mk hr
  clear hr
  go_enter Tryd.func37, Tryd.ntmps37
  by_cases h1 : k = 1
  · subst h1
    go_wp2
    go_ret
    exact ⟨by rw [← HR.out]; rfl, Below.refl _ _⟩
  · have b1 : (k != 1) = true := by simp [h1]
    clear h1
    go_wp2
    go_ret
    exact ⟨by rw [← HR.out, noType, b1]; rfl, Below.refl _ _⟩
set_option maxHeartbeats 1000000 in
set_option maxRecDepth 100000 in
theorem noType.idx [Sent] (A0 : Option Addr) (c0 : Nat) (l0 : List Int) (r : Int) (w : World) (hr0 : Kd.C (Kd.int .i64) w A0 l0.length l0) (hr : Aside0 (r = idxOf l0 noType)) :
    Calls Tryd.prog 58 #[.slice A0 l0.length c0, .func (.func 37) #[] #[]] w fun e w' => e = .returned (.int .i64 r) ∧ Below w.heap.size w w' := by
  have hcm := hr0.2.1
  have HR := Aside0.mk hr0
  clear hr0
  go_enter Tryd.func58, Tryd.ntmps58
  go_wp2
  go_loopw [5, 8] (fun _ i w' => ∃ k : Nat, i = .int .i64 k ∧ Aside0 (k ≤ l0.length ∧ ∀ j (hj : j < l0.length), j < k → noType l0[j] = false) ∧ Aside0 (Below w.heap.size w w')) (fun _ i _ => l0.length - (intOf i).toNat)
  case atStart => exact ⟨0, rfl, ⟨by omega, fun j hj h => by omega⟩, ⟨Below.refl _ _⟩⟩
  case round =>
    obtain ⟨k, rfl, HK, HB⟩ := hrel
    by_cases hlt : k < l0.length
    · obtain ⟨ad, rfl, x0⟩ := Kd.at_int (Kd.C_below HR.out HB.out) (k : Int) (by omega) (by omega)
      have hrd : rd l0 (k : Int) = l0[k] := by simp [rd, List.getD_eq_getElem?_getD, List.getElem?_eq_getElem hlt]
      rw [hrd] at x0
      simp only [Int.toNat_natCast] at x0
      clear hrd
      go_wp2_with fail
      refine (noType.calls l0[k] _).mono ?_
      rintro e w1 ⟨rfl, hb1⟩
      have HB1 := Aside0.mk (below_step HB.out hb1)
      clear hb1
      cases hc : noType l0[k] with
      | true =>
        have hp := Aside0.mk (idxOf.at_ hlt (fun j hj => HK.out.2 j (by omega) hj) hc)
        obtain rfl : r = (k : Int) := by rw [hr.out, hp.out]
        clear hc
        go_wp2
        go_ret
        exact ⟨rfl, HB1.out⟩
      | false =>
        have hc' := Aside0.mk hc
        clear hc
        go_wp2
        go_roundw
        case rel =>
          refine ⟨k + 1, by go_num, ⟨by omega, fun j hj h => ?_⟩, HB1⟩
          by_cases he : j = k
          · subst he; exact hc'.out
          · exact HK.out.2 j hj (by omega)
        case measure => simp [intOf]; omega
    · have hp := Aside0.mk (idxOf.none_ (l := l0) (p := noType) (fun j hj => HK.out.2 j hj (by omega)))
      obtain rfl : r = -1 := by rw [hr.out, hp.out]
      go_wp2
      go_ret
      exact ⟨rfl, HB.out⟩
def slices_ContainsType.f (l0 : List Int) : Option Bool := some (l0.any noType)
theorem slices_ContainsType.calls [Sent] (A0 : Option Addr) (c0 : Nat) (l0 : List Int) (r : Bool) (w : World) (hr0 : Kd.C (Kd.int .i64) w A0 l0.length l0) (hc0 : l0.length ≤ c0) (h : slices_ContainsType.f l0 = some r) :
    Calls Tryd.prog 36 #[.slice A0 l0.length c0, .func (.func 37) #[] #[]] w fun e w' => e = .returned (.bool r) ∧ Below w.heap.size w w' := by
  obtain rfl := Option.some.inj h
  have hw := Aside0.mk (fun W (hW : Kd.C (Kd.int .i64) W A0 l0.length l0) => noType.idx A0 c0 l0 _ W hW ⟨rfl⟩)
  have HR := Aside0.mk hr0
  have HA := Aside0.mk (idxOf.any l0 noType)
  clear hr0 h
  go_enter Tryd.func36, Tryd.ntmps36
  go_wp2_with fail
  refine (hw.out _ HR.out).mono ?_
  rintro e w1 ⟨rfl, hb⟩
  have HB := Aside0.mk hb
  clear hb
  go_wp2
  go_ret
  exact ⟨by rw [← HA.out]; rfl, HB.out⟩

/-! ### slices_ContainsOut: function 36 -/
def outOf (n : Int) : Bool := decide (n < -1) || decide (1048576 < n)
theorem outOf.calls [Sent] (n : Int) (W : World) : Calls Tryd.prog 38 #[.int .i64 n] W fun e w' => e = .returned (.bool (outOf n)) ∧ Below W.heap.size W w' := by
  obtain ⟨r, hr⟩ : ∃ r, outOf n = r := ⟨_, rfl⟩
  rw [hr]
  have HR := Aside0.mk hr
  clear hr
  go_enter Tryd.func38, Tryd.ntmps38
  by_cases h1 : n < -1
  · have b1 : decide (n < -1) = true := decide_eq_true h1
    clear h1
    go_wp2
    go_ret
    exact ⟨by rw [← HR.out, outOf, b1]; rfl, Below.refl _ _⟩
  · have b1 : decide (n < -1) = false := decide_eq_false h1
    clear h1
    go_wp2
    go_ret
    exact ⟨by rw [← HR.out, outOf, b1]; rfl, Below.refl _ _⟩
set_option maxHeartbeats 1000000 in
set_option maxRecDepth 100000 in
theorem outOf.idx [Sent] (A0 : Option Addr) (c0 : Nat) (l0 : List Int) (r : Int) (w : World) (hr0 : Kd.C (Kd.int .i64) w A0 l0.length l0) (hr : Aside0 (r = idxOf l0 outOf)) :
    Calls Tryd.prog 58 #[.slice A0 l0.length c0, .func (.func 38) #[] #[]] w fun e w' => e = .returned (.int .i64 r) ∧ Below w.heap.size w w' := by
  have hcm := hr0.2.1
  have HR := Aside0.mk hr0
  clear hr0
  go_enter Tryd.func58, Tryd.ntmps58
  go_wp2
  go_loopw [5, 8] (fun _ i w' => ∃ k : Nat, i = .int .i64 k ∧ Aside0 (k ≤ l0.length ∧ ∀ j (hj : j < l0.length), j < k → outOf l0[j] = false) ∧ Aside0 (Below w.heap.size w w')) (fun _ i _ => l0.length - (intOf i).toNat)
  case atStart => exact ⟨0, rfl, ⟨by omega, fun j hj h => by omega⟩, ⟨Below.refl _ _⟩⟩
  case round =>
    obtain ⟨k, rfl, HK, HB⟩ := hrel
    by_cases hlt : k < l0.length
    · obtain ⟨ad, rfl, x0⟩ := Kd.at_int (Kd.C_below HR.out HB.out) (k : Int) (by omega) (by omega)
      have hrd : rd l0 (k : Int) = l0[k] := by simp [rd, List.getD_eq_getElem?_getD, List.getElem?_eq_getElem hlt]
      rw [hrd] at x0
      simp only [Int.toNat_natCast] at x0
      clear hrd
      go_wp2_with fail
      refine (outOf.calls l0[k] _).mono ?_
      rintro e w1 ⟨rfl, hb1⟩
      have HB1 := Aside0.mk (below_step HB.out hb1)
      clear hb1
      cases hc : outOf l0[k] with
      | true =>
        have hp := Aside0.mk (idxOf.at_ hlt (fun j hj => HK.out.2 j (by omega) hj) hc)
        obtain rfl : r = (k : Int) := by rw [hr.out, hp.out]
        clear hc
        go_wp2
        go_ret
        exact ⟨rfl, HB1.out⟩
      | false =>
        have hc' := Aside0.mk hc
        clear hc
        go_wp2
        go_roundw
        case rel =>
          refine ⟨k + 1, by go_num, ⟨by omega, fun j hj h => ?_⟩, HB1⟩
          by_cases he : j = k
          · subst he; exact hc'.out
          · exact HK.out.2 j hj (by omega)
        case measure => simp [intOf]; omega
    · have hp := Aside0.mk (idxOf.none_ (l := l0) (p := outOf) (fun j hj => HK.out.2 j hj (by omega)))
      obtain rfl : r = -1 := by rw [hr.out, hp.out]
      go_wp2
      go_ret
      exact ⟨rfl, HB.out⟩
def slices_ContainsOut.f (l0 : List Int) : Option Bool := some (l0.any outOf)
theorem slices_ContainsOut.calls [Sent] (A0 : Option Addr) (c0 : Nat) (l0 : List Int) (r : Bool) (w : World) (hr0 : Kd.C (Kd.int .i64) w A0 l0.length l0) (hc0 : l0.length ≤ c0) (h : slices_ContainsOut.f l0 = some r) :
    Calls Tryd.prog 36 #[.slice A0 l0.length c0, .func (.func 38) #[] #[]] w fun e w' => e = .returned (.bool r) ∧ Below w.heap.size w w' := by
  obtain rfl := Option.some.inj h
  have hw := Aside0.mk (fun W (hW : Kd.C (Kd.int .i64) W A0 l0.length l0) => outOf.idx A0 c0 l0 _ W hW ⟨rfl⟩)
  have HR := Aside0.mk hr0
  have HA := Aside0.mk (idxOf.any l0 outOf)
  clear hr0 h
  go_enter Tryd.func36, Tryd.ntmps36
  go_wp2_with fail
  refine (hw.out _ HR.out).mono ?_
  rintro e w1 ⟨rfl, hb⟩
  have HB := Aside0.mk hb
  clear hb
  go_wp2
  go_ret
  exact ⟨by rw [← HA.out]; rfl, HB.out⟩

end Go.Proofs.YtjccbolnjnefiaaDoor.KTCodeBounds

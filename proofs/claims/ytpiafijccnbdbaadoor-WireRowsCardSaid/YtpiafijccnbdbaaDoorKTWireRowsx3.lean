/- By a program of this session (kprint.py) over the printer: functions of the code as plain Lean functions, and the walks that say so. -/
import Derived.Test.YtpiafijccnbdbaaDoorKTWireRowsx0
import Derived.Test.YtpiafijccnbdbaaDoorKTWireRowsx1
import Derived.Test.YtpiafijccnbdbaaDoorKTWireRowsx2
namespace Go.Proofs.YtpiafijccnbdbaaDoor.KTWireRows
open Go.RowKit Go.Proofs.YtpiafijccnbdbaaDoorW.PrintWords Go.Proofs.YtpiafijccnbdbaaDoorW.PrintLast Go.Proofs.YtpiafijccnbdbaaDoorW.PrintMore
attribute [local go_sem] max2_int min2_int max_two min_two max_three min_three max_four min_four   -- for this text's walks alone
set_option linter.unusedVariables false
set_option linter.unusedSimpArgs false

/-! ### wire_PutText: function 21 -/
def wire_PutText.f (k : Nat) (l0 : List Int) (a1 : ByteArray) : Option (List Int) := (slices_CloneU8.f l0).bind fun t139 => ((wire_put.f k t139 (a1.size : Int)).bind fun t142 => (if t142.length + a1.size < 140737488355328 then (some (t142 ++ bytesOf a1)) else (none)))
theorem wire_PutText.mono : ∀ a0 a1 k, LeO (wire_PutText.f k a0 a1) (wire_PutText.f (k + 1) a0 a1) := by
  intro a0 a1 k
  unfold wire_PutText.f
  repeat' first
      | (with_reducible exact wire_put.mono _ _ _)
      | (with_reducible exact LeO.refl _)
      | (with_reducible exact LeO.none _)
      | (with_reducible refine LeO.ite ?_ ?_)
      | (with_reducible refine LeO.bind ?_ (fun _ => ?_))
      | exact wire_put.mono _ _ _
      | exact LeO.none _
      | refine LeO.ite ?_ ?_
      | refine LeO.bind ?_ (fun _ => ?_)
set_option maxHeartbeats 8000000 in
set_option maxRecDepth 100000 in
theorem wire_PutText.calls [Sent] (k : Nat) (A0 : Option Addr) (c0 : Nat) (l0 : List Int) (a1 : ByteArray) (r : List Int) (w : World) (hr0 : Kd.C (Kd.int .u8) w A0 l0.length l0) (hc0 : l0.length ≤ c0) (h : wire_PutText.f k l0 a1 = some r) :
    Calls Tryd.prog 21 #[.slice A0 l0.length c0, .string a1] w fun e w' => ∃ v0_ : Value, e = .returned (v0_) ∧ Kd.R (Kd.int .u8) 5 w' w.heap.size (fun _ => True) v0_ r ∧ Below w.heap.size w w' := by
  have HR0 := Aside0.mk hr0
  have HC0 := Aside0.mk hc0
  clear hr0 hc0
  have HB := Aside0.mk (Below.refl w.heap.size w)
  have H : ((slices_CloneU8.f l0).bind fun t139 => ((wire_put.f k t139 (a1.size : Int)).bind fun t142 => (if t142.length + a1.size < 140737488355328 then (some (t142 ++ bytesOf a1)) else (none)))) = some r := h
  clear h
  replace H := Option.bind_eq_some_iff.mp H
  obtain ⟨t139, A30, H⟩ := H
  replace H : ((wire_put.f k t139 (a1.size : Int)).bind fun t142 => (if t142.length + a1.size < 140737488355328 then (some (t142 ++ bytesOf a1)) else (none))) = some r := H
  have A3 := Aside0.mk A30
  clear A30
  replace H := Option.bind_eq_some_iff.mp H
  obtain ⟨t142, A40, H⟩ := H
  replace H : (if t142.length + a1.size < 140737488355328 then (some (t142 ++ bytesOf a1)) else (none)) = some r := H
  have A4 := Aside0.mk A40
  clear A40
  by_cases c5 : t142.length + a1.size < 140737488355328
  · rw [if_pos c5] at H
    have LMc5 := Aside0.mk c5
    clear c5
    obtain ⟨y145, hy145⟩ : ∃ y_ : List Int, y_ = (t142 ++ bytesOf a1) := ⟨_, rfl⟩
    replace H : (some y145) = some r := by first | (rw [hy145]; with_reducible exact H) | (have H2_ := (Option.bind_some _ _).symm.trans H; rw [hy145]; with_reducible exact H2_) | (have H2_ := (Option.bind_some _ _).symm.trans H; with_reducible exact H2_) | with_reducible exact H | (rw [hy145]; exact H) | exact H
    have Ny145 := Aside0.mk hy145
    clear hy145
    obtain rfl := Option.some.inj H
    simp only [Option.some.injEq, Prod.mk.injEq] at H
    obtain ⟨rfl⟩ := H
    go_enter Tryd.func21, Tryd.ntmps21
    go_wp2_with (first | ((with_reducible refine gate_callee (f := 27) rfl ?_); refine goesL_ (some 6) rfl rfl Tryd.func27 (by kernel_rfl) rfl #[.slice A0 l0.length c0] rfl (by (try simp only [List.map_toArray, List.map_cons, List.map_nil]); first | done | rfl | (simp only [List.length_drop, List.length_take]; rfl)) ?_; (with_reducible refine (slices_CloneU8.calls _ _ l0 t139 _ ?side1 ?side2 A3.out).mono ?_); (case side1 => repeat (first | exact HR0.out | (with_reducible refine Kd.C_alloc ?_ _) | (with_reducible refine Kd.C_drewN ?_ _) | (with_reducible refine Kd.C_drew ?_))); (case side2 => exact HC0.out); rintro e w6 ⟨v140, rfl, ho0, hb⟩; refine ⟨_, rfl, ?_⟩; have n0_ := Aside0.mk (Kd.R_lower ho0 (below_size (by repeat (first | (with_reducible first | exact HB.out | apply below_alloc | apply pw_below_drewN | apply below_drew1) | exact HB.out)))); have n1_ := Aside0.mk (below_step (by repeat (first | (with_reducible first | exact HB.out | apply below_alloc | apply pw_below_drewN | apply below_drew1) | exact HB.out)) hb); clear HB; have HO141 := n0_; have HB := n1_; clear n0_ n1_; (try clear hb); (try clear hb2); (try clear hk); (try clear hi); (try clear ho0); obtain ⟨Ao7, co7, eo7⟩ := Kd.R_slice HO141.out; subst eo7) | ((with_reducible refine gate_callee (f := 26) rfl ?_); refine goesL_ (some 9) rfl rfl Tryd.func26 (by kernel_rfl) rfl #[.slice Ao7 t139.length co7, .int .i64 (a1.size : Int)] rfl (by (try simp only [List.map_toArray, List.map_cons, List.map_nil]); first | done | rfl | (simp only [List.length_drop, List.length_take]; rfl)) ?_; (with_reducible refine (wire_put.calls k (fun k_ => some k_ = (.slice Ao7 t139.length co7 : Value).ownBlock) (.slice Ao7 t139.length co7) t139 (a1.size : Int) t142 w _ ?side1 ?side2 A4.out).mono ?_); (case side1 => repeat (first | (with_reducible first | exact HB.out | apply below_alloc | apply pw_below_drewN | apply below_drew1) | exact HB.out)); (case side2 => exact Kd.R_tight rfl HO141.out); rintro e w8 ⟨v143, rfl, ho0, hb, hkp⟩; refine ⟨_, rfl, ?_⟩; have n0_ := Aside0.mk (Kd.R_mono (ok' := fun k_ => True) ho0 (fun k_ hk_ => trivial)); have n1_ := Aside0.mk (hb); clear HB; clear HO141; have HO144 := n0_; have HB := n1_; clear n0_ n1_; (try clear hb); (try clear hkp); (try clear ho0)) | (at_builtin; refine print_append_str (w0 := w) w.heap.size rfl (.tmp 9) _ 23 9 5 rfl Tryd.underlying23 Tryd.underlying9 info5 v143 t142 a1 rfl rfl ?aO ?aB ?aS ?aL ?_; (case aB => exact (by repeat (first | (with_reducible first | exact HB.out | apply below_alloc | apply pw_below_drewN | apply below_drew1) | exact HB.out))); (case aO => exact (Kd.own_of_R (by (with_reducible repeat (first | apply Kd.R_alloc | apply Kd.R_drewN | apply Kd.R_drew)); exact HO144.out))); (case aS => exact (below_size (by repeat (first | (with_reducible first | exact HB.out | apply below_alloc | apply pw_below_drewN | apply below_drew1) | exact HB.out)))); (case aL => have := LMc5.out; omega); intro v146 w9 ho0 hb hg; have ho := Kd.R_of_own (h1 := fun _ => rfl) (ok := fun _ => True) ho0 (fun _ _ => trivial); clear ho0; have hat := True.intro; rw [← Ny145.out] at ho; change Kd.R (Kd.int .u8) 5 w9 w.heap.size (fun _ => True) v146 y145 at ho; have n0_ := Aside0.mk (hb); have n1_ := Aside0.mk (ho); clear HB; clear HO144; have HB := n0_; have HO147 := n1_; clear n0_ n1_; clear ho hb hg hat))
    go_ret
    exact ⟨_, by first | rfl | (simp [errW_none, errW_some] <;> rfl) | (simp [*, errW_none, errW_some] <;> rfl), by (with_reducible repeat (first | apply Kd.R_alloc | apply Kd.R_drewN | apply Kd.R_drew)); exact HO147.out, by repeat (first | (with_reducible first | exact HB.out | apply below_alloc | apply pw_below_drewN | apply below_drew1) | exact HB.out)⟩
  · rw [if_neg c5] at H
    exact absurd H (by simp)

/-! ### wire_Text: function 24 -/
def wire_Text.f (f0 : List Int) (f1 : Int) (f2 : Option (Int × Int)) (a1 : Int) : Option (ByteArray × Int × Option (Int × Int)) :=
  (wire_Num.f f0 f1 f2 0 a1).map fun x => if x.2.2.isSome = true then (⟨#[]⟩, x.2) else
    if (f0.length : Int) - x.2.1 < x.1 then (⟨#[]⟩, f1, some (f1, 101)) else
    (strOfNums ((f0.take (x.2.1 + x.1).toNat).drop x.2.1.toNat), x.2.1 + x.1, none)
theorem scan_snd : ∀ (l : List Int) (i : Nat) (z : Int), (scan l i z).1 ≠ 0 → (scan l i z).2.1 = 0
  | [], i, z => by simp [scan]
  | c :: l, i, z => by
    rw [scan]
    have ih := scan_snd l (i + 1) (z + c % 128 * 128 ^ i)
    split
    · simp
    · split
      · exact ih
      · split <;> simp
theorem wire_Num_pos (f0 : List Int) (f1 : Int) (f2 : Option (Int × Int)) (a1 n at2 : Int) (er2 : Option (Int × Int)) (h : wire_Num.f f0 f1 f2 0 a1 = some (n, at2, er2)) : er2 = none → 0 ≤ n := by
  unfold wire_Num.f at h
  rintro rfl
  split at h
  · rename_i h1
    simp only [Option.some.injEq, Prod.mk.injEq] at h
    rw [h.2.2] at h1
    cases h1
  · split at h
    · simp only [Option.some.injEq, Prod.mk.injEq] at h
      cases h.2.2
    · split at h
      · simp only [Option.some.injEq, Prod.mk.injEq] at h
        cases h.2.2
      · rename_i h1
        simp only [Option.some.injEq, Prod.mk.injEq] at h
        omega
set_option maxRecDepth 100000 in
set_option maxHeartbeats 2000000 in
theorem wire_Text.calls [Sent] (g : Nat) (f0 : List Int) (f1 : Int) (f2 : Option (Int × Int)) (a1 : Int) (r : ByteArray) (r2 : Int) (r3 : Option (Int × Int)) (w0 w : World) (hI : IsS50 w0 w g f0 f1 f2) (hB : Below w0.heap.size w0 w) (hG : GlobW w) (h : wire_Text.f f0 f1 f2 a1 = some (r, r2, r3)) :
    Calls Tryd.prog 24 #[.pointer (some ⟨g, 0, none⟩), .int .i64 a1] w fun e w' => e = .returned (.string r) ∧ IsS50 w0 w' g f0 r2 r3 ∧ Below w0.heap.size w0 w' ∧ KeepBut w w' g none := by
  obtain ⟨⟨n, at2, er2⟩, hx, he⟩ := Option.map_eq_some_iff.1 h
  simp only at he
  have HX := Aside0.mk hx
  have HI := Aside0.mk hI
  have HB := Aside0.mk hB
  have HG := Aside0.mk hG
  have HP := Aside0.mk hI.pos
  have HNP := Aside0.mk (wire_Num_pos f0 f1 f2 a1 n at2 er2 hx)
  obtain ⟨v0, A2, hb, _, hr, -⟩ := hI
  have HL := Aside0.mk (show f0.length ≤ 9223372036854775807 from by obtain ⟨A0, c0, rfl⟩ := Kd.R_slice hr; exact (Kd.R_reads' hr).2.2.2.1)
  have m1 := blk_cell hb 1
  simp at m1
  clear h hx hB hG hb hr
  cases er2 with
  | some x =>
    simp only [Option.isSome_some, if_true, Prod.mk.injEq] at he
    obtain ⟨rfl, rfl, rfl⟩ := he
    go_enter Tryd.func24, Tryd.ntmps24
    go_wp2_with (go_at_call 14; refine (wire_Num.calls g f0 f1 f2 0 a1 n at2 (some x) w0 _ HI.out HB.out HG.out HX.out).mono ?_; rintro e w1 ⟨rfl, hi, hb, hk⟩; have HI1 := Aside0.mk hi; have HB1 := Aside0.mk hb; have HK1 := Aside0.mk hk; clear hb hk; obtain ⟨v1, A1, hb1, hg1, hr1, he1, hp1⟩ := hi; have HBK1 := Aside0.mk hb1; have HR1 := Aside0.mk hr1; have HP1 := Aside0.mk hp1; have HG1 := Aside0.mk hg1; have m2 := blk_cell hb1 2; simp [errU] at m2; have p1 := blk_cell hb1 1; simp at p1; have fr1 := blk_frozen hb1 1; clear hb1 hr1 hp1 he1 hg1)
    go_ret
    exact ⟨rfl, HI1.out, HB1.out, HK1.out⟩
  | none =>
    simp only [Option.isSome_none, Bool.false_eq_true, if_false] at he
    by_cases hlt : (f0.length : Int) - at2 < n
    · rw [if_pos hlt] at he
      simp only [Prod.mk.injEq] at he
      obtain ⟨rfl, rfl, rfl⟩ := he
      have d1 : decide ((f0.length : Int) - at2 < n) = true := decide_eq_true hlt
      have hgl := (HG.out.1 (101, 1) (by decide)).1
      clear hlt
      go_enter Tryd.func24, Tryd.ntmps24
      go_wp2_with (go_at_call 14; refine (wire_Num.calls g f0 f1 f2 0 a1 n at2 none w0 _ HI.out HB.out HG.out HX.out).mono ?_; rintro e w1 ⟨rfl, hi, hb, hk⟩; have HI1 := Aside0.mk hi; have HB1 := Aside0.mk hb; have HK1 := Aside0.mk hk; clear hb hk; obtain ⟨v1, A1, hb1, hg1, hr1, he1, hp1⟩ := hi; have HBK1 := Aside0.mk hb1; have HR1 := Aside0.mk hr1; have HP1 := Aside0.mk hp1; have HG1 := Aside0.mk hg1; have m2 := blk_cell hb1 2; simp [errU] at m2; have p1 := blk_cell hb1 1; simp at p1; have fr1 := blk_frozen hb1 1; clear hb1 hr1 hp1 he1 hg1)
      refine (wire_Left.calls g f0 at2 none ((f0.length : Int) - at2) at2 none w0 _ HI1.out HB1.out rfl).mono ?_
      rintro e w2 ⟨rfl, hi, hb, hk⟩
      have HI2 := Aside0.mk hi
      have HB2 := Aside0.mk hb
      have HK2 := Aside0.mk (HK1.out.trans hk (.inl rfl))
      clear hb hk
      obtain ⟨v2, A2', hb1, hg1, hr1, he1, hp1⟩ := hi
      have q1 := blk_cell hb1 1
      simp at q1
      have fr2 := blk_frozen hb1 1
      have HG2 := Aside0.mk (HG.out.keepR HI.out HI2.out HK2.out)
      have HI3 := Aside0.mk (HI2.out.setAt f1 HP.out.1 HP.out.2.1)
      have hgl := ((HG2.out.keepR HI2.out HI3.out (KeepBut.set_ (KeepBut.refl _ _ _) 1 _)).1 (101, 1) (by decide)).1
      have HB3 := Aside0.mk (below_set (j := 1) (v := .int .i64 f1) HB2.out hg1)
      clear hg1 hp1
      clear hb1 hr1 he1
      go_wp2_with (go_at_call 29; refine (wire_fail g f0 f1 none 101 w0 _ HI3.out HB3.out).mono ?_; rintro e w4 ⟨rfl, hi, hb, hk⟩; have HI4 := Aside0.mk hi; have HB4 := Aside0.mk hb; have HK4 := Aside0.mk hk; clear hi hb hk)
      go_ret
      exact ⟨rfl, HI4.out, HB4.out, (HK2.out.set_ 1 _).trans HK4.out (.inl rfl)⟩
    · rw [if_neg hlt] at he
      simp only [Prod.mk.injEq] at he
      obtain ⟨rfl, rfl, rfl⟩ := he
      have d1 : decide ((f0.length : Int) - at2 < n) = false := decide_eq_false hlt
      have HLT := Aside0.mk hlt
      clear hlt
      go_enter Tryd.func24, Tryd.ntmps24
      go_wp2_with (go_at_call 14; refine (wire_Num.calls g f0 f1 f2 0 a1 n at2 none w0 _ HI.out HB.out HG.out HX.out).mono ?_; rintro e w1 ⟨rfl, hi, hb, hk⟩; have HI1 := Aside0.mk hi; have HB1 := Aside0.mk hb; have HK1 := Aside0.mk hk; clear hb hk; obtain ⟨v1, A1, hb1, hg1, hr1, he1, hp1⟩ := hi; have HBK1 := Aside0.mk hb1; have HR1 := Aside0.mk hr1; have HP1 := Aside0.mk hp1; have HG1 := Aside0.mk hg1; have m2 := blk_cell hb1 2; simp [errU] at m2; have p1 := blk_cell hb1 1; simp at p1; have fr1 := blk_frozen hb1 1; clear hb1 hr1 hp1 he1 hg1)
      refine (wire_Left.calls g f0 at2 none ((f0.length : Int) - at2) at2 none w0 _ HI1.out HB1.out rfl).mono ?_
      rintro e w2 ⟨rfl, hi, hb, hk⟩
      have HI2 := Aside0.mk hi
      have HB2 := Aside0.mk hb
      have HK2 := Aside0.mk (HK1.out.trans hk (.inl rfl))
      clear hb hk
      obtain ⟨v2, A2', hb1, hg1, hr1, he1, hp1⟩ := hi
      have q1 := blk_cell hb1 1
      simp at q1
      have fr2 := blk_frozen hb1 1
      have hp2 := hp1
      have HI3 := Aside0.mk (HI2.out.setAt (at2 + n) (by have := hp1.1; have := HNP.out trivial; omega) (by have := HLT.out; omega))
      have HB3 := Aside0.mk (below_set (j := 1) (v := .int .i64 (at2 + n)) HB2.out hg1)
      obtain ⟨A0, c0, rfl⟩ := Kd.R_slice hr1
      have hr3 := Kd.R_far (p := ⟨g, 1, none⟩) hr1 (fun k hk e => Kd.R_ne hr1 hb1 (by decide) (by subst e; exact hk)) (.int .i64 (at2 + n))
      obtain ⟨i0, hi0, _, hsz, _⟩ := info_parts info5
      obtain ⟨A', hcut, hA, -⟩ := print_mid_of (P := Tryd.prog) (Value.int .u8) 0 23 5 .i64 .i64 Tryd.underlying23 hi0 hsz A0 c0 f0 at2 (at2 + n) hp1.1 (by have := HNP.out trivial; omega) (by have := HLT.out; omega) (Kd.R_reads' hr1).2.1
      have hconv := Kd.C_string (c := c0 - at2.toNat) Tryd.underlying23 Tryd.underlying5 Tryd.underlying9 (Kd.C_drew (Kd.C_of_reads (h1 := fun _ => rfl) (hA _ (Kd.reads_of_C (enc := Value.int .u8) (d := (0 : Int)) (h1 := fun _ => rfl) (Kd.R_reads' hr3).2.2))))
      simp only [List.length_drop, List.length_take] at hconv
      have q0 := blk_cell (blk_set hb1 1 (.int .i64 (at2 + n))) 0
      have q1' := blk_cell (blk_set hb1 1 (.int .i64 (at2 + n))) 1
      simp at q0 q1'
      have hw1 : wrap64 (at2 + n) = at2 + n := by (have := HLT.out; have := HL.out; have := hp1.1; have := HNP.out trivial; unfold wrap64; omega)
      have hw2 : wrap64 at2 = at2 := by (have := HLT.out; have := HL.out; have := hp1.1; have := HNP.out trivial; unfold wrap64; omega)
      clear hr3 hA hi0 hsz hg1 hp1 hp2
      clear hb1 hr1 he1
      go_wp2
      go_region
      all_goals go_wp2
      go_ret
      exact ⟨rfl, HI3.out.drew, below_drew HB3.out, keep_drew (HK2.out.set_ 1 _)⟩

end Go.Proofs.YtpiafijccnbdbaaDoor.KTWireRows

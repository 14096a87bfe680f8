/- By a program of this session (kprint.py) over the printer: functions of the code as plain Lean functions, and the walks that say so. -/
import Derived.Test.YtpiafijccnbdbaaDoorKTWireRangesx0
import Derived.Test.YtpiafijccnbdbaaDoorKTWireRangesx1
import Derived.Test.YtpiafijccnbdbaaDoorKTWireRangesx2
namespace Go.Proofs.YtpiafijccnbdbaaDoor.KTWireRanges
open Go.RowKit Go.Proofs.YtpiafijccnbdbaaDoorW.PrintWords Go.Proofs.YtpiafijccnbdbaaDoorW.PrintLast Go.Proofs.YtpiafijccnbdbaaDoorW.PrintMore
attribute [local go_sem] max2_int min2_int max_two min_two max_three min_three max_four min_four   -- for this text's walks alone
set_option linter.unusedVariables false
set_option linter.unusedSimpArgs false

/-! ### wire_Text: function 24 -/
def wire_Text.f (f0 : List Int) (f1 : Int) (f2 : Option (Int × Int)) (a1 : Int) : Option (ByteArray × Int × Option (Int × Int)) :=
  (wire_Num.f f0 f1 f2 0 a1).map fun x => if x.2.2.isSome = true then (⟨#[]⟩, x.2) else
    if (f0.length : Int) - x.2.1 < x.1 then (⟨#[]⟩, f1, some (f1, 101)) else
    (strOfNums ((f0.take (x.2.1 + x.1).toNat).drop x.2.1.toNat), x.2.1 + x.1, none)
theorem scan_snd : ∀ (l : List Int) (i : Nat) (z : Int), (scan l i z).1 ≠ 0 → (scan l i z).2.1 = 0
  | [], i, z => by simp [scan]
  | c :: l, i, z => by
    rw [scan]
    have ih := scan_snd l (i + 1) (z + c % 128 * 128 ^ i)
    split
    · simp
    · split
      · exact ih
      · split <;> simp
theorem wire_Num_pos (f0 : List Int) (f1 : Int) (f2 : Option (Int × Int)) (a1 n at2 : Int) (er2 : Option (Int × Int)) (h : wire_Num.f f0 f1 f2 0 a1 = some (n, at2, er2)) : er2 = none → 0 ≤ n := by
  unfold wire_Num.f at h
  rintro rfl
  split at h
  · rename_i h1
    simp only [Option.some.injEq, Prod.mk.injEq] at h
    rw [h.2.2] at h1
    cases h1
  · split at h
    · simp only [Option.some.injEq, Prod.mk.injEq] at h
      cases h.2.2
    · split at h
      · simp only [Option.some.injEq, Prod.mk.injEq] at h
        cases h.2.2
      · rename_i h1
        simp only [Option.some.injEq, Prod.mk.injEq] at h
        omega
set_option maxRecDepth 100000 in
set_option maxHeartbeats 2000000 in
theorem wire_Text.calls [Sent] (g : Nat) (f0 : List Int) (f1 : Int) (f2 : Option (Int × Int)) (a1 : Int) (r : ByteArray) (r2 : Int) (r3 : Option (Int × Int)) (w0 w : World) (hI : IsS50 w0 w g f0 f1 f2) (hB : Below w0.heap.size w0 w) (hG : GlobW w) (h : wire_Text.f f0 f1 f2 a1 = some (r, r2, r3)) :
    Calls Tryd.prog 24 #[.pointer (some ⟨g, 0, none⟩), .int .i64 a1] w fun e w' => e = .returned (.string r) ∧ IsS50 w0 w' g f0 r2 r3 ∧ Below w0.heap.size w0 w' ∧ KeepBut w w' g none := by
  obtain ⟨⟨n, at2, er2⟩, hx, he⟩ := Option.map_eq_some_iff.1 h
  simp only at he
  have HX := Aside0.mk hx
  have HI := Aside0.mk hI
  have HB := Aside0.mk hB
  have HG := Aside0.mk hG
  have HP := Aside0.mk hI.pos
  have HNP := Aside0.mk (wire_Num_pos f0 f1 f2 a1 n at2 er2 hx)
  obtain ⟨v0, A2, hb, _, hr, -⟩ := hI
  have HL := Aside0.mk (show f0.length ≤ 9223372036854775807 from by obtain ⟨A0, c0, rfl⟩ := Kd.R_slice hr; exact (Kd.R_reads' hr).2.2.2.1)
  have m1 := blk_cell hb 1
  simp at m1
  clear h hx hB hG hb hr
  cases er2 with
  | some x =>
    simp only [Option.isSome_some, if_true, Prod.mk.injEq] at he
    obtain ⟨rfl, rfl, rfl⟩ := he
    go_enter Tryd.func24, Tryd.ntmps24
    go_wp2_with (go_at_call 14; refine (wire_Num.calls g f0 f1 f2 0 a1 n at2 (some x) w0 _ HI.out HB.out HG.out HX.out).mono ?_; rintro e w1 ⟨rfl, hi, hb, hk⟩; have HI1 := Aside0.mk hi; have HB1 := Aside0.mk hb; have HK1 := Aside0.mk hk; clear hb hk; obtain ⟨v1, A1, hb1, hg1, hr1, he1, hp1⟩ := hi; have HBK1 := Aside0.mk hb1; have HR1 := Aside0.mk hr1; have HP1 := Aside0.mk hp1; have HG1 := Aside0.mk hg1; have m2 := blk_cell hb1 2; simp [errU] at m2; have p1 := blk_cell hb1 1; simp at p1; have fr1 := blk_frozen hb1 1; clear hb1 hr1 hp1 he1 hg1)
    go_ret
    exact ⟨rfl, HI1.out, HB1.out, HK1.out⟩
  | none =>
    simp only [Option.isSome_none, Bool.false_eq_true, if_false] at he
    by_cases hlt : (f0.length : Int) - at2 < n
    · rw [if_pos hlt] at he
      simp only [Prod.mk.injEq] at he
      obtain ⟨rfl, rfl, rfl⟩ := he
      have d1 : decide ((f0.length : Int) - at2 < n) = true := decide_eq_true hlt
      have hgl := (HG.out.1 (101, 1) (by decide)).1
      clear hlt
      go_enter Tryd.func24, Tryd.ntmps24
      go_wp2_with (go_at_call 14; refine (wire_Num.calls g f0 f1 f2 0 a1 n at2 none w0 _ HI.out HB.out HG.out HX.out).mono ?_; rintro e w1 ⟨rfl, hi, hb, hk⟩; have HI1 := Aside0.mk hi; have HB1 := Aside0.mk hb; have HK1 := Aside0.mk hk; clear hb hk; obtain ⟨v1, A1, hb1, hg1, hr1, he1, hp1⟩ := hi; have HBK1 := Aside0.mk hb1; have HR1 := Aside0.mk hr1; have HP1 := Aside0.mk hp1; have HG1 := Aside0.mk hg1; have m2 := blk_cell hb1 2; simp [errU] at m2; have p1 := blk_cell hb1 1; simp at p1; have fr1 := blk_frozen hb1 1; clear hb1 hr1 hp1 he1 hg1)
      refine (wire_Left.calls g f0 at2 none ((f0.length : Int) - at2) at2 none w0 _ HI1.out HB1.out rfl).mono ?_
      rintro e w2 ⟨rfl, hi, hb, hk⟩
      have HI2 := Aside0.mk hi
      have HB2 := Aside0.mk hb
      have HK2 := Aside0.mk (HK1.out.trans hk (.inl rfl))
      clear hb hk
      obtain ⟨v2, A2', hb1, hg1, hr1, he1, hp1⟩ := hi
      have q1 := blk_cell hb1 1
      simp at q1
      have fr2 := blk_frozen hb1 1
      have HG2 := Aside0.mk (HG.out.keepR HI.out HI2.out HK2.out)
      have HI3 := Aside0.mk (HI2.out.setAt f1 HP.out.1 HP.out.2.1)
      have hgl := ((HG2.out.keepR HI2.out HI3.out (KeepBut.set_ (KeepBut.refl _ _ _) 1 _)).1 (101, 1) (by decide)).1
      have HB3 := Aside0.mk (below_set (j := 1) (v := .int .i64 f1) HB2.out hg1)
      clear hg1 hp1
      clear hb1 hr1 he1
      go_wp2_with (go_at_call 29; refine (wire_fail g f0 f1 none 101 w0 _ HI3.out HB3.out).mono ?_; rintro e w4 ⟨rfl, hi, hb, hk⟩; have HI4 := Aside0.mk hi; have HB4 := Aside0.mk hb; have HK4 := Aside0.mk hk; clear hi hb hk)
      go_ret
      exact ⟨rfl, HI4.out, HB4.out, (HK2.out.set_ 1 _).trans HK4.out (.inl rfl)⟩
    · rw [if_neg hlt] at he
      simp only [Prod.mk.injEq] at he
      obtain ⟨rfl, rfl, rfl⟩ := he
      have d1 : decide ((f0.length : Int) - at2 < n) = false := decide_eq_false hlt
      have HLT := Aside0.mk hlt
      clear hlt
      go_enter Tryd.func24, Tryd.ntmps24
      go_wp2_with (go_at_call 14; refine (wire_Num.calls g f0 f1 f2 0 a1 n at2 none w0 _ HI.out HB.out HG.out HX.out).mono ?_; rintro e w1 ⟨rfl, hi, hb, hk⟩; have HI1 := Aside0.mk hi; have HB1 := Aside0.mk hb; have HK1 := Aside0.mk hk; clear hb hk; obtain ⟨v1, A1, hb1, hg1, hr1, he1, hp1⟩ := hi; have HBK1 := Aside0.mk hb1; have HR1 := Aside0.mk hr1; have HP1 := Aside0.mk hp1; have HG1 := Aside0.mk hg1; have m2 := blk_cell hb1 2; simp [errU] at m2; have p1 := blk_cell hb1 1; simp at p1; have fr1 := blk_frozen hb1 1; clear hb1 hr1 hp1 he1 hg1)
      refine (wire_Left.calls g f0 at2 none ((f0.length : Int) - at2) at2 none w0 _ HI1.out HB1.out rfl).mono ?_
      rintro e w2 ⟨rfl, hi, hb, hk⟩
      have HI2 := Aside0.mk hi
      have HB2 := Aside0.mk hb
      have HK2 := Aside0.mk (HK1.out.trans hk (.inl rfl))
      clear hb hk
      obtain ⟨v2, A2', hb1, hg1, hr1, he1, hp1⟩ := hi
      have q1 := blk_cell hb1 1
      simp at q1
      have fr2 := blk_frozen hb1 1
      have hp2 := hp1
      have HI3 := Aside0.mk (HI2.out.setAt (at2 + n) (by have := hp1.1; have := HNP.out trivial; omega) (by have := HLT.out; omega))
      have HB3 := Aside0.mk (below_set (j := 1) (v := .int .i64 (at2 + n)) HB2.out hg1)
      obtain ⟨A0, c0, rfl⟩ := Kd.R_slice hr1
      have hr3 := Kd.R_far (p := ⟨g, 1, none⟩) hr1 (fun k hk e => Kd.R_ne hr1 hb1 (by decide) (by subst e; exact hk)) (.int .i64 (at2 + n))
      obtain ⟨i0, hi0, _, hsz, _⟩ := info_parts info5
      obtain ⟨A', hcut, hA, -⟩ := print_mid_of (P := Tryd.prog) (Value.int .u8) 0 23 5 .i64 .i64 Tryd.underlying23 hi0 hsz A0 c0 f0 at2 (at2 + n) hp1.1 (by have := HNP.out trivial; omega) (by have := HLT.out; omega) (Kd.R_reads' hr1).2.1
      have hconv := Kd.C_string (c := c0 - at2.toNat) Tryd.underlying23 Tryd.underlying5 Tryd.underlying9 (Kd.C_drew (Kd.C_of_reads (h1 := fun _ => rfl) (hA _ (Kd.reads_of_C (enc := Value.int .u8) (d := (0 : Int)) (h1 := fun _ => rfl) (Kd.R_reads' hr3).2.2))))
      simp only [List.length_drop, List.length_take] at hconv
      have q0 := blk_cell (blk_set hb1 1 (.int .i64 (at2 + n))) 0
      have q1' := blk_cell (blk_set hb1 1 (.int .i64 (at2 + n))) 1
      simp at q0 q1'
      have hw1 : wrap64 (at2 + n) = at2 + n := by (have := HLT.out; have := HL.out; have := hp1.1; have := HNP.out trivial; unfold wrap64; omega)
      have hw2 : wrap64 at2 = at2 := by (have := HLT.out; have := HL.out; have := hp1.1; have := HNP.out trivial; unfold wrap64; omega)
      clear hr3 hA hi0 hsz hg1 hp1 hp2
      clear hb1 hr1 he1
      go_wp2
      go_region
      all_goals go_wp2
      go_ret
      exact ⟨rfl, HI3.out.drew, below_drew HB3.out, keep_drew (HK2.out.set_ 1 _)⟩

/-! ### wire_Bool: function 25 -/
def wire_Bool.f (f0 : List Int) (f1 : Int) (f2 : Option (Int × Int)) : Option (Bool × Int × Option (Int × Int)) := (wire_Num.f f0 f1 f2 0 1).map fun x => (x.1 == 1, x.2)
theorem wire_Bool.calls [Sent] (g : Nat) (f0 : List Int) (f1 : Int) (f2 : Option (Int × Int)) (r : Bool) (r2 : Int) (r3 : Option (Int × Int)) (w0 w : World) (hI : IsS50 w0 w g f0 f1 f2) (hB : Below w0.heap.size w0 w) (hG : GlobW w) (h : wire_Bool.f f0 f1 f2 = some (r, r2, r3)) :
    Calls Tryd.prog 25 #[.pointer (some ⟨g, 0, none⟩)] w fun e w' => e = .returned (.bool r) ∧ IsS50 w0 w' g f0 r2 r3 ∧ Below w0.heap.size w0 w' ∧ KeepBut w w' g none := by
  obtain ⟨⟨n, r2', r3'⟩, hx, he⟩ := Option.map_eq_some_iff.1 h
  simp only [Prod.mk.injEq] at he
  obtain ⟨rfl, rfl, rfl⟩ := he
  have HX := Aside0.mk hx
  have HI := Aside0.mk hI
  have HB := Aside0.mk hB
  have HG := Aside0.mk hG
  clear h hx hI hB hG
  go_enter Tryd.func25, Tryd.ntmps25
  go_wp2_with (go_at_call 14; refine (wire_Num.calls g f0 f1 f2 0 1 n r2' r3' w0 _ HI.out HB.out HG.out HX.out).mono ?_; rintro e w1 ⟨rfl, hi, hb, hk⟩; have HI1 := Aside0.mk hi; have HB1 := Aside0.mk hb; have HK1 := Aside0.mk hk; clear hi hb hk)
  go_ret
  exact ⟨rfl, HI1.out, HB1.out, HK1.out⟩

/-! ### pendulumlaw1_WireRanges: function 6 -/
mutual
def pendulumlaw1_WireRanges.j0 : Nat → Int → Int → Int → List Int → Bool → Bool → Option (Bool)
  | 0, _, _, _, _, _, _ => none
  | k + 1, x0, x1, x2, x3, x9, x23 => if x23 = true then (some x9) else ((wire_Put.f k ([] : List Int) x0).bind fun t147 => ((pendulumref_Bytes.f k t147).bind fun t150 => (if t150.length + x3.length < 140737488355328 then ((wire_NewReader.f (t150 ++ x3)).bind fun bt156 => ((wire_Num.f bt156.1 bt156.2.1 bt156.2.2 x1 x2).bind fun bt160 => (if x0 ≥ x1 then (pendulumlaw1_WireRanges.j1 k x0 x3 t147 bt160.1 (decide (x0 ≤ x2)) bt156.1 bt160.2.1 bt160.2.2) else (pendulumlaw1_WireRanges.j1 k x0 x3 t147 bt160.1 false bt156.1 bt160.2.1 bt160.2.2)))) else (none))))
def pendulumlaw1_WireRanges.j1 : Nat → Int → List Int → List Int → Int → Bool → List Int → Int → Option (Int × Int) → Option (Bool)
  | 0, _, _, _, _, _, _, _, _ => none
  | k + 1, x0, x3, x10, x12, x45, x160000, x160001, x160002 => if x45 = true then (if x12 = x0 then ((wire_Err.f x160000 x160001 x160002).bind fun bt163 => (if (noE bt163.1) = true then ((wire_At.f x160000 bt163.2.1 bt163.2.2).bind fun bt168 => (if bt168.1 = (x10.length : Int) then ((wire_Left.f x160000 bt168.2.1 bt168.2.2).bind fun bt171 => (some (bt171.1 == (x3.length : Int)))) else (some false))) else (some false))) else (some false)) else ((wire_Num.f x160000 x160001 x160002 (-9223372036854775808) 9223372036854775807).bind fun bt174 => (if x12 = 0 then (if bt174.1 = 0 then ((wire_Bool.f x160000 bt174.2.1 bt174.2.2).bind fun bt177 => (if bt177.1 = true then (some false) else ((wire_Text.f x160000 bt177.2.1 bt177.2.2 9).bind fun bt180 => (if bt180.1.toList = ([] : List UInt8) then ((wire_At.f x160000 bt180.2.1 bt180.2.2).bind fun bt183 => (if bt183.1 = 0 then ((wire_Err.f x160000 bt183.2.1 bt183.2.2).bind fun bt186 => ((pendulumref_Placed.f 104 0).bind fun bt191 => ((pendulumsee_Same.f bt186.1 bt191.1 bt191.2.1 bt191.2.2.1 bt191.2.2.2.1 bt191.2.2.2.2).bind fun t196 => (some t196)))) else (some false))) else (some false))))) else (some false)) else (some false)))
end
def pendulumlaw1_WireRanges.f (k : Nat) (a0 : Int) (a1 : Int) (a2 : Int) (l3 : List Int) : Option (Bool) := (pendulumlaw1_first.f k).bind fun t146 => (if t146 = true then (if (l3.length : Int) > 50 then (pendulumlaw1_WireRanges.j0 k a0 a1 a2 l3 t146 true) else (pendulumlaw1_WireRanges.j0 k a0 a1 a2 l3 t146 (!t146))) else (some false))
theorem pendulumlaw1_WireRanges.mono_l : ∀ k, (∀ y0 y1 y2 y3 y4 y5, LeO (pendulumlaw1_WireRanges.j0 k y0 y1 y2 y3 y4 y5) (pendulumlaw1_WireRanges.j0 (k + 1) y0 y1 y2 y3 y4 y5)) ∧ (∀ y0 y1 y2 y3 y4 y5 y6 y7, LeO (pendulumlaw1_WireRanges.j1 k y0 y1 y2 y3 y4 y5 y6 y7) (pendulumlaw1_WireRanges.j1 (k + 1) y0 y1 y2 y3 y4 y5 y6 y7))
  | 0 => ⟨fun _ _ _ _ _ _ r h => by simp [pendulumlaw1_WireRanges.j0] at h, fun _ _ _ _ _ _ _ _ r h => by simp [pendulumlaw1_WireRanges.j1] at h⟩
  | k + 1 => by
    obtain ⟨ih0, ih1⟩ := pendulumlaw1_WireRanges.mono_l k
    refine ⟨?_, ?_⟩
    · intro y0 y1 y2 y3 y4 y5
      unfold pendulumlaw1_WireRanges.j0
      repeat' first
      | (with_reducible exact ih0 _ _ _ _ _ _)
      | (with_reducible exact ih1 _ _ _ _ _ _ _ _)
      | (with_reducible exact pendulumlaw1_first.mono _)
      | (with_reducible exact pendulumref_Bytes.mono _ _)
      | (with_reducible exact wire_Put.mono _ _ _)
      | (with_reducible exact LeO.refl _)
      | (with_reducible exact LeO.none _)
      | (with_reducible refine LeO.ite ?_ ?_)
      | (with_reducible refine LeO.bind ?_ (fun _ => ?_))
      | exact ih0 _ _ _ _ _ _
      | exact ih1 _ _ _ _ _ _ _ _
      | exact pendulumlaw1_first.mono _
      | exact pendulumref_Bytes.mono _ _
      | exact wire_Put.mono _ _ _
      | exact LeO.none _
      | refine LeO.ite ?_ ?_
      | refine LeO.bind ?_ (fun _ => ?_)
    · intro y0 y1 y2 y3 y4 y5 y6 y7
      unfold pendulumlaw1_WireRanges.j1
      repeat' first
      | (with_reducible exact ih0 _ _ _ _ _ _)
      | (with_reducible exact ih1 _ _ _ _ _ _ _ _)
      | (with_reducible exact pendulumlaw1_first.mono _)
      | (with_reducible exact pendulumref_Bytes.mono _ _)
      | (with_reducible exact wire_Put.mono _ _ _)
      | (with_reducible exact LeO.refl _)
      | (with_reducible exact LeO.none _)
      | (with_reducible refine LeO.ite ?_ ?_)
      | (with_reducible refine LeO.bind ?_ (fun _ => ?_))
      | exact ih0 _ _ _ _ _ _
      | exact ih1 _ _ _ _ _ _ _ _
      | exact pendulumlaw1_first.mono _
      | exact pendulumref_Bytes.mono _ _
      | exact wire_Put.mono _ _ _
      | exact LeO.none _
      | refine LeO.ite ?_ ?_
      | refine LeO.bind ?_ (fun _ => ?_)
theorem pendulumlaw1_WireRanges.mono : ∀ a0 a1 a2 a3 k, LeO (pendulumlaw1_WireRanges.f k a0 a1 a2 a3) (pendulumlaw1_WireRanges.f (k + 1) a0 a1 a2 a3) := by
  intro a0 a1 a2 a3 k
  obtain ⟨ih0, ih1⟩ := pendulumlaw1_WireRanges.mono_l k
  unfold pendulumlaw1_WireRanges.f
  repeat' first
      | (with_reducible exact ih0 _ _ _ _ _ _)
      | (with_reducible exact ih1 _ _ _ _ _ _ _ _)
      | (with_reducible exact pendulumlaw1_first.mono _)
      | (with_reducible exact pendulumref_Bytes.mono _ _)
      | (with_reducible exact wire_Put.mono _ _ _)
      | (with_reducible exact LeO.refl _)
      | (with_reducible exact LeO.none _)
      | (with_reducible refine LeO.ite ?_ ?_)
      | (with_reducible refine LeO.bind ?_ (fun _ => ?_))
      | exact ih0 _ _ _ _ _ _
      | exact ih1 _ _ _ _ _ _ _ _
      | exact pendulumlaw1_first.mono _
      | exact pendulumref_Bytes.mono _ _
      | exact wire_Put.mono _ _ _
      | exact LeO.none _
      | refine LeO.ite ?_ ?_
      | refine LeO.bind ?_ (fun _ => ?_)
set_option maxHeartbeats 8000000 in
set_option maxRecDepth 100000 in
theorem pendulumlaw1_WireRanges.calls [Sent] (k : Nat) (a0 : Int) (a1 : Int) (a2 : Int) (A3 : Option Addr) (c3 : Nat) (l3 : List Int) (r : Bool) (w : World) (hr3 : Kd.C (Kd.int .u8) w A3 l3.length l3) (hc3 : l3.length ≤ c3) (hG : GlobW w) (hr_ : r = true) (h : pendulumlaw1_WireRanges.f k a0 a1 a2 l3 = some r) :
    Calls Tryd.prog 6 #[.int .i64 a0, .int .i64 a1, .int .i64 a2, .slice A3 l3.length c3] w fun e w' => e = .returned (.bool r) ∧ Below w.heap.size w w' := by
  have hu32 := Tryd.underlying32
  have HR3 := Aside0.mk hr3
  have HC3 := Aside0.mk hc3
  clear hr3 hc3
  have HB := Aside0.mk (Below.refl w.heap.size w)
  have HR_ := Aside0.mk hr_
  clear hr_
  have HG := Aside0.mk hG
  clear hG
  have H : ((pendulumlaw1_first.f k).bind fun t146 => (if t146 = true then (if (l3.length : Int) > 50 then (pendulumlaw1_WireRanges.j0 k a0 a1 a2 l3 t146 true) else (pendulumlaw1_WireRanges.j0 k a0 a1 a2 l3 t146 (!t146))) else (some false))) = some r := h
  clear h
  replace H := Option.bind_eq_some_iff.mp H
  obtain ⟨t146, A50, H⟩ := H
  replace H : (if t146 = true then (if (l3.length : Int) > 50 then (pendulumlaw1_WireRanges.j0 k a0 a1 a2 l3 t146 true) else (pendulumlaw1_WireRanges.j0 k a0 a1 a2 l3 t146 (!t146))) else (some false)) = some r := H
  have A5 := Aside0.mk A50
  clear A50
  by_cases c6 : t146 = true
  · subst c6
    have H1 : (if (l3.length : Int) > 50 then (pendulumlaw1_WireRanges.j0 k a0 a1 a2 l3 true true) else (pendulumlaw1_WireRanges.j0 k a0 a1 a2 l3 true (!true))) = some r := by rw [if_pos rfl] at H; exact H
    clear H
    have H := H1
    clear H1
    have HC7 := Aside0.mk H
    clear H
    go_enter Tryd.func6, Tryd.ntmps6
    go_upto_region 4 with (first | ((with_reducible refine gate_callee (f := 9) rfl ?_); refine goesL_ (some 14) rfl rfl Tryd.func9 (by kernel_rfl) rfl #[] rfl (by (try simp only [List.map_toArray, List.map_cons, List.map_nil]); first | done | rfl | (simp only [List.length_drop, List.length_take]; rfl)) ?_; (with_reducible refine (pendulumlaw1_first.calls k  true _ A5.out).mono ?_); rintro e w8 ⟨rfl, hb⟩; refine ⟨_, rfl, ?_⟩; have n0_ := Aside0.mk (below_step (by repeat (first | (with_reducible first | exact HB.out | apply below_alloc | apply pw_below_drewN | apply below_drew1) | exact HB.out)) hb); clear HB; have HB := n0_; clear n0_; (try clear hb); (try clear hb2); (try clear hk); (try clear hi)))
    (try simp only [Act.put, List.setIfInBounds_toArray, List.set_cons_zero, List.set_cons_succ])
    go_cut [23] (fun v23 wc => ∃ (kq : Nat) (x23_6 : Bool), v23 = .bool x23_6 ∧ Aside0 (pendulumlaw1_WireRanges.j0 kq a0 a1 a2 l3 true x23_6 = some r) ∧ Aside0 (kq ≤ k) ∧ Aside0 (Below w.heap.size w wc))
    case first =>
      have H := HC7.out
      clear HC7
      by_cases c9 : (l3.length : Int) > 50
      · rw [if_pos c9] at H
        have c9b0 : decide (50 < (l3.length : Int)) = true := decide_eq_true c9
        have c9b1 : decide (50 < l3.length) = true := decide_eq_true (by omega)
        clear c9
        (first | rw [c9b0] | (simp only [i64_w, i32_w]; rw [c9b0]) | skip)
        have H' := Aside0.mk H
        clear H
        go_wp2
        go_meet
        case rel => exact ⟨_, (true), (by first | rfl | (simp; done) | (simp [*]; done)), H', ⟨by first | omega | exact Nat.le_refl _⟩, ⟨by repeat (first | (with_reducible first | exact HB.out | apply below_alloc | apply pw_below_drewN | apply below_drew1) | exact HB.out)⟩⟩
      · rw [if_neg c9] at H
        have c9b0 : decide (50 < (l3.length : Int)) = false := decide_eq_false c9
        have c9b1 : decide (50 < l3.length) = false := decide_eq_false (by omega)
        clear c9
        (first | rw [c9b0] | (simp only [i64_w, i32_w]; rw [c9b0]) | skip)
        have H' := Aside0.mk H
        clear H
        go_wp2
        go_meet
        case rel => exact ⟨_, (!true), (by first | rfl | (simp; done) | (simp [*]; done)), H', ⟨by first | omega | exact Nat.le_refl _⟩, ⟨by repeat (first | (with_reducible first | exact HB.out | apply below_alloc | apply pw_below_drewN | apply below_drew1) | exact HB.out)⟩⟩
    case rest =>
      clear HC7
      try clear p2
      try clear c3
      try clear c6
      try clear c9
      try clear c9b0
      try clear c9b1
      obtain ⟨kq, x23_6, rfl, HA, HJ6, HB⟩ := hcut
      cases kq with
      | zero => exact absurd HA.out (by simp [pendulumlaw1_WireRanges.j0])
      | succ kj6 =>
        have H := HA.out
        clear HA
        simp only [pendulumlaw1_WireRanges.j0] at H
        by_cases c10 : x23_6 = true
        · subst c10
          have H1 : (some true) = some r := by rw [if_pos rfl] at H; exact H
          clear H
          have H := H1
          clear H1
          obtain rfl := Option.some.inj H
          simp only [Option.some.injEq, Prod.mk.injEq] at H
          obtain ⟨rfl⟩ := H
          go_wp2
          go_ret
          exact ⟨by first | rfl | (simp [errW_none, errW_some] <;> rfl) | (simp [*, errW_none, errW_some] <;> rfl), by repeat (first | (with_reducible first | exact HB.out | apply below_alloc | apply pw_below_drewN | apply below_drew1) | exact HB.out)⟩
        · replace c10 := Bool.eq_false_iff.mpr c10
          subst c10
          have H1 : ((wire_Put.f kj6 ([] : List Int) a0).bind fun t147 => ((pendulumref_Bytes.f kj6 t147).bind fun t150 => (if t150.length + l3.length < 140737488355328 then ((wire_NewReader.f (t150 ++ l3)).bind fun bt156 => ((wire_Num.f bt156.1 bt156.2.1 bt156.2.2 a1 a2).bind fun bt160 => (if a0 ≥ a1 then (pendulumlaw1_WireRanges.j1 kj6 a0 l3 t147 bt160.1 (decide (a0 ≤ a2)) bt156.1 bt160.2.1 bt160.2.2) else (pendulumlaw1_WireRanges.j1 kj6 a0 l3 t147 bt160.1 false bt156.1 bt160.2.1 bt160.2.2)))) else (none)))) = some r := by rw [if_neg (show ¬ (false = true) by decide)] at H; exact H
          clear H
          have H := H1
          clear H1
          replace H := Option.bind_eq_some_iff.mp H
          obtain ⟨t147, A110, H⟩ := H
          replace H : ((pendulumref_Bytes.f kj6 t147).bind fun t150 => (if t150.length + l3.length < 140737488355328 then ((wire_NewReader.f (t150 ++ l3)).bind fun bt156 => ((wire_Num.f bt156.1 bt156.2.1 bt156.2.2 a1 a2).bind fun bt160 => (if a0 ≥ a1 then (pendulumlaw1_WireRanges.j1 kj6 a0 l3 t147 bt160.1 (decide (a0 ≤ a2)) bt156.1 bt160.2.1 bt160.2.2) else (pendulumlaw1_WireRanges.j1 kj6 a0 l3 t147 bt160.1 false bt156.1 bt160.2.1 bt160.2.2)))) else (none))) = some r := H
          have A11 := Aside0.mk A110
          clear A110
          replace H := Option.bind_eq_some_iff.mp H
          obtain ⟨t150, A120, H⟩ := H
          replace H : (if t150.length + l3.length < 140737488355328 then ((wire_NewReader.f (t150 ++ l3)).bind fun bt156 => ((wire_Num.f bt156.1 bt156.2.1 bt156.2.2 a1 a2).bind fun bt160 => (if a0 ≥ a1 then (pendulumlaw1_WireRanges.j1 kj6 a0 l3 t147 bt160.1 (decide (a0 ≤ a2)) bt156.1 bt160.2.1 bt160.2.2) else (pendulumlaw1_WireRanges.j1 kj6 a0 l3 t147 bt160.1 false bt156.1 bt160.2.1 bt160.2.2)))) else (none)) = some r := H
          have A12 := Aside0.mk A120
          clear A120
          by_cases c13 : t150.length + l3.length < 140737488355328
          · rw [if_pos c13] at H
            have LMc13 := Aside0.mk c13
            clear c13
            obtain ⟨y153, hy153⟩ : ∃ y_ : List Int, y_ = (t150 ++ l3) := ⟨_, rfl⟩
            replace H : ((wire_NewReader.f y153).bind fun bt156 => ((wire_Num.f bt156.1 bt156.2.1 bt156.2.2 a1 a2).bind fun bt160 => (if a0 ≥ a1 then (pendulumlaw1_WireRanges.j1 kj6 a0 l3 t147 bt160.1 (decide (a0 ≤ a2)) bt156.1 bt160.2.1 bt160.2.2) else (pendulumlaw1_WireRanges.j1 kj6 a0 l3 t147 bt160.1 false bt156.1 bt160.2.1 bt160.2.2)))) = some r := by first | (rw [hy153]; with_reducible exact H) | (have H2_ := (Option.bind_some _ _).symm.trans H; rw [hy153]; with_reducible exact H2_) | (have H2_ := (Option.bind_some _ _).symm.trans H; with_reducible exact H2_) | with_reducible exact H | (rw [hy153]; exact H) | exact H
            have Ny153 := Aside0.mk hy153
            clear hy153
            replace H := Option.bind_eq_some_iff.mp H
            obtain ⟨⟨t156, t157, t158⟩, A140, H⟩ := H
            replace H : ((wire_Num.f t156 t157 t158 a1 a2).bind fun bt160 => (if a0 ≥ a1 then (pendulumlaw1_WireRanges.j1 kj6 a0 l3 t147 bt160.1 (decide (a0 ≤ a2)) t156 bt160.2.1 bt160.2.2) else (pendulumlaw1_WireRanges.j1 kj6 a0 l3 t147 bt160.1 false t156 bt160.2.1 bt160.2.2))) = some r := H
            have A14 := Aside0.mk A140
            clear A140
            replace H := Option.bind_eq_some_iff.mp H
            obtain ⟨⟨t160, t161, t162⟩, A150, H⟩ := H
            replace H : (if a0 ≥ a1 then (pendulumlaw1_WireRanges.j1 kj6 a0 l3 t147 t160 (decide (a0 ≤ a2)) t156 t161 t162) else (pendulumlaw1_WireRanges.j1 kj6 a0 l3 t147 t160 false t156 t161 t162)) = some r := H
            have A15 := Aside0.mk A150
            clear A150
            have HC16 := Aside0.mk H
            clear H
            have CN17 := fun W_ => wire_Put.calls kj6 none 0 ([] : List Int) a0 t147 W_
            try simp only [List.length_nil, -Nat.reduceLeDiff] at CN17
            go_upto_region 11 with (first | ((with_reducible refine gate_callee (f := 10) rfl ?_); refine goesL_ (some 26) rfl rfl Tryd.func10 (by kernel_rfl) rfl #[.slice none 0 0, .int .i64 a0] rfl (by (try simp only [List.map_toArray, List.map_cons, List.map_nil]); first | done | rfl | (simp only [List.length_drop, List.length_take]; rfl)) ?_; (with_reducible refine (CN17 _  ?side1 ?side2 A11.out).mono ?_); (case side1 => exact Kd.C_nil _ _); (case side2 => exact Nat.le_refl _); rintro e w18 ⟨v148, rfl, ho0, hb⟩; refine ⟨_, rfl, ?_⟩; have n0_ := Aside0.mk (Kd.R_lower ho0 (below_size (by repeat (first | (with_reducible first | exact HB.out | apply below_alloc | apply pw_below_drewN | apply below_drew1) | exact HB.out)))); have n1_ := Aside0.mk (below_step (by repeat (first | (with_reducible first | exact HB.out | apply below_alloc | apply pw_below_drewN | apply below_drew1) | exact HB.out)) hb); clear HB; have HO149 := n0_; have HB := n1_; clear n0_ n1_; (try clear hb); (try clear hb2); (try clear hk); (try clear hi); (try clear ho0); obtain ⟨Ao19, co19, eo19⟩ := Kd.R_slice HO149.out; subst eo19) | ((with_reducible refine gate_callee (f := 12) rfl ?_); refine goesL_ (some 28) rfl rfl Tryd.func12 (by kernel_rfl) rfl #[.slice Ao19 t147.length co19] rfl (by (try simp only [List.map_toArray, List.map_cons, List.map_nil]); first | done | rfl | (simp only [List.length_drop, List.length_take]; rfl)) ?_; (with_reducible refine (pendulumref_Bytes.calls kj6 _ _ t147 t150 _ ?side1 ?side2 A12.out).mono ?_); (case side1 => repeat (first | exact (Kd.R_reads' HO149.out).2.2 | (with_reducible refine Kd.C_alloc ?_ _) | (with_reducible refine Kd.C_drewN ?_ _) | (with_reducible refine Kd.C_drew ?_))); (case side2 => exact (Kd.R_reads' HO149.out).2.1); rintro e w20 ⟨v151, rfl, ho0, hb⟩; refine ⟨_, rfl, ?_⟩; have n0_ := Aside0.mk (Kd.R_elder' (by (with_reducible repeat (first | apply Kd.R_alloc | apply Kd.R_drewN | apply Kd.R_drew)); exact HO149.out) (Kd.R_base ho0) hb); have n1_ := Aside0.mk (Kd.R_lower (Kd.R_new' ho0 (Kd.R_lt (by (with_reducible repeat (first | apply Kd.R_alloc | apply Kd.R_drewN | apply Kd.R_drew)); exact HO149.out))) (below_size (by repeat (first | (with_reducible first | exact HB.out | apply below_alloc | apply pw_below_drewN | apply below_drew1) | exact HB.out)))); have n2_ := Aside0.mk (below_step (by repeat (first | (with_reducible first | exact HB.out | apply below_alloc | apply pw_below_drewN | apply below_drew1) | exact HB.out)) hb); clear HO149; clear HB; have HO149 := n0_; have HO152 := n1_; have HB := n2_; clear n0_ n1_ n2_; (try clear hb); (try clear hb2); (try clear hk); (try clear hi); (try clear ho0)) | ((with_reducible refine gate_builtin (b := .append) (xs := #[.tmp 28, .tmp 29]) rfl ?_); (try (refine gate_guard (by rfl) ?_; dsimp only)); at_builtin; refine Kd.R_append_rows (Kd.int .u8) (w0 := w) w.heap.size rfl (.tmp 28) (.tmp 29) 23 5 (.int .u8 0) 1 rfl Tryd.underlying23 info5 rfl (by decide) (by omega) v151 t150 l3 _ _ _ (fun k_ => some k_ ≠ (.slice Ao19 t147.length co19 : Value).ownBlock) (fun _ => False) rfl rfl ?aO ?aR (fun _ _ h => h) (fun _ h => h.elim) ?aF ?aB ?aS ?aL ?_; (case aR => repeat (first | exact (Kd.C_below HR3.out HB.out) | (with_reducible refine Kd.C_alloc ?_ _) | (with_reducible refine Kd.C_drewN ?_ _) | (with_reducible refine Kd.C_drew ?_))); (case aB => exact (by repeat (first | (with_reducible first | exact HB.out | apply below_alloc | apply pw_below_drewN | apply below_drew1) | exact HB.out))); (case aF => exact (fun k_ hk => Kd.fresh' (Kd.R_lt (by (with_reducible repeat (first | apply Kd.R_alloc | apply Kd.R_drewN | apply Kd.R_drew)); exact HO149.out)) k_ hk)); (case aO => exact (by (with_reducible repeat (first | apply Kd.R_alloc | apply Kd.R_drewN | apply Kd.R_drew)); exact Kd.R_mono HO152.out (fun _ hk => hk.2))); (case aS => exact (below_size (by repeat (first | (with_reducible first | exact HB.out | apply below_alloc | apply pw_below_drewN | apply below_drew1) | exact HB.out)))); (case aL => have := LMc13.out; omega); intro v154 w21 ho hb hg hat; rw [← Ny153.out] at ho; have n0_ := Aside0.mk (Kd.R_after (ok := (fun _ => True)) (by (with_reducible repeat (first | apply Kd.R_alloc | apply Kd.R_drewN | apply Kd.R_drew)); exact HO149.out) hg hat); have n1_ := Aside0.mk (hb); have n2_ := Aside0.mk (ho); clear HO149; clear HB; clear HO152; have HO149 := n0_; have HB := n1_; have HO155 := n2_; clear n0_ n1_ n2_; clear ho hb hg hat; obtain ⟨Ao22, co22, eo22⟩ := Kd.R_slice HO155.out; subst eo22) | ((with_reducible refine gate_callee (f := 13) rfl ?_); refine goesL_ (some 31) rfl rfl Tryd.func13 (by kernel_rfl) rfl #[.slice Ao22 y153.length co22] rfl (by (try simp only [List.map_toArray, List.map_cons, List.map_nil]); first | done | rfl | (simp only [List.length_drop, List.length_take]; rfl)) ?_; (with_reducible refine (wire_NewReader.calls _ _ y153 t156 t157 t158 w _ ?side1 ?side2 ?side3 A14.out).mono ?_); (case side1 => repeat (first | (with_reducible first | exact HB.out | apply below_alloc | apply pw_below_drewN | apply below_drew1) | exact HB.out)); (case side2 => repeat (first | exact (Kd.R_reads' HO155.out).2.2 | (with_reducible refine Kd.C_alloc ?_ _) | (with_reducible refine Kd.C_drewN ?_ _) | (with_reducible refine Kd.C_drew ?_))); (case side3 => exact (Kd.R_reads' HO155.out).2.1); rintro e w23 ⟨g159, rfl, hi, hb, hb2⟩; refine ⟨_, rfl, ?_⟩; have n0_ := Aside0.mk (Kd.R_below (by (with_reducible repeat (first | apply Kd.R_alloc | apply Kd.R_drewN | apply Kd.R_drew)); exact HO149.out) hb2); have n1_ := Aside0.mk (Kd.R_below (by (with_reducible repeat (first | apply Kd.R_alloc | apply Kd.R_drewN | apply Kd.R_drew)); exact HO155.out) hb2); have n2_ := Aside0.mk (hb); have n3_ := Aside0.mk (hi); clear HO149; clear HO155; clear HB; have HO149 := n0_; have HO155 := n1_; have HB := n2_; have HI159 := n3_; clear n0_ n1_ n2_ n3_; (try clear hb); (try clear hb2); (try clear hk); (try clear hi)) | ((with_reducible refine gate_callee (f := 14) rfl ?_); refine goesL_ (some 37) rfl rfl Tryd.func14 (by kernel_rfl) rfl #[.pointer (some ⟨g159, 0, none⟩), .int .i64 a1, .int .i64 a2] rfl (by (try simp only [List.map_toArray, List.map_cons, List.map_nil]); first | done | rfl | (simp only [List.length_drop, List.length_take]; rfl)) ?_; (with_reducible refine (wire_Num.calls g159 t156 t157 t158 a1 a2 t160 t161 t162 w _ ?side1 ?side2 ?side3 A15.out).mono ?_); (case side1 => repeat (first | (with_reducible first | exact HI159.out | apply IsS50.alloc | apply IsS50.drewN | apply IsS50.drew | apply IsS50.set_1 | apply IsS50.set_2) | exact HI159.out)); (case side2 => repeat (first | (with_reducible first | exact HB.out | apply below_alloc | apply pw_below_drewN | apply below_drew1 | refine below_set ?_ (IsS50.ge HI159.out)) | exact HB.out)); (case side3 => exact GlobW.below HG.out (by repeat (first | (with_reducible first | exact HB.out | apply below_alloc | apply pw_below_drewN | apply below_drew1 | refine below_set ?_ (IsS50.ge HI159.out)) | exact HB.out))); rintro e w24 ⟨rfl, hi, hb, hk⟩; refine ⟨_, rfl, ?_⟩; have n0_ := Aside0.mk (Kd.R_mono (Kd.R_keep (IsS50.apart (show IsS50 w _ g159 t156 t157 t158 from by repeat (first | (with_reducible first | exact HI159.out | apply IsS50.alloc | apply IsS50.drewN | apply IsS50.drew | apply IsS50.set_1 | apply IsS50.set_2) | exact HI159.out)) (by (with_reducible repeat (first | apply Kd.R_alloc | apply Kd.R_drewN | apply Kd.R_drew)); exact HO149.out) (by decide)) hk (fun _ h => h.2)) (fun _ h => h.1)); have n1_ := Aside0.mk (Kd.R_mono (Kd.R_keep (IsS50.apart (show IsS50 w _ g159 t156 t157 t158 from by repeat (first | (with_reducible first | exact HI159.out | apply IsS50.alloc | apply IsS50.drewN | apply IsS50.drew | apply IsS50.set_1 | apply IsS50.set_2) | exact HI159.out)) (by (with_reducible repeat (first | apply Kd.R_alloc | apply Kd.R_drewN | apply Kd.R_drew)); exact HO155.out) (by decide)) hk (fun _ h => h.2)) (fun _ h => h.1)); have n2_ := Aside0.mk (hb); have n3_ := Aside0.mk (hi); clear HO149; clear HO155; clear HB; clear HI159; have HO149 := n0_; have HO155 := n1_; have HB := n2_; have HI159 := n3_; clear n0_ n1_ n2_ n3_; (try clear hb); (try clear hb2); (try clear hk); (try clear hi)))
            (try simp only [Act.put, List.setIfInBounds_toArray, List.set_cons_zero, List.set_cons_succ])
            go_cut [45] (fun v45 wc => ∃ (kq : Nat) (x45_15 : Bool), v45 = .bool x45_15 ∧ Aside0 (pendulumlaw1_WireRanges.j1 kq a0 l3 t147 t160 x45_15 t156 t161 t162 = some r) ∧ Aside0 (kq ≤ kj6) ∧ Aside0 (Kd.R (Kd.int .u8) 5 wc w.heap.size (fun _ => True) (.slice Ao19 t147.length co19) t147) ∧ Aside0 (IsS50 w wc g159 t156 t161 t162) ∧ Aside0 (Below w.heap.size w wc))
            case first =>
              have H := HC16.out
              clear HC16
              by_cases c25 : a0 ≥ a1
              · rw [if_pos c25] at H
                have c25b0 : decide (a1 ≤ a0) = true := decide_eq_true c25
                clear c25
                (first | rw [c25b0] | (simp only [i64_w, i32_w]; rw [c25b0]) | skip)
                have H' := Aside0.mk H
                clear H
                go_wp2
                go_meet
                case rel => exact ⟨_, (decide (a0 ≤ a2)), (by first | rfl | (simp; done) | (simp [*]; done)), H', ⟨by have := HJ6.out; first | omega | exact Nat.le_refl _⟩, ⟨by (with_reducible repeat (first | apply Kd.R_alloc | apply Kd.R_drewN | apply Kd.R_drew)); exact Kd.R_mono HO149.out (fun _ hk => trivial)⟩, ⟨by repeat (first | (with_reducible first | exact HI159.out | apply IsS50.alloc | apply IsS50.drewN | apply IsS50.drew | apply IsS50.set_1 | apply IsS50.set_2) | exact HI159.out)⟩, ⟨by repeat (first | (with_reducible first | exact HB.out | apply below_alloc | apply pw_below_drewN | apply below_drew1 | refine below_set ?_ (IsS50.ge HI159.out)) | exact HB.out)⟩⟩
              · rw [if_neg c25] at H
                have c25b0 : decide (a1 ≤ a0) = false := decide_eq_false c25
                clear c25
                (first | rw [c25b0] | (simp only [i64_w, i32_w]; rw [c25b0]) | skip)
                have H' := Aside0.mk H
                clear H
                go_wp2
                go_meet
                case rel => exact ⟨_, (false), (by first | rfl | (simp; done) | (simp [*]; done)), H', ⟨by have := HJ6.out; first | omega | exact Nat.le_refl _⟩, ⟨by (with_reducible repeat (first | apply Kd.R_alloc | apply Kd.R_drewN | apply Kd.R_drew)); exact Kd.R_mono HO149.out (fun _ hk => trivial)⟩, ⟨by repeat (first | (with_reducible first | exact HI159.out | apply IsS50.alloc | apply IsS50.drewN | apply IsS50.drew | apply IsS50.set_1 | apply IsS50.set_2) | exact HI159.out)⟩, ⟨by repeat (first | (with_reducible first | exact HB.out | apply below_alloc | apply pw_below_drewN | apply below_drew1 | refine below_set ?_ (IsS50.ge HI159.out)) | exact HB.out)⟩⟩
            case rest =>
              clear HC16
              try clear c1
              try clear c2
              try clear p2
              try clear c3
              try clear c6
              try clear c9
              try clear c9b0
              try clear c9b1
              try clear c10
              try clear c12
              try clear c13
              try clear c14
              try clear c25
              try clear c25b0
              try clear p2
              obtain ⟨kq, x45_15, rfl, HA, HJ15, HO_10, HI159, HB⟩ := hcut
              cases kq with
              | zero => exact absurd HA.out (by simp [pendulumlaw1_WireRanges.j1])
              | succ kj15 =>
                have H := HA.out
                clear HA
                simp only [pendulumlaw1_WireRanges.j1] at H
                by_cases c26 : x45_15 = true
                · subst c26
                  have H1 : (if t160 = a0 then ((wire_Err.f t156 t161 t162).bind fun bt163 => (if (noE bt163.1) = true then ((wire_At.f t156 bt163.2.1 bt163.2.2).bind fun bt168 => (if bt168.1 = (t147.length : Int) then ((wire_Left.f t156 bt168.2.1 bt168.2.2).bind fun bt171 => (some (bt171.1 == (l3.length : Int)))) else (some false))) else (some false))) else (some false)) = some r := by rw [if_pos rfl] at H; exact H
                  clear H
                  have H := H1
                  clear H1
                  by_cases c27 : t160 = a0
                  · rw [if_pos c27] at H
                    have c27b0 : (t160 == a0) = true := beq_iff_eq.mpr c27
                    have c27b1 : (t160 != a0) = false := bne_eq_false_iff_eq.mpr c27
                    clear c27
                    replace H := Option.bind_eq_some_iff.mp H
                    obtain ⟨⟨t163, t166, t167⟩, A280, H⟩ := H
                    replace H : (if (noE t163) = true then ((wire_At.f t156 t166 t167).bind fun bt168 => (if bt168.1 = (t147.length : Int) then ((wire_Left.f t156 bt168.2.1 bt168.2.2).bind fun bt171 => (some (bt171.1 == (l3.length : Int)))) else (some false))) else (some false)) = some r := H
                    have A28 := Aside0.mk A280
                    clear A280
                    by_cases c29 : (noE t163) = true
                    · rw [if_pos c29] at H
                      have c29b0 : (noE t163) = true := c29
                      clear c29
                      replace H := Option.bind_eq_some_iff.mp H
                      obtain ⟨⟨t168, t169, t170⟩, A300, H⟩ := H
                      replace H : (if t168 = (t147.length : Int) then ((wire_Left.f t156 t169 t170).bind fun bt171 => (some (bt171.1 == (l3.length : Int)))) else (some false)) = some r := H
                      have A30 := Aside0.mk A300
                      clear A300
                      by_cases c31 : t168 = (t147.length : Int)
                      · rw [if_pos c31] at H
                        have c31b0 : (t168 == (t147.length : Int)) = true := beq_iff_eq.mpr c31
                        have c31b1 : (t168 != (t147.length : Int)) = false := bne_eq_false_iff_eq.mpr c31
                        clear c31
                        replace H := Option.bind_eq_some_iff.mp H
                        obtain ⟨⟨t171, t172, t173⟩, A320, H⟩ := H
                        replace H : (some (t171 == (l3.length : Int))) = some r := H
                        have A32 := Aside0.mk A320
                        clear A320
                        obtain rfl := Option.some.inj H
                        simp only [Option.some.injEq, Prod.mk.injEq] at H
                        obtain ⟨rfl⟩ := H
                        go_wp2_with (first | (go_at_call 16; (with_reducible refine (wire_Err.calls g159 t156 t161 t162 t163 t166 t167 w _ ?side1 ?side2 A28.out).mono ?_); (case side1 => repeat (first | (with_reducible first | exact HI159.out | apply IsS50.alloc | apply IsS50.drewN | apply IsS50.drew | apply IsS50.set_1 | apply IsS50.set_2) | exact HI159.out)); (case side2 => repeat (first | (with_reducible first | exact HB.out | apply below_alloc | apply pw_below_drewN | apply below_drew1 | refine below_set ?_ (IsS50.ge HI159.out)) | exact HB.out)); rintro e w33 ⟨A164, rfl, heHE165, hi, hb, hk⟩; have n0_ := Aside0.mk (Kd.R_mono (Kd.R_keep (IsS50.apart (show IsS50 w _ g159 t156 t161 t162 from by repeat (first | (with_reducible first | exact HI159.out | apply IsS50.alloc | apply IsS50.drewN | apply IsS50.drew | apply IsS50.set_1 | apply IsS50.set_2) | exact HI159.out)) (by (with_reducible repeat (first | apply Kd.R_alloc | apply Kd.R_drewN | apply Kd.R_drew)); exact HO_10.out) (by decide)) hk (fun _ h => h.2)) (fun _ h => h.1)); have n1_ := Aside0.mk (hb); have n2_ := Aside0.mk (hi); have n3_ := Aside0.mk (heHE165); clear HO_10; clear HB; clear HI159; have HO_10 := n0_; have HB := n1_; have HI159 := n2_; have HE165 := n3_; clear n0_ n1_ n2_ n3_; (try clear hb); (try clear hb2); (try clear hk); (try clear hi); (try clear heHE165)) | (go_at_call 18; (with_reducible refine (wire_At.calls g159 t156 t166 t167 t168 t169 t170 w _ ?side1 ?side2 A30.out).mono ?_); (case side1 => repeat (first | (with_reducible first | exact HI159.out | apply IsS50.alloc | apply IsS50.drewN | apply IsS50.drew | apply IsS50.set_1 | apply IsS50.set_2) | exact HI159.out)); (case side2 => repeat (first | (with_reducible first | exact HB.out | apply below_alloc | apply pw_below_drewN | apply below_drew1 | refine below_set ?_ (IsS50.ge HI159.out)) | exact HB.out)); rintro e w34 ⟨rfl, hi, hb, hk⟩; have n0_ := Aside0.mk (Kd.R_mono (Kd.R_keep (IsS50.apart (show IsS50 w _ g159 t156 t166 t167 from by repeat (first | (with_reducible first | exact HI159.out | apply IsS50.alloc | apply IsS50.drewN | apply IsS50.drew | apply IsS50.set_1 | apply IsS50.set_2) | exact HI159.out)) (by (with_reducible repeat (first | apply Kd.R_alloc | apply Kd.R_drewN | apply Kd.R_drew)); exact HO_10.out) (by decide)) hk (fun _ h => h.2)) (fun _ h => h.1)); have n1_ := Aside0.mk (hb); have n2_ := Aside0.mk (hi); clear HO_10; clear HB; clear HI159; have HO_10 := n0_; have HB := n1_; have HI159 := n2_; clear n0_ n1_ n2_; (try clear hb); (try clear hb2); (try clear hk); (try clear hi)) | (go_at_call 20; (with_reducible refine (wire_Left.calls g159 t156 t169 t170 t171 t172 t173 w _ ?side1 ?side2 A32.out).mono ?_); (case side1 => repeat (first | (with_reducible first | exact HI159.out | apply IsS50.alloc | apply IsS50.drewN | apply IsS50.drew | apply IsS50.set_1 | apply IsS50.set_2) | exact HI159.out)); (case side2 => repeat (first | (with_reducible first | exact HB.out | apply below_alloc | apply pw_below_drewN | apply below_drew1 | refine below_set ?_ (IsS50.ge HI159.out)) | exact HB.out)); rintro e w35 ⟨rfl, hi, hb, hk⟩; have n0_ := Aside0.mk (Kd.R_mono (Kd.R_keep (IsS50.apart (show IsS50 w _ g159 t156 t169 t170 from by repeat (first | (with_reducible first | exact HI159.out | apply IsS50.alloc | apply IsS50.drewN | apply IsS50.drew | apply IsS50.set_1 | apply IsS50.set_2) | exact HI159.out)) (by (with_reducible repeat (first | apply Kd.R_alloc | apply Kd.R_drewN | apply Kd.R_drew)); exact HO_10.out) (by decide)) hk (fun _ h => h.2)) (fun _ h => h.1)); have n1_ := Aside0.mk (hb); have n2_ := Aside0.mk (hi); clear HO_10; clear HB; clear HI159; have HO_10 := n0_; have HB := n1_; have HI159 := n2_; clear n0_ n1_ n2_; (try clear hb); (try clear hb2); (try clear hk); (try clear hi)))
                        go_ret
                        exact ⟨by first | rfl | (simp [errW_none, errW_some] <;> rfl) | (simp [*, errW_none, errW_some] <;> rfl), by repeat (first | (with_reducible first | exact HB.out | apply below_alloc | apply pw_below_drewN | apply below_drew1 | refine below_set ?_ (IsS50.ge HI159.out)) | exact HB.out)⟩
                      · rw [if_neg c31] at H
                        have c31b0 : (t168 == (t147.length : Int)) = false := beq_eq_false_iff_ne.mpr c31
                        have c31b1 : (t168 != (t147.length : Int)) = true := bne_iff_ne.mpr c31
                        obtain rfl := Option.some.inj H
                        exact absurd HR_.out (by decide)
                    · rw [if_neg c29] at H
                      have c29b0 : (noE t163) = false := by simpa using c29
                      clear c29
                      obtain rfl := Option.some.inj H
                      exact absurd HR_.out (by decide)
                  · rw [if_neg c27] at H
                    have c27b0 : (t160 == a0) = false := beq_eq_false_iff_ne.mpr c27
                    have c27b1 : (t160 != a0) = true := bne_iff_ne.mpr c27
                    obtain rfl := Option.some.inj H
                    exact absurd HR_.out (by decide)
                · replace c26 := Bool.eq_false_iff.mpr c26
                  subst c26
                  have H1 : ((wire_Num.f t156 t161 t162 (-9223372036854775808) 9223372036854775807).bind fun bt174 => (if t160 = 0 then (if bt174.1 = 0 then ((wire_Bool.f t156 bt174.2.1 bt174.2.2).bind fun bt177 => (if bt177.1 = true then (some false) else ((wire_Text.f t156 bt177.2.1 bt177.2.2 9).bind fun bt180 => (if bt180.1.toList = ([] : List UInt8) then ((wire_At.f t156 bt180.2.1 bt180.2.2).bind fun bt183 => (if bt183.1 = 0 then ((wire_Err.f t156 bt183.2.1 bt183.2.2).bind fun bt186 => ((pendulumref_Placed.f 104 0).bind fun bt191 => ((pendulumsee_Same.f bt186.1 bt191.1 bt191.2.1 bt191.2.2.1 bt191.2.2.2.1 bt191.2.2.2.2).bind fun t196 => (some t196)))) else (some false))) else (some false))))) else (some false)) else (some false))) = some r := by rw [if_neg (show ¬ (false = true) by decide)] at H; exact H
                  clear H
                  have H := H1
                  clear H1
                  replace H := Option.bind_eq_some_iff.mp H
                  obtain ⟨⟨t174, t175, t176⟩, A360, H⟩ := H
                  replace H : (if t160 = 0 then (if t174 = 0 then ((wire_Bool.f t156 t175 t176).bind fun bt177 => (if bt177.1 = true then (some false) else ((wire_Text.f t156 bt177.2.1 bt177.2.2 9).bind fun bt180 => (if bt180.1.toList = ([] : List UInt8) then ((wire_At.f t156 bt180.2.1 bt180.2.2).bind fun bt183 => (if bt183.1 = 0 then ((wire_Err.f t156 bt183.2.1 bt183.2.2).bind fun bt186 => ((pendulumref_Placed.f 104 0).bind fun bt191 => ((pendulumsee_Same.f bt186.1 bt191.1 bt191.2.1 bt191.2.2.1 bt191.2.2.2.1 bt191.2.2.2.2).bind fun t196 => (some t196)))) else (some false))) else (some false))))) else (some false)) else (some false)) = some r := H
                  have A36 := Aside0.mk A360
                  clear A360
                  by_cases c37 : t160 = 0
                  · rw [if_pos c37] at H
                    have c37b0 : (t160 == 0) = true := beq_iff_eq.mpr c37
                    have c37b1 : (t160 != 0) = false := bne_eq_false_iff_eq.mpr c37
                    clear c37
                    by_cases c38 : t174 = 0
                    · rw [if_pos c38] at H
                      have c38b0 : (t174 == 0) = true := beq_iff_eq.mpr c38
                      have c38b1 : (t174 != 0) = false := bne_eq_false_iff_eq.mpr c38
                      clear c38
                      replace H := Option.bind_eq_some_iff.mp H
                      obtain ⟨⟨t177, t178, t179⟩, A390, H⟩ := H
                      replace H : (if t177 = true then (some false) else ((wire_Text.f t156 t178 t179 9).bind fun bt180 => (if bt180.1.toList = ([] : List UInt8) then ((wire_At.f t156 bt180.2.1 bt180.2.2).bind fun bt183 => (if bt183.1 = 0 then ((wire_Err.f t156 bt183.2.1 bt183.2.2).bind fun bt186 => ((pendulumref_Placed.f 104 0).bind fun bt191 => ((pendulumsee_Same.f bt186.1 bt191.1 bt191.2.1 bt191.2.2.1 bt191.2.2.2.1 bt191.2.2.2.2).bind fun t196 => (some t196)))) else (some false))) else (some false)))) = some r := H
                      have A39 := Aside0.mk A390
                      clear A390
                      by_cases c40 : t177 = true
                      · subst c40
                        have H1 : (some false) = some r := by rw [if_pos rfl] at H; exact H
                        clear H
                        have H := H1
                        clear H1
                        obtain rfl := Option.some.inj H
                        exact absurd HR_.out (by decide)
                      · replace c40 := Bool.eq_false_iff.mpr c40
                        subst c40
                        have H1 : ((wire_Text.f t156 t178 t179 9).bind fun bt180 => (if bt180.1.toList = ([] : List UInt8) then ((wire_At.f t156 bt180.2.1 bt180.2.2).bind fun bt183 => (if bt183.1 = 0 then ((wire_Err.f t156 bt183.2.1 bt183.2.2).bind fun bt186 => ((pendulumref_Placed.f 104 0).bind fun bt191 => ((pendulumsee_Same.f bt186.1 bt191.1 bt191.2.1 bt191.2.2.1 bt191.2.2.2.1 bt191.2.2.2.2).bind fun t196 => (some t196)))) else (some false))) else (some false))) = some r := by rw [if_neg (show ¬ (false = true) by decide)] at H; exact H
                        clear H
                        have H := H1
                        clear H1
                        replace H := Option.bind_eq_some_iff.mp H
                        obtain ⟨⟨t180, t181, t182⟩, A410, H⟩ := H
                        replace H : (if t180.toList = ([] : List UInt8) then ((wire_At.f t156 t181 t182).bind fun bt183 => (if bt183.1 = 0 then ((wire_Err.f t156 bt183.2.1 bt183.2.2).bind fun bt186 => ((pendulumref_Placed.f 104 0).bind fun bt191 => ((pendulumsee_Same.f bt186.1 bt191.1 bt191.2.1 bt191.2.2.1 bt191.2.2.2.1 bt191.2.2.2.2).bind fun t196 => (some t196)))) else (some false))) else (some false)) = some r := H
                        have A41 := Aside0.mk A410
                        clear A410
                        by_cases c42 : t180.toList = ([] : List UInt8)
                        · rw [if_pos c42] at H
                          have c42b0 : (t180.toList == ([] : List UInt8)) = true := beq_iff_eq.mpr c42
                          have c42b1 : (t180.toList != ([] : List UInt8)) = false := bne_eq_false_iff_eq.mpr c42
                          clear c42
                          replace H := Option.bind_eq_some_iff.mp H
                          obtain ⟨⟨t183, t184, t185⟩, A430, H⟩ := H
                          replace H : (if t183 = 0 then ((wire_Err.f t156 t184 t185).bind fun bt186 => ((pendulumref_Placed.f 104 0).bind fun bt191 => ((pendulumsee_Same.f bt186.1 bt191.1 bt191.2.1 bt191.2.2.1 bt191.2.2.2.1 bt191.2.2.2.2).bind fun t196 => (some t196)))) else (some false)) = some r := H
                          have A43 := Aside0.mk A430
                          clear A430
                          by_cases c44 : t183 = 0
                          · rw [if_pos c44] at H
                            have c44b0 : (t183 == 0) = true := beq_iff_eq.mpr c44
                            have c44b1 : (t183 != 0) = false := bne_eq_false_iff_eq.mpr c44
                            clear c44
                            replace H := Option.bind_eq_some_iff.mp H
                            obtain ⟨⟨t186, t189, t190⟩, A450, H⟩ := H
                            replace H : ((pendulumref_Placed.f 104 0).bind fun bt191 => ((pendulumsee_Same.f t186 bt191.1 bt191.2.1 bt191.2.2.1 bt191.2.2.2.1 bt191.2.2.2.2).bind fun t196 => (some t196))) = some r := H
                            have A45 := Aside0.mk A450
                            clear A450
                            replace H := Option.bind_eq_some_iff.mp H
                            obtain ⟨⟨t191, t192, t193, t194, t195⟩, A460, H⟩ := H
                            replace H : ((pendulumsee_Same.f t186 t191 t192 t193 t194 t195).bind fun t196 => (some t196)) = some r := H
                            have A46 := Aside0.mk A460
                            clear A460
                            replace H := Option.bind_eq_some_iff.mp H
                            obtain ⟨t196, A470, H⟩ := H
                            replace H : (some t196) = some r := H
                            have A47 := Aside0.mk A470
                            clear A470
                            obtain rfl := Option.some.inj H
                            simp only [Option.some.injEq, Prod.mk.injEq] at H
                            obtain ⟨rfl⟩ := H
                            go_wp2_with (first | ((with_reducible refine gate_callee (f := 14) rfl ?_); refine goesL_ (some 69) rfl rfl Tryd.func14 (by kernel_rfl) rfl #[.pointer (some ⟨g159, 0, none⟩), .int .i64 (-9223372036854775808), .int .i64 9223372036854775807] rfl (by (try simp only [List.map_toArray, List.map_cons, List.map_nil]); first | done | rfl | (simp only [List.length_drop, List.length_take]; rfl)) ?_; (with_reducible refine (wire_Num.calls g159 t156 t161 t162 (-9223372036854775808) 9223372036854775807 t174 t175 t176 w _ ?side1 ?side2 ?side3 A36.out).mono ?_); (case side1 => repeat (first | (with_reducible first | exact HI159.out | apply IsS50.alloc | apply IsS50.drewN | apply IsS50.drew | apply IsS50.set_1 | apply IsS50.set_2) | exact HI159.out)); (case side2 => repeat (first | (with_reducible first | exact HB.out | apply below_alloc | apply pw_below_drewN | apply below_drew1 | refine below_set ?_ (IsS50.ge HI159.out)) | exact HB.out)); (case side3 => exact GlobW.below HG.out (by repeat (first | (with_reducible first | exact HB.out | apply below_alloc | apply pw_below_drewN | apply below_drew1 | refine below_set ?_ (IsS50.ge HI159.out)) | exact HB.out))); rintro e w48 ⟨rfl, hi, hb, hk⟩; refine ⟨_, rfl, ?_⟩; have n0_ := Aside0.mk (Kd.R_mono (Kd.R_keep (IsS50.apart (show IsS50 w _ g159 t156 t161 t162 from by repeat (first | (with_reducible first | exact HI159.out | apply IsS50.alloc | apply IsS50.drewN | apply IsS50.drew | apply IsS50.set_1 | apply IsS50.set_2) | exact HI159.out)) (by (with_reducible repeat (first | apply Kd.R_alloc | apply Kd.R_drewN | apply Kd.R_drew)); exact HO_10.out) (by decide)) hk (fun _ h => h.2)) (fun _ h => h.1)); have n1_ := Aside0.mk (hb); have n2_ := Aside0.mk (hi); clear HO_10; clear HB; clear HI159; have HO_10 := n0_; have HB := n1_; have HI159 := n2_; clear n0_ n1_ n2_; (try clear hb); (try clear hb2); (try clear hk); (try clear hi)) | (go_at_call 25; (with_reducible refine (wire_Bool.calls g159 t156 t175 t176 false t178 t179 w _ ?side1 ?side2 ?side3 A39.out).mono ?_); (case side1 => repeat (first | (with_reducible first | exact HI159.out | apply IsS50.alloc | apply IsS50.drewN | apply IsS50.drew | apply IsS50.set_1 | apply IsS50.set_2) | exact HI159.out)); (case side2 => repeat (first | (with_reducible first | exact HB.out | apply below_alloc | apply pw_below_drewN | apply below_drew1 | refine below_set ?_ (IsS50.ge HI159.out)) | exact HB.out)); (case side3 => exact GlobW.below HG.out (by repeat (first | (with_reducible first | exact HB.out | apply below_alloc | apply pw_below_drewN | apply below_drew1 | refine below_set ?_ (IsS50.ge HI159.out)) | exact HB.out))); rintro e w49 ⟨rfl, hi, hb, hk⟩; have n0_ := Aside0.mk (Kd.R_mono (Kd.R_keep (IsS50.apart (show IsS50 w _ g159 t156 t175 t176 from by repeat (first | (with_reducible first | exact HI159.out | apply IsS50.alloc | apply IsS50.drewN | apply IsS50.drew | apply IsS50.set_1 | apply IsS50.set_2) | exact HI159.out)) (by (with_reducible repeat (first | apply Kd.R_alloc | apply Kd.R_drewN | apply Kd.R_drew)); exact HO_10.out) (by decide)) hk (fun _ h => h.2)) (fun _ h => h.1)); have n1_ := Aside0.mk (hb); have n2_ := Aside0.mk (hi); clear HO_10; clear HB; clear HI159; have HO_10 := n0_; have HB := n1_; have HI159 := n2_; clear n0_ n1_ n2_; (try clear hb); (try clear hb2); (try clear hk); (try clear hi)) | (go_at_call 24; (with_reducible refine (wire_Text.calls g159 t156 t178 t179 9 t180 t181 t182 w _ ?side1 ?side2 ?side3 A41.out).mono ?_); (case side1 => repeat (first | (with_reducible first | exact HI159.out | apply IsS50.alloc | apply IsS50.drewN | apply IsS50.drew | apply IsS50.set_1 | apply IsS50.set_2) | exact HI159.out)); (case side2 => repeat (first | (with_reducible first | exact HB.out | apply below_alloc | apply pw_below_drewN | apply below_drew1 | refine below_set ?_ (IsS50.ge HI159.out)) | exact HB.out)); (case side3 => exact GlobW.below HG.out (by repeat (first | (with_reducible first | exact HB.out | apply below_alloc | apply pw_below_drewN | apply below_drew1 | refine below_set ?_ (IsS50.ge HI159.out)) | exact HB.out))); rintro e w50 ⟨rfl, hi, hb, hk⟩; have n0_ := Aside0.mk (Kd.R_mono (Kd.R_keep (IsS50.apart (show IsS50 w _ g159 t156 t178 t179 from by repeat (first | (with_reducible first | exact HI159.out | apply IsS50.alloc | apply IsS50.drewN | apply IsS50.drew | apply IsS50.set_1 | apply IsS50.set_2) | exact HI159.out)) (by (with_reducible repeat (first | apply Kd.R_alloc | apply Kd.R_drewN | apply Kd.R_drew)); exact HO_10.out) (by decide)) hk (fun _ h => h.2)) (fun _ h => h.1)); have n1_ := Aside0.mk (hb); have n2_ := Aside0.mk (hi); clear HO_10; clear HB; clear HI159; have HO_10 := n0_; have HB := n1_; have HI159 := n2_; clear n0_ n1_ n2_; (try clear hb); (try clear hb2); (try clear hk); (try clear hi)) | (go_at_call 18; (with_reducible refine (wire_At.calls g159 t156 t181 t182 t183 t184 t185 w _ ?side1 ?side2 A43.out).mono ?_); (case side1 => repeat (first | (with_reducible first | exact HI159.out | apply IsS50.alloc | apply IsS50.drewN | apply IsS50.drew | apply IsS50.set_1 | apply IsS50.set_2) | exact HI159.out)); (case side2 => repeat (first | (with_reducible first | exact HB.out | apply below_alloc | apply pw_below_drewN | apply below_drew1 | refine below_set ?_ (IsS50.ge HI159.out)) | exact HB.out)); rintro e w51 ⟨rfl, hi, hb, hk⟩; have n0_ := Aside0.mk (Kd.R_mono (Kd.R_keep (IsS50.apart (show IsS50 w _ g159 t156 t181 t182 from by repeat (first | (with_reducible first | exact HI159.out | apply IsS50.alloc | apply IsS50.drewN | apply IsS50.drew | apply IsS50.set_1 | apply IsS50.set_2) | exact HI159.out)) (by (with_reducible repeat (first | apply Kd.R_alloc | apply Kd.R_drewN | apply Kd.R_drew)); exact HO_10.out) (by decide)) hk (fun _ h => h.2)) (fun _ h => h.1)); have n1_ := Aside0.mk (hb); have n2_ := Aside0.mk (hi); clear HO_10; clear HB; clear HI159; have HO_10 := n0_; have HB := n1_; have HI159 := n2_; clear n0_ n1_ n2_; (try clear hb); (try clear hb2); (try clear hk); (try clear hi)) | (go_at_call 16; (with_reducible refine (wire_Err.calls g159 t156 t184 t185 t186 t189 t190 w _ ?side1 ?side2 A45.out).mono ?_); (case side1 => repeat (first | (with_reducible first | exact HI159.out | apply IsS50.alloc | apply IsS50.drewN | apply IsS50.drew | apply IsS50.set_1 | apply IsS50.set_2) | exact HI159.out)); (case side2 => repeat (first | (with_reducible first | exact HB.out | apply below_alloc | apply pw_below_drewN | apply below_drew1 | refine below_set ?_ (IsS50.ge HI159.out)) | exact HB.out)); rintro e w52 ⟨A187, rfl, heHE188, hi, hb, hk⟩; have n0_ := Aside0.mk (Kd.R_mono (Kd.R_keep (IsS50.apart (show IsS50 w _ g159 t156 t184 t185 from by repeat (first | (with_reducible first | exact HI159.out | apply IsS50.alloc | apply IsS50.drewN | apply IsS50.drew | apply IsS50.set_1 | apply IsS50.set_2) | exact HI159.out)) (by (with_reducible repeat (first | apply Kd.R_alloc | apply Kd.R_drewN | apply Kd.R_drew)); exact HO_10.out) (by decide)) hk (fun _ h => h.2)) (fun _ h => h.1)); have n1_ := Aside0.mk (hb); have n2_ := Aside0.mk (hi); have n3_ := Aside0.mk (heHE188); clear HO_10; clear HB; clear HI159; have HO_10 := n0_; have HB := n1_; have HI159 := n2_; have HE188 := n3_; clear n0_ n1_ n2_ n3_; (try clear hb); (try clear hb2); (try clear hk); (try clear hi); (try clear heHE188)) | (go_at_call 17; (with_reducible refine (pendulumref_Placed.calls 104 0 t191 t192 t193 t194 t195 _ A46.out).mono ?_); rintro e w53 ⟨rfl, hb⟩; have n0_ := Aside0.mk (Kd.R_below (by (with_reducible repeat (first | apply Kd.R_alloc | apply Kd.R_drewN | apply Kd.R_drew)); exact HO_10.out) hb); have n1_ := Aside0.mk (IsS50.below (by repeat (first | (with_reducible first | exact HI159.out | apply IsS50.alloc | apply IsS50.drewN | apply IsS50.drew | apply IsS50.set_1 | apply IsS50.set_2) | exact HI159.out)) hb); have n2_ := Aside0.mk (Kd.C_below (by repeat (first | (with_reducible exact HE188.out) | (with_reducible refine Kd.C_alloc ?_ _) | (with_reducible refine Kd.C_drewN ?_ _) | (with_reducible refine Kd.C_drew ?_) | exact HE188.out)) hb); have n3_ := Aside0.mk (below_step (by repeat (first | (with_reducible first | exact HB.out | apply below_alloc | apply pw_below_drewN | apply below_drew1 | refine below_set ?_ (IsS50.ge HI159.out)) | exact HB.out)) hb); clear HO_10; clear HI159; clear HE188; clear HB; have HO_10 := n0_; have HI159 := n1_; have HE188 := n2_; have HB := n3_; clear n0_ n1_ n2_ n3_; (try clear hb); (try clear hb2); (try clear hk); (try clear hi)) | (go_at_call 15; (with_reducible refine (pendulumsee_Same.calls _ t186 t191 t192 t193 t194 t195 t196 _ ?side1 ?side2 A47.out).mono ?_); (case side1 => exact GlobW.below HG.out (by repeat (first | (with_reducible first | exact HB.out | apply below_alloc | apply pw_below_drewN | apply below_drew1 | refine below_set ?_ (IsS50.ge HI159.out)) | exact HB.out))); (case side2 => exact by repeat (first | (with_reducible exact HE188.out) | (with_reducible refine Kd.C_alloc ?_ _) | (with_reducible refine Kd.C_drewN ?_ _) | (with_reducible refine Kd.C_drew ?_) | exact HE188.out)); rintro e w54 ⟨rfl, hb⟩; have n0_ := Aside0.mk (Kd.R_below (by (with_reducible repeat (first | apply Kd.R_alloc | apply Kd.R_drewN | apply Kd.R_drew)); exact HO_10.out) hb); have n1_ := Aside0.mk (IsS50.below (by repeat (first | (with_reducible first | exact HI159.out | apply IsS50.alloc | apply IsS50.drewN | apply IsS50.drew | apply IsS50.set_1 | apply IsS50.set_2) | exact HI159.out)) hb); have n2_ := Aside0.mk (Kd.C_below (by repeat (first | (with_reducible exact HE188.out) | (with_reducible refine Kd.C_alloc ?_ _) | (with_reducible refine Kd.C_drewN ?_ _) | (with_reducible refine Kd.C_drew ?_) | exact HE188.out)) hb); have n3_ := Aside0.mk (below_step (by repeat (first | (with_reducible first | exact HB.out | apply below_alloc | apply pw_below_drewN | apply below_drew1 | refine below_set ?_ (IsS50.ge HI159.out)) | exact HB.out)) hb); clear HO_10; clear HI159; clear HE188; clear HB; have HO_10 := n0_; have HI159 := n1_; have HE188 := n2_; have HB := n3_; clear n0_ n1_ n2_ n3_; (try clear hb); (try clear hb2); (try clear hk); (try clear hi)))
                            go_ret
                            exact ⟨by first | rfl | (simp [errW_none, errW_some] <;> rfl) | (simp [*, errW_none, errW_some] <;> rfl), by repeat (first | (with_reducible first | exact HB.out | apply below_alloc | apply pw_below_drewN | apply below_drew1 | refine below_set ?_ (IsS50.ge HI159.out)) | exact HB.out)⟩
                          · rw [if_neg c44] at H
                            have c44b0 : (t183 == 0) = false := beq_eq_false_iff_ne.mpr c44
                            have c44b1 : (t183 != 0) = true := bne_iff_ne.mpr c44
                            obtain rfl := Option.some.inj H
                            exact absurd HR_.out (by decide)
                        · rw [if_neg c42] at H
                          have c42b0 : (t180.toList == ([] : List UInt8)) = false := beq_eq_false_iff_ne.mpr c42
                          have c42b1 : (t180.toList != ([] : List UInt8)) = true := bne_iff_ne.mpr c42
                          obtain rfl := Option.some.inj H
                          exact absurd HR_.out (by decide)
                    · rw [if_neg c38] at H
                      have c38b0 : (t174 == 0) = false := beq_eq_false_iff_ne.mpr c38
                      have c38b1 : (t174 != 0) = true := bne_iff_ne.mpr c38
                      obtain rfl := Option.some.inj H
                      exact absurd HR_.out (by decide)
                  · rw [if_neg c37] at H
                    have c37b0 : (t160 == 0) = false := beq_eq_false_iff_ne.mpr c37
                    have c37b1 : (t160 != 0) = true := bne_iff_ne.mpr c37
                    obtain rfl := Option.some.inj H
                    exact absurd HR_.out (by decide)
          · rw [if_neg c13] at H
            exact absurd H (by simp)
  · replace c6 := Bool.eq_false_iff.mpr c6
    subst c6
    have H1 : (some false) = some r := by rw [if_neg (show ¬ (false = true) by decide)] at H; exact H
    clear H
    have H := H1
    clear H1
    obtain rfl := Option.some.inj H
    exact absurd HR_.out (by decide)

end Go.Proofs.YtpiafijccnbdbaaDoor.KTWireRanges

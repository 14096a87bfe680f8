/- By a program of this session (kprint.py) over the printer: functions of the code as plain Lean functions, and the walks that say so. -/
import Derived.Test.YtpiafijccnbdbaaDoorKTWireLengthsx0
import Derived.Test.YtpiafijccnbdbaaDoorKTWireLengthsx1
namespace Go.Proofs.YtpiafijccnbdbaaDoor.KTWireLengths
open Go.RowKit Go.Proofs.YtpiafijccnbdbaaDoorW.PrintWords Go.Proofs.YtpiafijccnbdbaaDoorW.PrintLast Go.Proofs.YtpiafijccnbdbaaDoorW.PrintMore
attribute [local go_sem] max2_int min2_int max_two min_two max_three min_three max_four min_four   -- for this text's walks alone
set_option linter.unusedVariables false
set_option linter.unusedSimpArgs false

/-! ### pendulumsee_Same: function 15 -/
theorem see_Alike [Sent] (a b : Int) (w : World) (h : GlobW w) (ha : ∃ c ∈ sentList, c.1 = a) (hb : ∃ c ∈ sentList, c.1 = b) (r : Bool) (hr : Aside0 (r = (a == b))) :
    Calls Tryd.prog 37 #[.iface 69 (.pointer (some (Sent.S a))), .iface 69 (.pointer (some (Sent.S b)))] w fun e w' => e = .returned (.bool r) ∧ w = w' := by
  obtain ⟨c, hc, rfl⟩ := ha
  obtain ⟨d, hd, rfl⟩ := hb
  obtain ⟨i, hi, hi1⟩ := Option.map_eq_some_iff.1 (show (Tryd.prog.info? 69).map (·.comparable) = some true by kernel_rfl)
  obtain ⟨j, hj, hj1⟩ := Option.map_eq_some_iff.1 (show (Tryd.prog.info? 86).map (·.size) = some 1 by kernel_rfl)
  have hu := Tryd.underlying32
  by_cases he : c.1 = d.1
  · obtain rfl : r = true := by rw [hr.out, he]; simp
    rw [he]
    have hq := run_eql_iface_ptr_same w (Sent.S d.1) Tryd.underlying32 Tryd.underlying69 hi hi1 hj
    clear hr he hi hi1 hj hj1 h
    go_enter Tryd.func37, Tryd.ntmps37
    go_wp2
    go_ret
    exact ⟨rfl, rfl⟩
  · obtain rfl : r = false := by rw [hr.out]; simp [he]
    obtain ⟨_, ca, ta, h1⟩ := h.1 c hc
    obtain ⟨_, cb, tb, h2⟩ := h.1 d hd
    have hq := run_eql_iface_ptr_other w Tryd.underlying32 Tryd.underlying69 hi hi1 hj (by rw [hj1]; decide) (fun e => he (h.2 c hc d hd e)) h1 h2
    clear hr he hi hi1 hj hj1 h h1 h2
    go_enter Tryd.func37, Tryd.ntmps37
    go_wp2
    go_ret
    exact ⟨rfl, rfl⟩
def sentVal [Sent] (c : Int) : Value := .iface 69 (.pointer (some (Sent.S c)))
def sentCells [Sent] : List Value := (List.range 21).map fun i : Nat => sentVal (101 + (i : Int))
theorem sentList_all : ∀ i : Fin 21, ∃ c ∈ sentList, c.1 = 101 + ((i.1 : Nat) : Int) := by decide
set_option maxRecDepth 100000 in
set_option maxHeartbeats 1000000 in
theorem see_sentinels [Sent] (w : World) (h : GlobW w) :
    Calls Tryd.prog 36 #[] w fun e w' => e = .returned (.slice (some ⟨w.heap.size, 0, none⟩) 21 21) ∧ w.alloc (.cells sentCells.toArray 32) = w' := by
  have f0 := (h.1 (101, 1) (by decide)).1
  have f1 := (h.1 (102, 2) (by decide)).1
  have f2 := (h.1 (103, 3) (by decide)).1
  have f3 := (h.1 (104, 0) (by decide)).1
  have f4 := (h.1 (105, 4) (by decide)).1
  have f5 := (h.1 (106, 5) (by decide)).1
  have f6 := (h.1 (107, 6) (by decide)).1
  have f7 := (h.1 (108, 7) (by decide)).1
  have f8 := (h.1 (109, 8) (by decide)).1
  have f9 := (h.1 (110, 9) (by decide)).1
  have f10 := (h.1 (111, 10) (by decide)).1
  have f11 := (h.1 (112, 11) (by decide)).1
  have f12 := (h.1 (113, 12) (by decide)).1
  have f13 := (h.1 (114, 13) (by decide)).1
  have f14 := (h.1 (115, 14) (by decide)).1
  have f15 := (h.1 (116, 15) (by decide)).1
  have f16 := (h.1 (117, 16) (by decide)).1
  have f17 := (h.1 (118, 17) (by decide)).1
  have f18 := (h.1 (119, 18) (by decide)).1
  have f19 := (h.1 (120, 19) (by decide)).1
  have f20 := (h.1 (121, 20) (by decide)).1
  have hC := Aside0.mk (show (sentCells.toArray : Array Value) = #[.iface 69 (.pointer (some (Sent.S 101))), .iface 69 (.pointer (some (Sent.S 102))), .iface 69 (.pointer (some (Sent.S 103))), .iface 69 (.pointer (some (Sent.S 104))), .iface 69 (.pointer (some (Sent.S 105))), .iface 69 (.pointer (some (Sent.S 106))), .iface 69 (.pointer (some (Sent.S 107))), .iface 69 (.pointer (some (Sent.S 108))), .iface 69 (.pointer (some (Sent.S 109))), .iface 69 (.pointer (some (Sent.S 110))), .iface 69 (.pointer (some (Sent.S 111))), .iface 69 (.pointer (some (Sent.S 112))), .iface 69 (.pointer (some (Sent.S 113))), .iface 69 (.pointer (some (Sent.S 114))), .iface 69 (.pointer (some (Sent.S 115))), .iface 69 (.pointer (some (Sent.S 116))), .iface 69 (.pointer (some (Sent.S 117))), .iface 69 (.pointer (some (Sent.S 118))), .iface 69 (.pointer (some (Sent.S 119))), .iface 69 (.pointer (some (Sent.S 120))), .iface 69 (.pointer (some (Sent.S 121)))] from rfl)
  clear h
  go_enter Tryd.func36, Tryd.ntmps36
  go_wp2
  go_ret
  exact ⟨rfl, by rw [hC.out]⟩
theorem see_sentinel_cell [Sent] (w : World) (k : Nat) (hk : k < 21) : (w.alloc (.cells sentCells.toArray 32)).cell? ⟨w.heap.size, k, none⟩ = some (.iface 69 (.pointer (some (Sent.S (101 + (k : Int)))))) := by
  have h1 : (w.alloc (.cells sentCells.toArray 32)).heap[w.heap.size]? = some (.cells sentCells.toArray 32 (0, 0)) := heap_alloc_new w _
  rw [blk_cell h1]
  simp [sentCells, hk, sentVal]
set_option maxRecDepth 100000 in
set_option maxHeartbeats 1000000 in
theorem see_sentinel [Sent] (c : Int) (w : World) (h : GlobW w) (hc0 : 101 ≤ c) (hc1 : c ≤ 121) :
    Calls Tryd.prog 34 #[.iface 69 (.pointer (some (Sent.S c)))] w fun e w' => e = .returned (.int .i64 c) ∧ Below w.heap.size w w' := by
  have HG := Aside0.mk h
  clear h
  have hcl : ∃ d ∈ sentList, d.1 = c := by
    obtain ⟨d, hd, he⟩ := sentList_all ⟨(c - 101).toNat, by omega⟩
    exact ⟨d, hd, by rw [he]; simp; omega⟩
  have HCL := Aside0.mk hcl
  clear hcl
  go_enter Tryd.func34, Tryd.ntmps34
  go_wp2_with (go_at_call 36; refine (see_sentinels _ HG.out).mono ?_; rintro e w' ⟨rfl, rfl⟩)
  obtain ⟨W, hW⟩ : ∃ W, W = w.alloc (.cells sentCells.toArray 32) := ⟨_, rfl⟩
  have HW := Aside0.mk hW
  have hcell : ∀ k : Nat, k < 21 → W.cell? ⟨w.heap.size, k, none⟩ = some (.iface 69 (.pointer (some (Sent.S (101 + (k : Int)))))) := fun k hk => by rw [hW]; exact see_sentinel_cell w k hk
  have HCE := Aside0.mk hcell
  clear hcell
  rw [← hW]
  clear hW
  go_loop [4] (fun i => ∃ k : Nat, i = .int .i64 k ∧ Aside0 (k ≤ 21 ∧ 101 + (k : Int) ≤ c)) (fun i => 21 - (intOf i).toNat)
  case atStart => exact ⟨0, rfl, ⟨by omega, by omega⟩⟩
  case round =>
    obtain ⟨k, rfl, HK⟩ := hrel
    have hk : k < 21 := by have := HK.out; omega
    have hx := HCE.out k hk
    have HGW : Aside0 (GlobW W) := ⟨by rw [HW.out]; exact HG.out.below (below_alloc (Below.refl _ _) _)⟩
    have hkl : ∃ d ∈ sentList, d.1 = 101 + (k : Int) := sentList_all ⟨k, hk⟩
    have HKL := Aside0.mk hkl
    clear hkl
    go_wp2_with fail
    refine (see_Alike c (101 + (k : Int)) _ HGW.out HCL.out HKL.out (c == 101 + (k : Int)) ⟨rfl⟩).mono ?_
    rintro e w1 ⟨rfl, rfl⟩
    by_cases he : c = 101 + (k : Int)
    · have hb : (c == 101 + (k : Int)) = true := by simp [he]
      rw [hb]
      have HE := Aside0.mk he
      clear he hb
      go_wp2
      go_ret
      exact ⟨by rw [HE.out]; rfl, by rw [HW.out]; exact below_alloc (Below.refl _ _) _⟩
    · have hb : (c == 101 + (k : Int)) = false := by simp [he]
      rw [hb]
      have HE := Aside0.mk he
      clear he hb
      go_wp2
      go_round
      case rel => exact ⟨k + 1, by go_num, ⟨by omega, by have := HK.out; have := HE.out; omega⟩⟩
      case measure => simp [intOf]; omega
theorem see_put {w : World} {g : Nat} {a b c d e a' b' c' d' e' : Value} (h : w.heap[g]? = some (.cells #[a, b, c, d, e] 35 (0, 0))) :
    (((((w.setCell ⟨g, 0, none⟩ a').setCell ⟨g, 1, none⟩ b').setCell ⟨g, 2, none⟩ c').setCell ⟨g, 3, none⟩ d').setCell ⟨g, 4, none⟩ e').heap[g]? = some (.cells #[a', b', c', d', e'] 35 (0, 0)) :=
  blk_set (blk_set (blk_set (blk_set (blk_set h 0 a') 1 b') 2 c') 3 d') 4 e'
theorem see_put_below {w0 w : World} {g : Nat} {a b c d e : Value} (h : Below w0.heap.size w0 w) (hg : w0.heap.size ≤ g) :
    Below w0.heap.size w0 (((((w.setCell ⟨g, 0, none⟩ a).setCell ⟨g, 1, none⟩ b).setCell ⟨g, 2, none⟩ c).setCell ⟨g, 3, none⟩ d).setCell ⟨g, 4, none⟩ e) :=
  below_set (below_set (below_set (below_set (below_set h hg) hg) hg) hg) hg
set_option maxRecDepth 100000 in
set_option maxHeartbeats 1000000 in
theorem see_Fault_nil [Sent] (w : World) : Calls Tryd.prog 31 #[.nilIface] w fun e w' => e = .returned (.agg #[.int .i64 0, .bool false, .bool false, .int .i64 0, .int .i64 0]) ∧ Below w.heap.size w w' := by
  have hu := Tryd.underlying35
  have hu32 := Tryd.underlying32
  go_enter Tryd.func31, Tryd.ntmps31
  go_wp2_with fail
  refine (pendulumref_None.calls 0 false false 0 0 _ (by unfold pendulumref_None.f; rfl)).mono ?_
  rintro e w1 ⟨rfl, hb⟩
  have h1 : w1.heap[w.heap.size]? = some (.cells #[.int .i64 0, .bool false, .bool false, .int .i64 0, .int .i64 0] 35 (0, 0)) := (hb.block _ (by simp)).trans (heap_alloc_new w _)
  have HB := Aside0.mk (below_step (below_alloc (Below.refl w.heap.size w) _) hb)
  have hz : w.heap.size < w1.heap.size := blk_lt h1
  have H1 := Aside0.mk h1
  clear hb
  have c0 := blk_cell h1 0
  have c1 := blk_cell h1 1
  have c2 := blk_cell h1 2
  have c3 := blk_cell h1 3
  have c4 := blk_cell h1 4
  have g0 := blk_frozen h1 0
  have g1 := blk_frozen h1 1
  have g2 := blk_frozen h1 2
  have g3 := blk_frozen h1 3
  have g4 := blk_frozen h1 4
  clear h1
  simp at c0 c1 c2 c3 c4
  go_wp2_with fail
  exact bodyPost_ret (results_cell_row rfl _ _ w.heap.size 35 #[.int .i64 0, .bool false, .bool false, .int .i64 0, .int .i64 0] (0, 0) _ rfl (see_put H1.out) Tryd.underlying35 rfl (by kernel_rfl)) rfl ⟨rfl, see_put_below HB.out (Nat.le_refl _)⟩
set_option maxRecDepth 100000 in
set_option maxHeartbeats 1000000 in
theorem see_Fault_at [Sent] (p c : Int) (a : Addr) (w : World) (hG : GlobW w) (h0 : 101 ≤ c) (h1 : c ≤ 121) (hE : w.cell? (a.add 0) = some (.int .i64 p) ∧ w.cell? (a.add 1) = some (sentV c)) :
    Calls Tryd.prog 31 #[.iface 59 (.pointer (some a))] w fun e w' => e = .returned (.agg #[.int .i64 c, .bool true, .bool false, .int .i64 p, .int .i64 0]) ∧ Below w.heap.size w w' := by
  have hu := Tryd.underlying35
  have hu32 := Tryd.underlying32
  obtain ⟨hE0, hE1⟩ := hE
  have e0' := Lib.cell?_alloc_some (o := .cells #[.int .i64 0, .bool false, .bool false, .int .i64 0, .int .i64 0] 35) hE0
  have e1' := Lib.cell?_alloc_some (o := .cells #[.int .i64 0, .bool false, .bool false, .int .i64 0, .int .i64 0] 35) hE1
  obtain ⟨ab, ao, ap⟩ := a
  simp [sentV, Addr.add] at e0' e1'
  have HE0 := Aside0.mk hE0
  have HG := Aside0.mk (hG.below (below_alloc (Below.refl w.heap.size w) (.cells #[.int .i64 0, .bool false, .bool false, .int .i64 0, .int .i64 0] 35 (0, 0))))
  have H01 := Aside0.mk (And.intro h0 h1)
  clear hG h0 h1 hE0 hE1
  have hta : ∀ (v : Value) (W : World), (Instr.typeAssert (.iface 59 v) 32 59 true).run Tryd.prog W = .ok (.tuple #[v, .bool true]) W := fun v W => by kernel_rfl
  have htb : ∀ (v : Value) (W : World), (Instr.typeAssert (.iface 69 v) 32 59 true).run Tryd.prog W = .ok (.tuple #[.pointer none, .bool false]) W := fun v W => by kernel_rfl
  go_enter Tryd.func31, Tryd.ntmps31
  go_wp2_with fail
  obtain ⟨W, hW⟩ : ∃ W, W = w.alloc (.cells #[.int .i64 0, .bool false, .bool false, .int .i64 0, .int .i64 0] 35 (0, 0)) := ⟨_, rfl⟩
  rw [← hW] at e0' e1' HG ⊢
  have HBW := Aside0.mk (show Below w.heap.size w W from by rw [hW]; exact below_alloc (Below.refl _ _) _)
  have HBK := Aside0.mk (show W.heap[w.heap.size]? = some (.cells #[.int .i64 0, .bool false, .bool false, .int .i64 0, .int .i64 0] 35 (0, 0)) from by rw [hW]; exact heap_alloc_new w _)
  have HE0' := Aside0.mk e0'
  clear hW
  have HPL := Aside0.mk (show pendulumref_Placed.f c p = some (c, true, false, p, 0) from by rw [pendulumref_Placed.f, if_neg (by have := H01.out.1; omega)])
  go_region_with (first | (go_at_call 34; refine (see_sentinel c _ (HG.out.below (below_drew (Below.refl _ _))) H01.out.1 H01.out.2).mono ?_; rintro e w1 ⟨rfl, hb⟩; have HB1 := Aside0.mk (below_step (below_drew HBW.out) hb); have e0'' := pw_cell_below hb (show W.drew.cell? _ = _ from HE0'.out); have h1' := (hb.block _ (show w.heap.size < W.drew.heap.size from blk_lt HBK.out)).trans (show W.drew.heap[w.heap.size]? = _ from HBK.out); have H1' := Aside0.mk h1'; clear hb h1') | (go_at_call 17; refine (pendulumref_Placed.calls c p c true false p 0 _ HPL.out).mono ?_; rintro e w2 ⟨rfl, hb⟩; have HB := Aside0.mk (below_step HB1.out hb); have h1 := (hb.block _ (blk_lt H1'.out)).trans H1'.out; have H1 := Aside0.mk h1; clear hb; have c0 := blk_cell h1 0; have c1 := blk_cell h1 1; have c2 := blk_cell h1 2; have c3 := blk_cell h1 3; have c4 := blk_cell h1 4; have g0 := blk_frozen h1 0; have g1 := blk_frozen h1 1; have g2 := blk_frozen h1 2; have g3 := blk_frozen h1 3; have g4 := blk_frozen h1 4; clear h1; simp at c0 c1 c2 c3 c4))
  all_goals go_wp2_with fail
  all_goals exact bodyPost_ret (results_cell_row rfl _ _ w.heap.size 35 #[.int .i64 c, .bool true, .bool false, .int .i64 p, .int .i64 0] (0, 0) _ rfl (see_put H1.out) Tryd.underlying35 rfl (by kernel_rfl)) rfl ⟨rfl, see_put_below HB.out (Nat.le_refl _)⟩
set_option maxRecDepth 100000 in
set_option maxHeartbeats 1000000 in
theorem see_Same [Sent] (v0 : Value) (f0 : Int) (f1 f2 : Bool) (f3 f4 : Int) (b0 : Int) (b1 b2 : Bool) (b3 b4 : Int) (r : Bool) (w : World) (hG : GlobW w) (hok : ∀ W, Below w.heap.size w W → GlobW W → Calls Tryd.prog 31 #[v0] W fun e w' => e = .returned (.agg #[.int .i64 f0, .bool f1, .bool f2, .int .i64 f3, .int .i64 f4]) ∧ Below W.heap.size W w')
    (hr : pendulumref_SameFault.f f0 f1 f2 f3 f4 b0 b1 b2 b3 b4 = some r) :
    Calls Tryd.prog 15 #[v0, .agg #[.int .i64 b0, .bool b1, .bool b2, .int .i64 b3, .int .i64 b4]] w fun e w' => e = .returned (.bool r) ∧ Below w.heap.size w w' := by
  have hu := Tryd.underlying35
  have HR := Aside0.mk hr
  have HOK := Aside0.mk hok
  obtain ⟨W, hW⟩ : ∃ W, W = w.alloc (.cells #[.int .i64 b0, .bool b1, .bool b2, .int .i64 b3, .int .i64 b4] 35 (0, 0)) := ⟨_, rfl⟩
  have HG := Aside0.mk (hG.below (below_alloc (Below.refl w.heap.size w) (.cells #[.int .i64 b0, .bool b1, .bool b2, .int .i64 b3, .int .i64 b4] 35 (0, 0))))
  have HBW : Aside0 (Below w.heap.size w W) := ⟨by rw [hW]; exact below_alloc (Below.refl _ _) _⟩
  have hb : W.heap[w.heap.size]? = some (.cells #[.int .i64 b0, .bool b1, .bool b2, .int .i64 b3, .int .i64 b4] 35 (0, 0)) := by rw [hW]; exact heap_alloc_new w _
  rw [← hW] at HG
  have HBK := Aside0.mk hb
  clear hr hG hok hb
  go_enter Tryd.func15, Tryd.ntmps15
  go_wp2_with fail
  rw [← hW]
  clear hW
  have k0 := blk_cell HBK.out 0
  have k1 := blk_cell HBK.out 1
  have k2 := blk_cell HBK.out 2
  have k3 := blk_cell HBK.out 3
  have k4 := blk_cell HBK.out 4
  simp at k0 k1 k2 k3 k4
  have hF := HOK.out W.drew (below_drew HBW.out) (HG.out.below (below_drew (Below.refl _ _)))
  have HF := Aside0.mk hF
  clear hF
  go_region_with (first | (go_at_call 31; refine HF.out.mono ?_; rintro e w1 ⟨rfl, hb1⟩; have hbk := (hb1.block w.heap.size (blk_lt HBK.out)).trans HBK.out; have HB1 := Aside0.mk (show Below w.heap.size w w1 from below_step (below_drew HBW.out) hb1); clear hb1; have m0 := blk_cell hbk 0; have m1 := blk_cell hbk 1; have m2 := blk_cell hbk 2; have m3 := blk_cell hbk 3; have m4 := blk_cell hbk 4; clear hbk; simp at m0 m1 m2 m3 m4) | (go_at_call 30; refine (pendulumref_SameFault.calls _ _ _ _ _ _ _ _ _ _ r _ HR.out).mono ?_; rintro e w2 ⟨rfl, hb2⟩; have HB2 := Aside0.mk (below_step HB1.out hb2); clear hb2))
  all_goals go_wp2
  all_goals go_ret
  all_goals exact ⟨rfl, HB2.out⟩
def pendulumsee_Same.f (a0 : Option (Int × Int)) (a1_0 : Int) (a1_1 a1_2 : Bool) (a1_3 a1_4 : Int) : Option Bool :=
  match a0 with
  | none => pendulumref_SameFault.f 0 false false 0 0 a1_0 a1_1 a1_2 a1_3 a1_4
  | some (p, c) => if 101 ≤ c ∧ c ≤ 121 then pendulumref_SameFault.f c true false p 0 a1_0 a1_1 a1_2 a1_3 a1_4 else none
theorem pendulumsee_Same.calls [Sent] (A0 : Option Addr) (a0 : Option (Int × Int)) (a1_0 : Int) (a1_1 a1_2 : Bool) (a1_3 a1_4 : Int) (r : Bool) (w : World) (hG : GlobW w) (hE : Kd.C (Kd.raw 2) w A0 (atl a0).length (atl a0)) (h : pendulumsee_Same.f a0 a1_0 a1_1 a1_2 a1_3 a1_4 = some r) :
    Calls Tryd.prog 15 #[errU a0 A0, .agg #[.int .i64 a1_0, .bool a1_1, .bool a1_2, .int .i64 a1_3, .int .i64 a1_4]] w fun e w' => e = .returned (.bool r) ∧ Below w.heap.size w w' := by
  cases a0 with
  | none => exact see_Same .nilIface 0 false false 0 0 _ _ _ _ _ r w hG (fun W _ _ => see_Fault_nil W) h
  | some x =>
    obtain ⟨p, c⟩ := x
    simp only [pendulumsee_Same.f] at h
    by_cases hc : 101 ≤ c ∧ c ≤ 121
    · rw [if_pos hc] at h
      obtain ⟨ad, rfl, hcell⟩ := hE.2.2 (by simp [atl])
      refine see_Same _ c true false p 0 _ _ _ _ _ r w hG (fun W hW hGW => ?_) h
      obtain ⟨cs, h1, ⟨h2, _⟩, h3⟩ := hcell 0 _ rfl
      subst h2
      have e0 := pw_cell_below hW (h3 0 _ rfl)
      have e1 := pw_cell_below hW (h3 1 _ rfl)
      exact see_Fault_at p c ad W hGW hc.1 hc.2 ⟨by simpa using e0, by simpa using e1⟩
    · rw [if_neg hc] at h
      cases h

/-! ### wire_Err: function 16 -/
def wire_Err.f (f0 : List Int) (f1 : Int) (f2 : Option (Int × Int)) : Option (Option (Int × Int) × Int × Option (Int × Int)) := some (f2, f1, f2)
theorem wire_Err.calls [Sent] (g : Nat) (f0 : List Int) (f1 : Int) (f2 : Option (Int × Int)) (r : Option (Int × Int)) (r2 : Int) (r3 : Option (Int × Int)) (w0 w : World) (hI : IsS50 w0 w g f0 f1 f2) (hB : Below w0.heap.size w0 w) (h : wire_Err.f f0 f1 f2 = some (r, r2, r3)) :
    Calls Tryd.prog 16 #[.pointer (some ⟨g, 0, none⟩)] w fun e w' => ∃ A_ : Option Addr, e = .returned (errU r A_) ∧ Kd.C (Kd.raw 2) w' A_ (atl r).length (atl r) ∧ IsS50 w0 w' g f0 r2 r3 ∧ Below w0.heap.size w0 w' ∧ KeepBut w w' g none := by
  simp only [wire_Err.f, Option.some.injEq, Prod.mk.injEq] at h
  obtain ⟨rfl, rfl, rfl⟩ := h
  have HI := Aside0.mk hI
  have HB := Aside0.mk hB
  obtain ⟨v0, A2, hb, _, _, he, -⟩ := hI
  have HE := Aside0.mk he.reads
  have m1 := blk_cell hb 2
  simp at m1
  clear hb hB he
  go_enter Tryd.func16, Tryd.ntmps16
  go_wp2
  go_ret
  exact ⟨A2, rfl, HE.out, HI.out, HB.out, KeepBut.refl _ _ _⟩

/-! ### pendulumworld_Number: function 19 -/
def pendulumworld_Number.f (a0 : Int) (a1 : Int) : Option (Int) := if a1 = 0 then (none) else (if (Int.tmod a0 a1) < 0 then (some (wrap64 ((Int.tmod a0 a1) + a1))) else (some (Int.tmod a0 a1)))
set_option maxHeartbeats 8000000 in
set_option maxRecDepth 100000 in
theorem pendulumworld_Number.calls [Sent] (a0 : Int) (a1 : Int) (r : Int) (w : World) (h : pendulumworld_Number.f a0 a1 = some r) :
    Calls Tryd.prog 19 #[.int .i64 a0, .int .i64 a1] w fun e w' => e = .returned (.int .i64 r) ∧ Drawn0 w w' := by
  have H : (if a1 = 0 then (none) else (if (Int.tmod a0 a1) < 0 then (some (wrap64 ((Int.tmod a0 a1) + a1))) else (some (Int.tmod a0 a1)))) = some r := h
  clear h
  by_cases c3 : a1 = 0
  · rw [if_pos c3] at H
    exact absurd H (by simp)
  · rw [if_neg c3] at H
    have c3b0 : (a1 == 0) = false := beq_eq_false_iff_ne.mpr c3
    have c3b1 : (a1 != 0) = true := bne_iff_ne.mpr c3
    by_cases c4 : (Int.tmod a0 a1) < 0
    · rw [if_pos c4] at H
      have c4b0 : decide ((Int.tmod a0 a1) < 0) = true := decide_eq_true c4
      clear c4
      obtain rfl := Option.some.inj H
      simp only [Option.some.injEq, Prod.mk.injEq] at H
      obtain ⟨rfl⟩ := H
      go_enter Tryd.func19, Tryd.ntmps19
      go_wp2
      go_ret
      exact ⟨by first | rfl | (simp; done) | (simp [*]; done), by repeat (first | exact Drawn0.refl _ | apply Drawn0.step)⟩
    · rw [if_neg c4] at H
      have c4b0 : decide ((Int.tmod a0 a1) < 0) = false := decide_eq_false c4
      clear c4
      obtain rfl := Option.some.inj H
      simp only [Option.some.injEq, Prod.mk.injEq] at H
      obtain ⟨rfl⟩ := H
      go_enter Tryd.func19, Tryd.ntmps19
      go_wp2
      go_ret
      exact ⟨by first | rfl | (simp; done) | (simp [*]; done), by repeat (first | exact Drawn0.refl _ | apply Drawn0.step)⟩

/-! ### wire_Left: function 20 -/
def wire_Left.f (f0 : List Int) (f1 : Int) (f2 : Option (Int × Int)) : Option (Int × Int × Option (Int × Int)) := some ((f0.length : Int) - f1, f1, f2)
theorem wire_Left.calls [Sent] (g : Nat) (f0 : List Int) (f1 : Int) (f2 : Option (Int × Int)) (r : Int) (r2 : Int) (r3 : Option (Int × Int)) (w0 w : World) (hI : IsS50 w0 w g f0 f1 f2) (hB : Below w0.heap.size w0 w) (h : wire_Left.f f0 f1 f2 = some (r, r2, r3)) :
    Calls Tryd.prog 20 #[.pointer (some ⟨g, 0, none⟩)] w fun e w' => e = .returned (.int .i64 r) ∧ IsS50 w0 w' g f0 r2 r3 ∧ Below w0.heap.size w0 w' ∧ KeepBut w w' g none := by
  simp only [wire_Left.f, Option.some.injEq, Prod.mk.injEq] at h
  obtain ⟨rfl, rfl, rfl⟩ := h
  have HI := Aside0.mk hI
  have HB := Aside0.mk hB
  have HP := Aside0.mk hI.pos
  obtain ⟨v0, A2, hb, _, hr, -⟩ := hI
  obtain ⟨A0, c0, rfl⟩ := Kd.R_slice hr
  have hlen : f0.length ≤ 9223372036854775807 := (Kd.R_reads' hr).2.2.2.1
  have HL := Aside0.mk hlen
  have m1 := blk_cell hb 1
  have m0 := blk_cell hb 0
  simp at m1 m0
  clear hb hB hr hlen
  go_enter Tryd.func20, Tryd.ntmps20
  go_wp2
  go_region
  all_goals go_wp2
  go_ret
  have h1 := HP.out
  have h2 := HL.out
  have e : wrap64 ((f0.length : Int) - f1) = (f0.length : Int) - f1 := by unfold wrap64; omega
  exact ⟨by rw [e]; rfl, HI.out.drew, below_drew HB.out, keep_drew (KeepBut.refl _ _ _)⟩

/-! ### wire_PutText: function 21 -/
def wire_PutText.f (k : Nat) (l0 : List Int) (a1 : ByteArray) : Option (List Int) := (slices_CloneU8.f l0).bind fun t139 => ((wire_put.f k t139 (a1.size : Int)).bind fun t142 => (if t142.length + a1.size < 140737488355328 then (some (t142 ++ bytesOf a1)) else (none)))
theorem wire_PutText.mono : ∀ a0 a1 k, LeO (wire_PutText.f k a0 a1) (wire_PutText.f (k + 1) a0 a1) := by
  intro a0 a1 k
  unfold wire_PutText.f
  repeat' first
      | (with_reducible exact wire_put.mono _ _ _)
      | (with_reducible exact LeO.refl _)
      | (with_reducible exact LeO.none _)
      | (with_reducible refine LeO.ite ?_ ?_)
      | (with_reducible refine LeO.bind ?_ (fun _ => ?_))
      | exact wire_put.mono _ _ _
      | exact LeO.none _
      | refine LeO.ite ?_ ?_
      | refine LeO.bind ?_ (fun _ => ?_)
set_option maxHeartbeats 8000000 in
set_option maxRecDepth 100000 in
theorem wire_PutText.calls [Sent] (k : Nat) (A0 : Option Addr) (c0 : Nat) (l0 : List Int) (a1 : ByteArray) (r : List Int) (w : World) (hr0 : Kd.C (Kd.int .u8) w A0 l0.length l0) (hc0 : l0.length ≤ c0) (h : wire_PutText.f k l0 a1 = some r) :
    Calls Tryd.prog 21 #[.slice A0 l0.length c0, .string a1] w fun e w' => ∃ v0_ : Value, e = .returned (v0_) ∧ Kd.R (Kd.int .u8) 5 w' w.heap.size (fun _ => True) v0_ r ∧ Below w.heap.size w w' := by
  have HR0 := Aside0.mk hr0
  have HC0 := Aside0.mk hc0
  clear hr0 hc0
  have HB := Aside0.mk (Below.refl w.heap.size w)
  have H : ((slices_CloneU8.f l0).bind fun t139 => ((wire_put.f k t139 (a1.size : Int)).bind fun t142 => (if t142.length + a1.size < 140737488355328 then (some (t142 ++ bytesOf a1)) else (none)))) = some r := h
  clear h
  replace H := Option.bind_eq_some_iff.mp H
  obtain ⟨t139, A30, H⟩ := H
  replace H : ((wire_put.f k t139 (a1.size : Int)).bind fun t142 => (if t142.length + a1.size < 140737488355328 then (some (t142 ++ bytesOf a1)) else (none))) = some r := H
  have A3 := Aside0.mk A30
  clear A30
  replace H := Option.bind_eq_some_iff.mp H
  obtain ⟨t142, A40, H⟩ := H
  replace H : (if t142.length + a1.size < 140737488355328 then (some (t142 ++ bytesOf a1)) else (none)) = some r := H
  have A4 := Aside0.mk A40
  clear A40
  by_cases c5 : t142.length + a1.size < 140737488355328
  · rw [if_pos c5] at H
    have LMc5 := Aside0.mk c5
    clear c5
    obtain ⟨y145, hy145⟩ : ∃ y_ : List Int, y_ = (t142 ++ bytesOf a1) := ⟨_, rfl⟩
    replace H : (some y145) = some r := by first | (rw [hy145]; with_reducible exact H) | (have H2_ := (Option.bind_some _ _).symm.trans H; rw [hy145]; with_reducible exact H2_) | (have H2_ := (Option.bind_some _ _).symm.trans H; with_reducible exact H2_) | with_reducible exact H | (rw [hy145]; exact H) | exact H
    have Ny145 := Aside0.mk hy145
    clear hy145
    obtain rfl := Option.some.inj H
    simp only [Option.some.injEq, Prod.mk.injEq] at H
    obtain ⟨rfl⟩ := H
    go_enter Tryd.func21, Tryd.ntmps21
    go_wp2_with (first | ((with_reducible refine gate_callee (f := 27) rfl ?_); refine goesL_ (some 6) rfl rfl Tryd.func27 (by kernel_rfl) rfl #[.slice A0 l0.length c0] rfl (by (try simp only [List.map_toArray, List.map_cons, List.map_nil]); first | done | rfl | (simp only [List.length_drop, List.length_take]; rfl)) ?_; (with_reducible refine (slices_CloneU8.calls _ _ l0 t139 _ ?side1 ?side2 A3.out).mono ?_); (case side1 => repeat (first | exact HR0.out | (with_reducible refine Kd.C_alloc ?_ _) | (with_reducible refine Kd.C_drewN ?_ _) | (with_reducible refine Kd.C_drew ?_))); (case side2 => exact HC0.out); rintro e w6 ⟨v140, rfl, ho0, hb⟩; refine ⟨_, rfl, ?_⟩; have n0_ := Aside0.mk (Kd.R_lower ho0 (below_size (by repeat (first | (with_reducible first | exact HB.out | apply below_alloc | apply pw_below_drewN | apply below_drew1) | exact HB.out)))); have n1_ := Aside0.mk (below_step (by repeat (first | (with_reducible first | exact HB.out | apply below_alloc | apply pw_below_drewN | apply below_drew1) | exact HB.out)) hb); clear HB; have HO141 := n0_; have HB := n1_; clear n0_ n1_; (try clear hb); (try clear hb2); (try clear hk); (try clear hi); (try clear ho0); obtain ⟨Ao7, co7, eo7⟩ := Kd.R_slice HO141.out; subst eo7) | ((with_reducible refine gate_callee (f := 26) rfl ?_); refine goesL_ (some 9) rfl rfl Tryd.func26 (by kernel_rfl) rfl #[.slice Ao7 t139.length co7, .int .i64 (a1.size : Int)] rfl (by (try simp only [List.map_toArray, List.map_cons, List.map_nil]); first | done | rfl | (simp only [List.length_drop, List.length_take]; rfl)) ?_; (with_reducible refine (wire_put.calls k (fun k_ => some k_ = (.slice Ao7 t139.length co7 : Value).ownBlock) (.slice Ao7 t139.length co7) t139 (a1.size : Int) t142 w _ ?side1 ?side2 A4.out).mono ?_); (case side1 => repeat (first | (with_reducible first | exact HB.out | apply below_alloc | apply pw_below_drewN | apply below_drew1) | exact HB.out)); (case side2 => exact Kd.R_tight rfl HO141.out); rintro e w8 ⟨v143, rfl, ho0, hb, hkp⟩; refine ⟨_, rfl, ?_⟩; have n0_ := Aside0.mk (Kd.R_mono (ok' := fun k_ => True) ho0 (fun k_ hk_ => trivial)); have n1_ := Aside0.mk (hb); clear HB; clear HO141; have HO144 := n0_; have HB := n1_; clear n0_ n1_; (try clear hb); (try clear hkp); (try clear ho0)) | (at_builtin; refine print_append_str (w0 := w) w.heap.size rfl (.tmp 9) _ 23 9 5 rfl Tryd.underlying23 Tryd.underlying9 info5 v143 t142 a1 rfl rfl ?aO ?aB ?aS ?aL ?_; (case aB => exact (by repeat (first | (with_reducible first | exact HB.out | apply below_alloc | apply pw_below_drewN | apply below_drew1) | exact HB.out))); (case aO => exact (Kd.own_of_R (by (with_reducible repeat (first | apply Kd.R_alloc | apply Kd.R_drewN | apply Kd.R_drew)); exact HO144.out))); (case aS => exact (below_size (by repeat (first | (with_reducible first | exact HB.out | apply below_alloc | apply pw_below_drewN | apply below_drew1) | exact HB.out)))); (case aL => have := LMc5.out; omega); intro v146 w9 ho0 hb hg; have ho := Kd.R_of_own (h1 := fun _ => rfl) (ok := fun _ => True) ho0 (fun _ _ => trivial); clear ho0; have hat := True.intro; rw [← Ny145.out] at ho; change Kd.R (Kd.int .u8) 5 w9 w.heap.size (fun _ => True) v146 y145 at ho; have n0_ := Aside0.mk (hb); have n1_ := Aside0.mk (ho); clear HB; clear HO144; have HB := n0_; have HO147 := n1_; clear n0_ n1_; clear ho hb hg hat))
    go_ret
    exact ⟨_, by first | rfl | (simp [errW_none, errW_some] <;> rfl) | (simp [*, errW_none, errW_some] <;> rfl), by (with_reducible repeat (first | apply Kd.R_alloc | apply Kd.R_drewN | apply Kd.R_drew)); exact HO147.out, by repeat (first | (with_reducible first | exact HB.out | apply below_alloc | apply pw_below_drewN | apply below_drew1) | exact HB.out)⟩
  · rw [if_neg c5] at H
    exact absurd H (by simp)

/-! ### wire_Num: function 14 -/
/-! bits -/
theorem wb_andNot (c : Int) (h0 : 0 ≤ c) (h1 : c < 256) : bits .andNot .u8 c 128 = c % 128 := by
  rw [u8_andNot c 128 h0 h1 (by omega) (by omega), show (255 - (128 : Int).toNat) = 2 ^ 7 - 1 by decide, Nat.and_two_pow_sub_one_eq_mod]
  omega
theorem wb_pow (i : Nat) : (2 : Int) ^ (7 * (i : Int)).toNat = 128 ^ i := by
  rw [show (7 * (i : Int)).toNat = 7 * i by omega, Int.pow_mul]
  rfl
theorem wb_top (c : Int) (i : Nat) (hi : i ≤ 9) (hc0 : 0 ≤ c) (hc : c < 128) (h9 : i = 9 → c ≤ 1) : c * 128 ^ i + 128 ^ i ≤ 18446744073709551616 := by
  have : i = 0 ∨ i = 1 ∨ i = 2 ∨ i = 3 ∨ i = 4 ∨ i = 5 ∨ i = 6 ∨ i = 7 ∨ i = 8 ∨ i = 9 := by omega
  rcases this with rfl | rfl | rfl | rfl | rfl | rfl | rfl | rfl | rfl | rfl
  all_goals simp only [show (128 : Int) ^ 0 = 1 from rfl, show (128 : Int) ^ 1 = 128 from rfl, show (128 : Int) ^ 2 = 16384 from rfl, show (128 : Int) ^ 3 = 2097152 from rfl, show (128 : Int) ^ 4 = 268435456 from rfl, show (128 : Int) ^ 5 = 34359738368 from rfl, show (128 : Int) ^ 6 = 4398046511104 from rfl, show (128 : Int) ^ 7 = 562949953421312 from rfl, show (128 : Int) ^ 8 = 72057594037927936 from rfl, show (128 : Int) ^ 9 = 9223372036854775808 from rfl]
  all_goals omega
theorem wb_or (z c : Int) (i : Nat) (hi : i ≤ 9) (hz0 : 0 ≤ z) (hz : z < 128 ^ i) (hc0 : 0 ≤ c) (hc : c < 128) (h9 : i = 9 → c ≤ 1) :
    IntKind.u64.wrap (c * 128 ^ i) = c * 128 ^ i ∧ bits .or .u64 z (c * 128 ^ i) = z + c * 128 ^ i ∧ z + c * 128 ^ i < 18446744073709551616 := by
  have ht := wb_top c i hi hc0 hc h9
  have hp : (0 : Int) < 128 ^ i := Int.pow_pos (by omega)
  have hn : 0 ≤ c * 128 ^ i := Int.mul_nonneg hc0 (by omega)
  refine ⟨by rw [IntKind.wrap_u64]; omega, ?_, by omega⟩
  rw [u64_or z _ hz0 (by omega) hn (by omega), Nat.or_comm]
  have e1 : (c * 128 ^ i).toNat = 2 ^ (7 * i) * c.toNat := by
    rw [Int.toNat_mul hc0 (by omega), Nat.mul_comm, Nat.pow_mul]
    rw [show (128 : Int) ^ i = ((128 ^ i : Nat) : Int) by simp, Int.toNat_natCast]
  have e2 : z.toNat < 2 ^ (7 * i) := by
    rw [Nat.pow_mul]
    have : ((z.toNat : Nat) : Int) < ((2 ^ 7) ^ i : Nat) := by
      rw [Int.toNat_of_nonneg hz0]
      simpa using hz
    exact_mod_cast this
  rw [e1, ← Nat.two_pow_add_eq_or_of_lt e2, ← e1]
  omega
theorem wb_unzig (z : Int) (h0 : 0 ≤ z) (h1 : z < 18446744073709551616) : bits .xor .i64 (wrap64 (z / 2)) (wrap64 (-(wrap64 (bits .and .u64 z 1)))) = unzig z := by
  rw [Lib.u64_and1 z h0 h1]
  have e1 : wrap64 (z / 2) = z / 2 := by unfold wrap64; omega
  rw [e1]
  unfold unzig
  by_cases h : z % 2 = 0
  · rw [if_pos h, h]
    obtain ⟨x, hx⟩ := Int.eq_ofNat_of_zero_le (show 0 ≤ z / 2 by omega)
    rw [hx, show wrap64 (-wrap64 0) = 0 by unfold wrap64; rfl]
    have hb : (BitVec.ofInt 64 (x : Int)).toNat = x := by
      rw [BitVec.toNat_ofInt]
      omega
    show IntKind.i64.wrap ((BitVec.ofInt 64 (x : Int) ^^^ BitVec.ofInt 64 0).toNat : Int) = _
    rw [show BitVec.ofInt 64 0 = 0#64 by decide, BitVec.xor_zero, hb, IntKind.wrap_i64]
    omega
  · rw [if_neg h, show z % 2 = 1 by omega]
    obtain ⟨x, hx⟩ := Int.eq_ofNat_of_zero_le (show 0 ≤ z / 2 by omega)
    rw [hx, show wrap64 (-wrap64 1) = -1 by unfold wrap64; rfl]
    have hc : bits .xor .i64 (x : Int) (-1) = bits .xor .i64 (-1) (x : Int) := by
      show IntKind.i64.wrap ((BitVec.ofInt 64 (x : Int) ^^^ BitVec.ofInt 64 (-1)).toNat : Int) = IntKind.i64.wrap ((BitVec.ofInt 64 (-1) ^^^ BitVec.ofInt 64 (x : Int)).toNat : Int)
      rw [BitVec.xor_comm]
    rw [hc, Lib.i64_not x (by omega)]
set_option maxRecDepth 100000 in
set_option maxHeartbeats 1000000 in
theorem wire_fail [Sent] (g : Nat) (f0 : List Int) (f1 : Int) (f2 : Option (Int × Int)) (c : Int) (w0 w : World) (hI : IsS50 w0 w g f0 f1 f2) (hB : Below w0.heap.size w0 w) :
    Calls Tryd.prog 29 #[.pointer (some ⟨g, 0, none⟩), sentV c] w fun e w' => e = .returned (.tuple #[]) ∧ IsS50 w0 w' g f0 f1 (some (f1, c)) ∧ Below w0.heap.size w0 w' ∧ KeepBut w w' g none := by
  have HI := Aside0.mk hI
  have HB := Aside0.mk hB
  obtain ⟨v0, A2, hb, hg, hr, he, hp⟩ := hI
  have HBK := Aside0.mk hb
  have m1 := blk_cell hb 1
  have m2' := Lib.cell?_alloc_some (o := .cells #[.int .i64 f1, sentV c] 61) (blk_cell hb 2)
  have m3 : (w.alloc (.cells #[.int .i64 f1, sentV c] 61)).frozen? ⟨g, 2, none⟩ = false := blk_frozen (blk_alloc hb _) 2
  simp [sentV] at m1 m2' m3
  have HG := Aside0.mk hg
  have HR := Aside0.mk hr
  have HP := Aside0.mk hp
  have hu := Tryd.underlying61
  clear hb hB hr he hg hp
  unfold sentV
  go_enter Tryd.func29, Tryd.ntmps29
  go_wp2
  go_end0
  have hA : (w.alloc (.cells #[.int .i64 f1, sentV c] 61)).heap[g]? = some (.cells #[v0, .int .i64 f1, errU f2 A2] 50 (0, 0)) := blk_alloc HBK.out _
  have hlt := blk_lt HBK.out
  refine ⟨rfl, ⟨v0, some ⟨w.heap.size, 0, none⟩, blk_set hA 2 (.iface 59 (.pointer (some ⟨w.heap.size, 0, none⟩))), HG.out, ?_, ?_, HP.out⟩, ?_, ?_⟩
  · exact Kd.R_far (Kd.R_alloc HR.out _) (fun k hk e => Kd.R_ne HR.out HBK.out (by decide) (by subst e; exact hk)) _
  · intro p c' e
    simp only [Option.some.injEq, Prod.mk.injEq] at e
    obtain ⟨rfl, rfl⟩ := e
    refine ⟨w.heap.size, rfl, HB.out.size, ?_⟩
    exact blk_far (heap_alloc_new w _) (Nat.ne_of_gt hlt) _
  · exact below_set (below_alloc HB.out _) HG.out
  · refine ⟨by simp, fun k hk hne _ => ?_⟩
    rw [Below.heap_setCell _ _ _ _ hne]
    exact (below_alloc (Below.refl w.heap.size w) _).block k hk
theorem wire_step {α : Type} (i : Nat) (c : Int) (A B C s : α) (hi : i ≤ 9) (hc : 0 ≤ c ∧ c < 256) (h9 : ¬(i = 9 ∧ 1 < c)) (hs : (if 128 ≤ c then A else if c = 0 ∧ 0 < i then B else C) = s) :
    ((((i : Int) == 9) = true ∧ decide (1 < c) = false) ∨ ((i : Int) == 9) = false) ∧ ((decide (128 ≤ c) = true ∧ i < 9 ∧ A = s) ∨ (decide (128 ≤ c) = false ∧ (c == 0) = true ∧ decide (0 < (i : Int)) = true ∧ B = s) ∨ (decide (128 ≤ c) = false ∧ (c == 0) = true ∧ decide (0 < (i : Int)) = false ∧ C = s) ∨ (decide (128 ≤ c) = false ∧ (c == 0) = false ∧ C = s)) := by
  constructor
  · by_cases e : i = 9
    · refine .inl ⟨by simp; omega, decide_eq_false (fun h => h9 ⟨e, h⟩)⟩
    · exact .inr (by simp; omega)
  · by_cases h1 : 128 ≤ c
    · rw [if_pos h1] at hs
      exact .inl ⟨decide_eq_true h1, by by_cases e : i = 9; exact absurd ⟨e, by omega⟩ h9; omega, hs⟩
    · rw [if_neg h1] at hs
      by_cases h2 : c = 0 ∧ 0 < i
      · rw [if_pos h2] at hs
        exact .inr (.inl ⟨decide_eq_false h1, by simp [h2.1], decide_eq_true (by have := h2.2; omega), hs⟩)
      · rw [if_neg h2] at hs
        by_cases h3 : c = 0
        · exact .inr (.inr (.inl ⟨decide_eq_false h1, by simp [h3], decide_eq_false (fun h => h2 ⟨h3, by omega⟩), hs⟩))
        · exact .inr (.inr (.inr ⟨decide_eq_false h1, by simp [h3], hs⟩))
set_option maxRecDepth 100000 in
set_option maxHeartbeats 2000000 in
theorem wire_number [Sent] (g : Nat) (f0 : List Int) (f1 : Int) (f2 : Option (Int × Int)) (w0 w : World) (hI : IsS50 w0 w g f0 f1 f2) (hG : GlobW w) :
    Calls Tryd.prog 28 #[.pointer (some ⟨g, 0, none⟩)] w fun e w' => e = .returned (.tuple #[.int .i64 (scan (f0.drop f1.toNat) 0 0).2.1, .int .i64 (scan (f0.drop f1.toNat) 0 0).2.2, errW (if (scan (f0.drop f1.toNat) 0 0).1 = 0 then none else some (scan (f0.drop f1.toNat) 0 0).1)]) ∧ ∃ n, w' = w.drewN n := by
  have HP := Aside0.mk hI.pos
  have HG := Aside0.mk hG
  obtain ⟨s, hs⟩ : ∃ s, scan (f0.drop f1.toNat) 0 0 = s := ⟨_, rfl⟩
  rw [hs]
  obtain ⟨u, hu⟩ : ∃ u, errW (if s.1 = 0 then none else some s.1) = u := ⟨_, rfl⟩
  rw [hu]
  have HU := Aside0.mk hu
  clear hu
  have HS := Aside0.mk hs
  obtain ⟨v0, A2, hb, _, hr, -⟩ := hI
  obtain ⟨A0, c0, rfl⟩ := Kd.R_slice hr
  have HC := Aside0.mk (Kd.R_reads' hr).2.2
  have HL := Aside0.mk (show f0.length ≤ 9223372036854775807 from (Kd.R_reads' hr).2.2.2.1)
  have HBK := Aside0.mk hb
  clear hb hr hs hG
  go_enter Tryd.func28, Tryd.ntmps28
  go_wp2
  go_loopg [5, 6] (f0.length + 1) (fun kq v5 v6 w' => ∃ (i : Nat) (z : Int) (n : Nat), v5 = .int .u64 z ∧ v6 = .int .i64 (i : Int) ∧ w' = w.drewN n ∧ Aside0 (i ≤ 9 ∧ 0 ≤ z ∧ z < 128 ^ i ∧ f1.toNat + i ≤ f0.length ∧ f0.length + 1 ≤ kq + (f1.toNat + i) ∧ scan (f0.drop (f1.toNat + i)) i z = s))
  case atStart => exact ⟨0, 0, 0, rfl, rfl, rfl, ⟨by have := HP.out; omega, by omega, by simp, by have := HP.out; omega, by omega, by simpa using HS.out⟩⟩
  case round =>
    obtain ⟨i, z, n, rfl, rfl, rfl, HA⟩ := hrel
    have hb := blk_drewN HBK.out n
    have m0 := blk_cell hb 0
    have m1 := blk_cell hb 1
    simp at m0 m1
    clear hb
    have ha : wrap64 (f1 + (i : Int)) = f1 + i := by have := HA.out; have := HP.out; have := HL.out; unfold wrap64; omega
    by_cases hend : (f0.length : Int) ≤ f1 + i
    · have d1 : decide ((f0.length : Int) ≤ f1 + i) = true := decide_eq_true hend
      have hgl := (HG.out.1 (101, 1) (by decide)).1
      have HE := Aside0.mk hend
      clear hend
      go_wp2
      go_region
      all_goals go_wp2
      all_goals go_region
      all_goals go_wp2
      all_goals go_ret3
      all_goals (have hs := HA.out.2.2.2.2.2; rw [List.drop_eq_nil_of_le (by have := HE.out; have := HP.out; omega)] at hs; exact ⟨by rw [← HU.out, ← hs]; rfl, _, rfl⟩)
    · have d1 : decide ((f0.length : Int) ≤ f1 + i) = false := decide_eq_false hend
      have p1 : 0 ≤ f1 + (i : Int) := by have := HP.out; omega
      have q1 : f1 + (i : Int) < (f0.length : Int) := by omega
      obtain ⟨ad, e1, hx⟩ := Kd.at_int HC.out (f1 + i) p1 q1
      cases e1
      obtain ⟨c, hc⟩ : ∃ c, rd f0 (f1 + i) = c := ⟨_, rfl⟩
      rw [hc] at hx
      have HCC := Aside0.mk hc
      have HE := Aside0.mk hend
      clear hend hc
      replace p1 := eq_true p1
      replace q1 := eq_true q1
      have hcb : 0 ≤ c ∧ c < 256 := by
        rw [← HCC.out]
        refine HP.out.2.2 _ ?_
        have hlt : (f1 + (i : Int)).toNat < f0.length := by have := HE.out; have := HP.out; omega
        unfold rd
        rw [List.getD_eq_getElem?_getD, List.getElem?_eq_getElem hlt]
        exact List.getElem_mem _
      have hdrop : f0.drop (f1.toNat + i) = c :: f0.drop (f1.toNat + (i + 1)) := by
        have hlt : f1.toNat + i < f0.length := by have := HE.out; have := HP.out; omega
        rw [List.drop_eq_getElem_cons hlt, ← HCC.out]
        unfold rd
        rw [show (f1 + (i : Int)).toNat = f1.toNat + i by have := HP.out; omega, List.getD_eq_getElem?_getD, List.getElem?_eq_getElem hlt]
        rfl
      have hs := HA.out.2.2.2.2.2
      rw [hdrop, scan] at hs
      have HS2 := Aside0.mk hs
      have HCB := Aside0.mk hcb
      clear hs hdrop hcb
      by_cases h9 : i = 9 ∧ 1 < c
      · have b9 : ((i : Int) == 9) = true := by simp; omega
        have b1 : decide (1 < c) = true := decide_eq_true h9.2
        have hgl := (HG.out.1 (102, 2) (by decide)).1
        have H9 := Aside0.mk h9
        clear h9
        go_wp2
        go_region
        all_goals go_wp2
        all_goals go_region
        all_goals go_wp2
        all_goals go_region
        all_goals go_wp2
        all_goals go_ret3
        all_goals (have hs := HS2.out; rw [if_pos H9.out] at hs; exact ⟨by rw [← HU.out, ← hs]; rfl, _, rfl⟩)
      · have HX := Aside0.mk (wb_or z (c % 128) i HA.out.1 HA.out.2.1 HA.out.2.2.1 (by omega) (by omega) (by have := HCB.out; omega))
        have HF := Aside0.mk (show bits .andNot .u8 c 128 = c % 128 ∧ IntKind.u64.wrap (c % 128) = c % 128 ∧ wrap64 (7 * (i : Int)) = 7 * i ∧ (0 ≤ 7 * (i : Int)) = True ∧ (7 * (i : Int) ≤ 64) = True ∧ wrap64 ((i : Int) + 1) = (i : Int) + 1 from by
          have hi := HA.out.1
          have hc := HCB.out
          clear HX HA
          refine ⟨wb_andNot c hc.1 hc.2, by rw [IntKind.wrap_u64]; omega, by unfold wrap64; omega, eq_true (by omega), eq_true (by omega), by unfold wrap64; omega⟩)
        have H9 := Aside0.mk h9
        clear h9
        obtain ⟨z', hz'⟩ : ∃ z', z + c % 128 * 128 ^ i = z' := ⟨_, rfl⟩
        have HZ := Aside0.mk hz'
        clear hz'
        have HZ' := Aside0.mk (show 0 ≤ z' ∧ z' < 18446744073709551616 from ⟨by rw [← HZ.out]; exact Int.add_nonneg HA.out.2.1 (Int.mul_nonneg (Int.emod_nonneg _ (by decide)) (Int.le_of_lt (Int.pow_pos (by decide)))), by rw [← HZ.out]; exact HX.out.2.2⟩)
        have HZ2 := Aside0.mk (show z' < 128 ^ (i + 1) from by
          rw [← HZ.out, Int.pow_succ, Int.mul_comm (128 ^ i) 128]
          have h1 := HA.out.2.2.1
          have h2 : c % 128 * 128 ^ i ≤ 127 * 128 ^ i := Int.mul_le_mul_of_nonneg_right (by omega) (Int.le_of_lt (Int.pow_pos (by decide)))
          have e : (128 : Int) * 128 ^ i = 127 * 128 ^ i + 128 ^ i := by rw [show (128 : Int) = 127 + 1 by decide, Int.add_mul]; simp
          rw [e]
          exact Int.lt_of_lt_of_le (Int.add_lt_add_right h1 _) (by rw [Int.add_comm]; exact Int.add_le_add_right h2 _))
        have hs := HS2.out
        rw [if_neg H9.out, HZ.out] at hs
        have hk := wire_step i c _ _ _ s HA.out.1 HCB.out H9.out hs
        clear hs
        have HXZ := Aside0.mk (wb_unzig z' HZ'.out.1 HZ'.out.2)
        obtain ⟨k9, k0⟩ := hk
        have hb4 := HX.out.2.1
        rw [HZ.out] at hb4
        have hb3 := HX.out.1
        have hp7 := wb_pow i
        obtain ⟨hb1, hb2, hw7, h70, h71, hwi⟩ := HF.out
        have HWI := Aside0.mk hwi
        clear hwi
        rcases k0 with ⟨d2, hi9, hs⟩ | ⟨d2, d3, d4, hs⟩ | ⟨d2, d3, d4, hs⟩ | ⟨d2, d3, hs⟩
        · have HS3 := Aside0.mk hs
          have HI9 := Aside0.mk hi9
          clear hs hi9
          rcases k9 with ⟨b9, b1⟩ | b9
          all_goals go_wp2
          all_goals go_region
          all_goals go_wp2
          all_goals go_region
          all_goals go_wp2
          all_goals go_roundg (gk - 1)
          case rel => exact ⟨i + 1, z', n + 1 + 1, rfl, by rw [HWI.out]; rfl, rfl, ⟨HI9.out, HZ'.out.1, HZ2.out, by have h1 := HE.out; have h2 := HP.out; clear HA; omega, by have h1 := HA.out.2.2.2.2.1; clear HA; omega, HS3.out⟩⟩
          case measure => have h0 := HA.out.2.2.2.2.1; have h1 := HE.out; have h2 := HP.out; clear HA; omega
          case rel => exact ⟨i + 1, z', n + 1 + 1, rfl, by rw [HWI.out]; rfl, rfl, ⟨HI9.out, HZ'.out.1, HZ2.out, by have h1 := HE.out; have h2 := HP.out; clear HA; omega, by have h1 := HA.out.2.2.2.2.1; clear HA; omega, HS3.out⟩⟩
          case measure => have h0 := HA.out.2.2.2.2.1; have h1 := HE.out; have h2 := HP.out; clear HA; omega
        · have d5 := eq_true (of_decide_eq_true d4)
          have d6 : (0 < i) = True := eq_true (Int.natCast_pos.1 (of_decide_eq_true d4))
          have hgl := (HG.out.1 (102, 2) (by decide)).1
          have HS3 := Aside0.mk hs
          clear hs
          rcases k9 with ⟨b9, b1⟩ | b9
          all_goals go_wp2
          all_goals go_region
          all_goals go_wp2
          all_goals go_region
          all_goals go_wp2
          all_goals go_region
          all_goals go_wp2
          all_goals go_ret3
          all_goals exact ⟨by rw [← HU.out, ← HS3.out]; first | rfl | (show Ending.returned (Value.tuple #[_, Value.int IntKind.i64 (wrap64 _), _]) = _; rw [HWI.out]; rfl), _, rfl⟩
        · have d5 := eq_false (of_decide_eq_false d4)
          have d6 : (0 < i) = False := eq_false (fun h => of_decide_eq_false d4 (Int.natCast_pos.2 h))
          have hxz := HXZ.out
          have HS3 := Aside0.mk hs
          clear hs
          rcases k9 with ⟨b9, b1⟩ | b9
          all_goals go_wp2
          all_goals go_region
          all_goals go_wp2
          all_goals go_region
          all_goals go_wp2
          all_goals go_ret3
          all_goals exact ⟨by rw [← HU.out, ← HS3.out]; first | rfl | (show Ending.returned (Value.tuple #[_, Value.int IntKind.i64 (wrap64 _), _]) = _; rw [HWI.out]; rfl), _, rfl⟩
        · have hxz := HXZ.out
          have HS3 := Aside0.mk hs
          clear hs
          rcases k9 with ⟨b9, b1⟩ | b9
          all_goals go_wp2
          all_goals go_region
          all_goals go_wp2
          all_goals go_region
          all_goals go_wp2
          all_goals go_ret3
          all_goals exact ⟨by rw [← HU.out, ← HS3.out]; first | rfl | (show Ending.returned (Value.tuple #[_, Value.int IntKind.i64 (wrap64 _), _]) = _; rw [HWI.out]; rfl), _, rfl⟩
theorem scan_pos : ∀ (l : List Int) (i : Nat) (z : Int), (scan l i z).1 = 0 → (i : Int) < (scan l i z).2.2 ∧ (scan l i z).2.2 ≤ (i : Int) + l.length
  | [], i, z => by simp [scan]
  | c :: l, i, z => by
    rw [scan]
    have ih := scan_pos l (i + 1) (z + c % 128 * 128 ^ i)
    split
    · simp
    · split
      · intro h
        have := ih h
        simp only [List.length_cons] at *
        omega
      · split
        · simp
        · intro _
          simp only [List.length_cons]
          omega
def wire_Num.f (f0 : List Int) (f1 : Int) (f2 : Option (Int × Int)) (a1 a2 : Int) : Option (Int × Int × Option (Int × Int)) :=
  some (if f2.isSome = true then (0, f1, f2) else
    if (scan (f0.drop f1.toNat) 0 0).1 ≠ 0 then (0, f1, some (f1, (scan (f0.drop f1.toNat) 0 0).1)) else
    if (scan (f0.drop f1.toNat) 0 0).2.1 < a1 ∨ a2 < (scan (f0.drop f1.toNat) 0 0).2.1 then (0, f1, some (f1, 104)) else
    ((scan (f0.drop f1.toNat) 0 0).2.1, f1 + (scan (f0.drop f1.toNat) 0 0).2.2, none))
set_option maxRecDepth 100000 in
set_option maxHeartbeats 2000000 in
theorem wire_Num.calls [Sent] (g : Nat) (f0 : List Int) (f1 : Int) (f2 : Option (Int × Int)) (a1 : Int) (a2 : Int) (r : Int) (r2 : Int) (r3 : Option (Int × Int)) (w0 w : World) (hI : IsS50 w0 w g f0 f1 f2) (hB : Below w0.heap.size w0 w) (hG : GlobW w) (h : wire_Num.f f0 f1 f2 a1 a2 = some (r, r2, r3)) :
    Calls Tryd.prog 14 #[.pointer (some ⟨g, 0, none⟩), .int .i64 a1, .int .i64 a2] w fun e w' => e = .returned (.int .i64 r) ∧ IsS50 w0 w' g f0 r2 r3 ∧ Below w0.heap.size w0 w' ∧ KeepBut w w' g none := by
  obtain ⟨s, hs⟩ : ∃ s, scan (f0.drop f1.toNat) 0 0 = s := ⟨_, rfl⟩
  unfold wire_Num.f at h
  rw [hs] at h
  have HI := Aside0.mk hI
  have HB := Aside0.mk hB
  have HG := Aside0.mk hG
  have HS := Aside0.mk hs
  obtain ⟨v0, A2, hb, hg, hr, he, hp⟩ := hI
  have HL := Aside0.mk (show f0.length ≤ 9223372036854775807 from by obtain ⟨A0, c0, rfl⟩ := Kd.R_slice hr; exact (Kd.R_reads' hr).2.2.2.1)
  have m2 := blk_cell hb 2
  simp at m2
  cases f2 with
  | some x =>
    simp only [Option.isSome_some, if_true, Option.some.injEq, Prod.mk.injEq] at h
    obtain ⟨rfl, rfl, rfl⟩ := h
    simp only [errU] at m2
    clear hb hB hr he hg hp hs hG
    go_enter Tryd.func14, Tryd.ntmps14
    go_wp2
    go_ret
    exact ⟨rfl, HI.out, HB.out, KeepBut.refl _ _ _⟩
  | none =>
    simp only [Option.isSome_none, Bool.false_eq_true, if_false, Option.some.injEq] at h
    simp only [errU] at m2
    have HBK := Aside0.mk hb
    have HP := Aside0.mk hp
    have HN := Aside0.mk (show ∃ u, errW (if s.1 = 0 then none else some s.1) = u from ⟨_, rfl⟩)
    have hnum := wire_number g f0 f1 none w0 w HI.out HG.out
    rw [hs] at hnum
    have HNUM := Aside0.mk hnum
    have HR := Aside0.mk hr
    have HE := Aside0.mk he
    have HG0 := Aside0.mk hg
    clear hb hB hr he hg hp hs hG hnum
    by_cases h1 : s.1 = 0
    · rw [if_pos h1, errW_none] at HNUM
      rw [if_neg (by simp [h1])] at h
      by_cases h2 : s.2.1 < a1 ∨ a2 < s.2.1
      · rw [if_pos h2] at h
        simp only [Prod.mk.injEq] at h
        obtain ⟨rfl, rfl, rfl⟩ := h
        have hgl := (HG.out.1 (104, 0) (by decide)).1
        have H1 := Aside0.mk h1
        clear h1
        rcases (show decide (s.2.1 < a1) = true ∨ (decide (s.2.1 < a1) = false ∧ decide (a2 < s.2.1) = true) from by
          by_cases h3 : s.2.1 < a1
          · exact .inl (decide_eq_true h3)
          · exact .inr ⟨decide_eq_false h3, decide_eq_true (h2.resolve_left h3)⟩) with d1 | ⟨d1, d2⟩
        all_goals clear h2
        all_goals go_enter Tryd.func14, Tryd.ntmps14
        all_goals go_wp2_with (first | (go_at_call 28; refine HNUM.out.mono ?_; rintro e w1 ⟨rfl, n, rfl⟩) | (go_at_call 29; refine (wire_fail g f0 f1 none 104 w0 _ (HI.out.drewN n) (pw_below_drewN HB.out n)).mono ?_; rintro e w2 ⟨rfl, hi, hb, hk⟩; have HI2 := Aside0.mk hi; have HB2 := Aside0.mk hb; have HK2 := Aside0.mk hk; clear hi hb hk))
        all_goals go_ret
        all_goals exact ⟨rfl, HI2.out, HB2.out, HK2.out⟩
      · rw [if_neg h2] at h
        simp only [Prod.mk.injEq] at h
        obtain ⟨rfl, rfl, rfl⟩ := h
        have d1 : decide (s.2.1 < a1) = false := decide_eq_false (fun h => h2 (.inl h))
        have d2 : decide (a2 < s.2.1) = false := decide_eq_false (fun h => h2 (.inr h))
        have HK := Aside0.mk (show 0 < s.2.2 ∧ f1 + s.2.2 ≤ f0.length from by
          have h3 := scan_pos (f0.drop f1.toNat) 0 0
          rw [HS.out] at h3
          have h4 := h3 h1
          rw [List.length_drop] at h4
          have := HP.out.1
          have := HP.out.2.1
          omega)
        have hw : wrap64 (f1 + s.2.2) = f1 + s.2.2 := by
          have h3 := HK.out
          have h4 := HP.out.1
          have h5 := HL.out
          unfold wrap64
          omega
        have m1 := blk_cell HBK.out 1
        have m3 := blk_frozen HBK.out 1
        simp at m1
        clear h1 h2
        go_enter Tryd.func14, Tryd.ntmps14
        go_wp2_with (go_at_call 28; refine HNUM.out.mono ?_; rintro e w1 ⟨rfl, n, rfl⟩)
        go_ret
        rw [hw]
        refine ⟨rfl, ⟨v0, A2, blk_set (blk_drewN HBK.out n) 1 (.int .i64 (f1 + s.2.2)), HG0.out, ?_, ?_, by have := HP.out.1; have := HK.out; omega, HK.out.2, HP.out.2.2⟩, below_set (pw_below_drewN HB.out n) HG0.out, KeepBut.set_ (keep_drewN (KeepBut.refl _ _ _) n) 1 _⟩
        · exact Kd.R_far (Kd.R_drewN HR.out n) (fun k hk e => Kd.R_ne HR.out HBK.out (by decide) (by subst e; exact hk)) _
        · intro p c e
          cases e
    · rw [if_neg h1, errW_some] at HNUM
      rw [if_pos h1] at h
      simp only [Prod.mk.injEq] at h
      obtain ⟨rfl, rfl, rfl⟩ := h
      clear h1
      go_enter Tryd.func14, Tryd.ntmps14
      go_wp2_with (first | (go_at_call 28; refine HNUM.out.mono ?_; rintro e w1 ⟨rfl, n, rfl⟩) | (go_at_call 29; refine (wire_fail g f0 f1 none s.1 w0 _ (HI.out.drewN n) (pw_below_drewN HB.out n)).mono ?_; rintro e w2 ⟨rfl, hi, hb, hk⟩; have HI2 := Aside0.mk hi; have HB2 := Aside0.mk hb; have HK2 := Aside0.mk hk; clear hi hb hk))
      go_ret
      exact ⟨rfl, HI2.out, HB2.out, HK2.out⟩

/-! ### wire_Text: function 24 -/
def wire_Text.f (f0 : List Int) (f1 : Int) (f2 : Option (Int × Int)) (a1 : Int) : Option (ByteArray × Int × Option (Int × Int)) :=
  (wire_Num.f f0 f1 f2 0 a1).map fun x => if x.2.2.isSome = true then (⟨#[]⟩, x.2) else
    if (f0.length : Int) - x.2.1 < x.1 then (⟨#[]⟩, f1, some (f1, 101)) else
    (strOfNums ((f0.take (x.2.1 + x.1).toNat).drop x.2.1.toNat), x.2.1 + x.1, none)
theorem scan_snd : ∀ (l : List Int) (i : Nat) (z : Int), (scan l i z).1 ≠ 0 → (scan l i z).2.1 = 0
  | [], i, z => by simp [scan]
  | c :: l, i, z => by
    rw [scan]
    have ih := scan_snd l (i + 1) (z + c % 128 * 128 ^ i)
    split
    · simp
    · split
      · exact ih
      · split <;> simp
theorem wire_Num_pos (f0 : List Int) (f1 : Int) (f2 : Option (Int × Int)) (a1 n at2 : Int) (er2 : Option (Int × Int)) (h : wire_Num.f f0 f1 f2 0 a1 = some (n, at2, er2)) : er2 = none → 0 ≤ n := by
  unfold wire_Num.f at h
  rintro rfl
  split at h
  · rename_i h1
    simp only [Option.some.injEq, Prod.mk.injEq] at h
    rw [h.2.2] at h1
    cases h1
  · split at h
    · simp only [Option.some.injEq, Prod.mk.injEq] at h
      cases h.2.2
    · split at h
      · simp only [Option.some.injEq, Prod.mk.injEq] at h
        cases h.2.2
      · rename_i h1
        simp only [Option.some.injEq, Prod.mk.injEq] at h
        omega
set_option maxRecDepth 100000 in
set_option maxHeartbeats 2000000 in
theorem wire_Text.calls [Sent] (g : Nat) (f0 : List Int) (f1 : Int) (f2 : Option (Int × Int)) (a1 : Int) (r : ByteArray) (r2 : Int) (r3 : Option (Int × Int)) (w0 w : World) (hI : IsS50 w0 w g f0 f1 f2) (hB : Below w0.heap.size w0 w) (hG : GlobW w) (h : wire_Text.f f0 f1 f2 a1 = some (r, r2, r3)) :
    Calls Tryd.prog 24 #[.pointer (some ⟨g, 0, none⟩), .int .i64 a1] w fun e w' => e = .returned (.string r) ∧ IsS50 w0 w' g f0 r2 r3 ∧ Below w0.heap.size w0 w' ∧ KeepBut w w' g none := by
  obtain ⟨⟨n, at2, er2⟩, hx, he⟩ := Option.map_eq_some_iff.1 h
  simp only at he
  have HX := Aside0.mk hx
  have HI := Aside0.mk hI
  have HB := Aside0.mk hB
  have HG := Aside0.mk hG
  have HP := Aside0.mk hI.pos
  have HNP := Aside0.mk (wire_Num_pos f0 f1 f2 a1 n at2 er2 hx)
  obtain ⟨v0, A2, hb, _, hr, -⟩ := hI
  have HL := Aside0.mk (show f0.length ≤ 9223372036854775807 from by obtain ⟨A0, c0, rfl⟩ := Kd.R_slice hr; exact (Kd.R_reads' hr).2.2.2.1)
  have m1 := blk_cell hb 1
  simp at m1
  clear h hx hB hG hb hr
  cases er2 with
  | some x =>
    simp only [Option.isSome_some, if_true, Prod.mk.injEq] at he
    obtain ⟨rfl, rfl, rfl⟩ := he
    go_enter Tryd.func24, Tryd.ntmps24
    go_wp2_with (go_at_call 14; refine (wire_Num.calls g f0 f1 f2 0 a1 n at2 (some x) w0 _ HI.out HB.out HG.out HX.out).mono ?_; rintro e w1 ⟨rfl, hi, hb, hk⟩; have HI1 := Aside0.mk hi; have HB1 := Aside0.mk hb; have HK1 := Aside0.mk hk; clear hb hk; obtain ⟨v1, A1, hb1, hg1, hr1, he1, hp1⟩ := hi; have HBK1 := Aside0.mk hb1; have HR1 := Aside0.mk hr1; have HP1 := Aside0.mk hp1; have HG1 := Aside0.mk hg1; have m2 := blk_cell hb1 2; simp [errU] at m2; have p1 := blk_cell hb1 1; simp at p1; have fr1 := blk_frozen hb1 1; clear hb1 hr1 hp1 he1 hg1)
    go_ret
    exact ⟨rfl, HI1.out, HB1.out, HK1.out⟩
  | none =>
    simp only [Option.isSome_none, Bool.false_eq_true, if_false] at he
    by_cases hlt : (f0.length : Int) - at2 < n
    · rw [if_pos hlt] at he
      simp only [Prod.mk.injEq] at he
      obtain ⟨rfl, rfl, rfl⟩ := he
      have d1 : decide ((f0.length : Int) - at2 < n) = true := decide_eq_true hlt
      have hgl := (HG.out.1 (101, 1) (by decide)).1
      clear hlt
      go_enter Tryd.func24, Tryd.ntmps24
      go_wp2_with (go_at_call 14; refine (wire_Num.calls g f0 f1 f2 0 a1 n at2 none w0 _ HI.out HB.out HG.out HX.out).mono ?_; rintro e w1 ⟨rfl, hi, hb, hk⟩; have HI1 := Aside0.mk hi; have HB1 := Aside0.mk hb; have HK1 := Aside0.mk hk; clear hb hk; obtain ⟨v1, A1, hb1, hg1, hr1, he1, hp1⟩ := hi; have HBK1 := Aside0.mk hb1; have HR1 := Aside0.mk hr1; have HP1 := Aside0.mk hp1; have HG1 := Aside0.mk hg1; have m2 := blk_cell hb1 2; simp [errU] at m2; have p1 := blk_cell hb1 1; simp at p1; have fr1 := blk_frozen hb1 1; clear hb1 hr1 hp1 he1 hg1)
      refine (wire_Left.calls g f0 at2 none ((f0.length : Int) - at2) at2 none w0 _ HI1.out HB1.out rfl).mono ?_
      rintro e w2 ⟨rfl, hi, hb, hk⟩
      have HI2 := Aside0.mk hi
      have HB2 := Aside0.mk hb
      have HK2 := Aside0.mk (HK1.out.trans hk (.inl rfl))
      clear hb hk
      obtain ⟨v2, A2', hb1, hg1, hr1, he1, hp1⟩ := hi
      have q1 := blk_cell hb1 1
      simp at q1
      have fr2 := blk_frozen hb1 1
      have HG2 := Aside0.mk (HG.out.keepR HI.out HI2.out HK2.out)
      have HI3 := Aside0.mk (HI2.out.setAt f1 HP.out.1 HP.out.2.1)
      have hgl := ((HG2.out.keepR HI2.out HI3.out (KeepBut.set_ (KeepBut.refl _ _ _) 1 _)).1 (101, 1) (by decide)).1
      have HB3 := Aside0.mk (below_set (j := 1) (v := .int .i64 f1) HB2.out hg1)
      clear hg1 hp1
      clear hb1 hr1 he1
      go_wp2_with (go_at_call 29; refine (wire_fail g f0 f1 none 101 w0 _ HI3.out HB3.out).mono ?_; rintro e w4 ⟨rfl, hi, hb, hk⟩; have HI4 := Aside0.mk hi; have HB4 := Aside0.mk hb; have HK4 := Aside0.mk hk; clear hi hb hk)
      go_ret
      exact ⟨rfl, HI4.out, HB4.out, (HK2.out.set_ 1 _).trans HK4.out (.inl rfl)⟩
    · rw [if_neg hlt] at he
      simp only [Prod.mk.injEq] at he
      obtain ⟨rfl, rfl, rfl⟩ := he
      have d1 : decide ((f0.length : Int) - at2 < n) = false := decide_eq_false hlt
      have HLT := Aside0.mk hlt
      clear hlt
      go_enter Tryd.func24, Tryd.ntmps24
      go_wp2_with (go_at_call 14; refine (wire_Num.calls g f0 f1 f2 0 a1 n at2 none w0 _ HI.out HB.out HG.out HX.out).mono ?_; rintro e w1 ⟨rfl, hi, hb, hk⟩; have HI1 := Aside0.mk hi; have HB1 := Aside0.mk hb; have HK1 := Aside0.mk hk; clear hb hk; obtain ⟨v1, A1, hb1, hg1, hr1, he1, hp1⟩ := hi; have HBK1 := Aside0.mk hb1; have HR1 := Aside0.mk hr1; have HP1 := Aside0.mk hp1; have HG1 := Aside0.mk hg1; have m2 := blk_cell hb1 2; simp [errU] at m2; have p1 := blk_cell hb1 1; simp at p1; have fr1 := blk_frozen hb1 1; clear hb1 hr1 hp1 he1 hg1)
      refine (wire_Left.calls g f0 at2 none ((f0.length : Int) - at2) at2 none w0 _ HI1.out HB1.out rfl).mono ?_
      rintro e w2 ⟨rfl, hi, hb, hk⟩
      have HI2 := Aside0.mk hi
      have HB2 := Aside0.mk hb
      have HK2 := Aside0.mk (HK1.out.trans hk (.inl rfl))
      clear hb hk
      obtain ⟨v2, A2', hb1, hg1, hr1, he1, hp1⟩ := hi
      have q1 := blk_cell hb1 1
      simp at q1
      have fr2 := blk_frozen hb1 1
      have hp2 := hp1
      have HI3 := Aside0.mk (HI2.out.setAt (at2 + n) (by have := hp1.1; have := HNP.out trivial; omega) (by have := HLT.out; omega))
      have HB3 := Aside0.mk (below_set (j := 1) (v := .int .i64 (at2 + n)) HB2.out hg1)
      obtain ⟨A0, c0, rfl⟩ := Kd.R_slice hr1
      have hr3 := Kd.R_far (p := ⟨g, 1, none⟩) hr1 (fun k hk e => Kd.R_ne hr1 hb1 (by decide) (by subst e; exact hk)) (.int .i64 (at2 + n))
      obtain ⟨i0, hi0, _, hsz, _⟩ := info_parts info5
      obtain ⟨A', hcut, hA, -⟩ := print_mid_of (P := Tryd.prog) (Value.int .u8) 0 23 5 .i64 .i64 Tryd.underlying23 hi0 hsz A0 c0 f0 at2 (at2 + n) hp1.1 (by have := HNP.out trivial; omega) (by have := HLT.out; omega) (Kd.R_reads' hr1).2.1
      have hconv := Kd.C_string (c := c0 - at2.toNat) Tryd.underlying23 Tryd.underlying5 Tryd.underlying9 (Kd.C_drew (Kd.C_of_reads (h1 := fun _ => rfl) (hA _ (Kd.reads_of_C (enc := Value.int .u8) (d := (0 : Int)) (h1 := fun _ => rfl) (Kd.R_reads' hr3).2.2))))
      simp only [List.length_drop, List.length_take] at hconv
      have q0 := blk_cell (blk_set hb1 1 (.int .i64 (at2 + n))) 0
      have q1' := blk_cell (blk_set hb1 1 (.int .i64 (at2 + n))) 1
      simp at q0 q1'
      have hw1 : wrap64 (at2 + n) = at2 + n := by (have := HLT.out; have := HL.out; have := hp1.1; have := HNP.out trivial; unfold wrap64; omega)
      have hw2 : wrap64 at2 = at2 := by (have := HLT.out; have := HL.out; have := hp1.1; have := HNP.out trivial; unfold wrap64; omega)
      clear hr3 hA hi0 hsz hg1 hp1 hp2
      clear hb1 hr1 he1
      go_wp2
      go_region
      all_goals go_wp2
      go_ret
      exact ⟨rfl, HI3.out.drew, below_drew HB3.out, keep_drew (HK2.out.set_ 1 _)⟩

/-! ### wire_Bool: function 25 -/
def wire_Bool.f (f0 : List Int) (f1 : Int) (f2 : Option (Int × Int)) : Option (Bool × Int × Option (Int × Int)) := (wire_Num.f f0 f1 f2 0 1).map fun x => (x.1 == 1, x.2)
theorem wire_Bool.calls [Sent] (g : Nat) (f0 : List Int) (f1 : Int) (f2 : Option (Int × Int)) (r : Bool) (r2 : Int) (r3 : Option (Int × Int)) (w0 w : World) (hI : IsS50 w0 w g f0 f1 f2) (hB : Below w0.heap.size w0 w) (hG : GlobW w) (h : wire_Bool.f f0 f1 f2 = some (r, r2, r3)) :
    Calls Tryd.prog 25 #[.pointer (some ⟨g, 0, none⟩)] w fun e w' => e = .returned (.bool r) ∧ IsS50 w0 w' g f0 r2 r3 ∧ Below w0.heap.size w0 w' ∧ KeepBut w w' g none := by
  obtain ⟨⟨n, r2', r3'⟩, hx, he⟩ := Option.map_eq_some_iff.1 h
  simp only [Prod.mk.injEq] at he
  obtain ⟨rfl, rfl, rfl⟩ := he
  have HX := Aside0.mk hx
  have HI := Aside0.mk hI
  have HB := Aside0.mk hB
  have HG := Aside0.mk hG
  clear h hx hI hB hG
  go_enter Tryd.func25, Tryd.ntmps25
  go_wp2_with (go_at_call 14; refine (wire_Num.calls g f0 f1 f2 0 1 n r2' r3' w0 _ HI.out HB.out HG.out HX.out).mono ?_; rintro e w1 ⟨rfl, hi, hb, hk⟩; have HI1 := Aside0.mk hi; have HB1 := Aside0.mk hb; have HK1 := Aside0.mk hk; clear hi hb hk)
  go_ret
  exact ⟨rfl, HI1.out, HB1.out, HK1.out⟩

end Go.Proofs.YtpiafijccnbdbaaDoor.KTWireLengths

/- By a program of this session (kprint.py) over the printer: functions of the code as plain Lean functions, and the walks that say so. -/
import Derived.Test.YtpiafijccnbdbaaDoorKTWireRowsx0
import Derived.Test.YtpiafijccnbdbaaDoorKTWireRowsx1
namespace Go.Proofs.YtpiafijccnbdbaaDoor.KTWireRows
open Go.RowKit Go.Proofs.YtpiafijccnbdbaaDoorW.PrintWords Go.Proofs.YtpiafijccnbdbaaDoorW.PrintLast Go.Proofs.YtpiafijccnbdbaaDoorW.PrintMore
attribute [local go_sem] max2_int min2_int max_two min_two max_three min_three max_four min_four   -- for this text's walks alone
set_option linter.unusedVariables false
set_option linter.unusedSimpArgs false

/-! ### wire_Num: function 14 -/
/-! bits -/
theorem wb_andNot (c : Int) (h0 : 0 ≤ c) (h1 : c < 256) : bits .andNot .u8 c 128 = c % 128 := by
  rw [u8_andNot c 128 h0 h1 (by omega) (by omega), show (255 - (128 : Int).toNat) = 2 ^ 7 - 1 by decide, Nat.and_two_pow_sub_one_eq_mod]
  omega
theorem wb_pow (i : Nat) : (2 : Int) ^ (7 * (i : Int)).toNat = 128 ^ i := by
  rw [show (7 * (i : Int)).toNat = 7 * i by omega, Int.pow_mul]
  rfl
theorem wb_top (c : Int) (i : Nat) (hi : i ≤ 9) (hc0 : 0 ≤ c) (hc : c < 128) (h9 : i = 9 → c ≤ 1) : c * 128 ^ i + 128 ^ i ≤ 18446744073709551616 := by
  have : i = 0 ∨ i = 1 ∨ i = 2 ∨ i = 3 ∨ i = 4 ∨ i = 5 ∨ i = 6 ∨ i = 7 ∨ i = 8 ∨ i = 9 := by omega
  rcases this with rfl | rfl | rfl | rfl | rfl | rfl | rfl | rfl | rfl | rfl
  all_goals simp only [show (128 : Int) ^ 0 = 1 from rfl, show (128 : Int) ^ 1 = 128 from rfl, show (128 : Int) ^ 2 = 16384 from rfl, show (128 : Int) ^ 3 = 2097152 from rfl, show (128 : Int) ^ 4 = 268435456 from rfl, show (128 : Int) ^ 5 = 34359738368 from rfl, show (128 : Int) ^ 6 = 4398046511104 from rfl, show (128 : Int) ^ 7 = 562949953421312 from rfl, show (128 : Int) ^ 8 = 72057594037927936 from rfl, show (128 : Int) ^ 9 = 9223372036854775808 from rfl]
  all_goals omega
theorem wb_or (z c : Int) (i : Nat) (hi : i ≤ 9) (hz0 : 0 ≤ z) (hz : z < 128 ^ i) (hc0 : 0 ≤ c) (hc : c < 128) (h9 : i = 9 → c ≤ 1) :
    IntKind.u64.wrap (c * 128 ^ i) = c * 128 ^ i ∧ bits .or .u64 z (c * 128 ^ i) = z + c * 128 ^ i ∧ z + c * 128 ^ i < 18446744073709551616 := by
  have ht := wb_top c i hi hc0 hc h9
  have hp : (0 : Int) < 128 ^ i := Int.pow_pos (by omega)
  have hn : 0 ≤ c * 128 ^ i := Int.mul_nonneg hc0 (by omega)
  refine ⟨by rw [IntKind.wrap_u64]; omega, ?_, by omega⟩
  rw [u64_or z _ hz0 (by omega) hn (by omega), Nat.or_comm]
  have e1 : (c * 128 ^ i).toNat = 2 ^ (7 * i) * c.toNat := by
    rw [Int.toNat_mul hc0 (by omega), Nat.mul_comm, Nat.pow_mul]
    rw [show (128 : Int) ^ i = ((128 ^ i : Nat) : Int) by simp, Int.toNat_natCast]
  have e2 : z.toNat < 2 ^ (7 * i) := by
    rw [Nat.pow_mul]
    have : ((z.toNat : Nat) : Int) < ((2 ^ 7) ^ i : Nat) := by
      rw [Int.toNat_of_nonneg hz0]
      simpa using hz
    exact_mod_cast this
  rw [e1, ← Nat.two_pow_add_eq_or_of_lt e2, ← e1]
  omega
theorem wb_unzig (z : Int) (h0 : 0 ≤ z) (h1 : z < 18446744073709551616) : bits .xor .i64 (wrap64 (z / 2)) (wrap64 (-(wrap64 (bits .and .u64 z 1)))) = unzig z := by
  rw [Lib.u64_and1 z h0 h1]
  have e1 : wrap64 (z / 2) = z / 2 := by unfold wrap64; omega
  rw [e1]
  unfold unzig
  by_cases h : z % 2 = 0
  · rw [if_pos h, h]
    obtain ⟨x, hx⟩ := Int.eq_ofNat_of_zero_le (show 0 ≤ z / 2 by omega)
    rw [hx, show wrap64 (-wrap64 0) = 0 by unfold wrap64; rfl]
    have hb : (BitVec.ofInt 64 (x : Int)).toNat = x := by
      rw [BitVec.toNat_ofInt]
      omega
    show IntKind.i64.wrap ((BitVec.ofInt 64 (x : Int) ^^^ BitVec.ofInt 64 0).toNat : Int) = _
    rw [show BitVec.ofInt 64 0 = 0#64 by decide, BitVec.xor_zero, hb, IntKind.wrap_i64]
    omega
  · rw [if_neg h, show z % 2 = 1 by omega]
    obtain ⟨x, hx⟩ := Int.eq_ofNat_of_zero_le (show 0 ≤ z / 2 by omega)
    rw [hx, show wrap64 (-wrap64 1) = -1 by unfold wrap64; rfl]
    have hc : bits .xor .i64 (x : Int) (-1) = bits .xor .i64 (-1) (x : Int) := by
      show IntKind.i64.wrap ((BitVec.ofInt 64 (x : Int) ^^^ BitVec.ofInt 64 (-1)).toNat : Int) = IntKind.i64.wrap ((BitVec.ofInt 64 (-1) ^^^ BitVec.ofInt 64 (x : Int)).toNat : Int)
      rw [BitVec.xor_comm]
    rw [hc, Lib.i64_not x (by omega)]
set_option maxRecDepth 100000 in
set_option maxHeartbeats 1000000 in
theorem wire_fail [Sent] (g : Nat) (f0 : List Int) (f1 : Int) (f2 : Option (Int × Int)) (c : Int) (w0 w : World) (hI : IsS50 w0 w g f0 f1 f2) (hB : Below w0.heap.size w0 w) :
    Calls Tryd.prog 29 #[.pointer (some ⟨g, 0, none⟩), sentV c] w fun e w' => e = .returned (.tuple #[]) ∧ IsS50 w0 w' g f0 f1 (some (f1, c)) ∧ Below w0.heap.size w0 w' ∧ KeepBut w w' g none := by
  have HI := Aside0.mk hI
  have HB := Aside0.mk hB
  obtain ⟨v0, A2, hb, hg, hr, he, hp⟩ := hI
  have HBK := Aside0.mk hb
  have m1 := blk_cell hb 1
  have m2' := Lib.cell?_alloc_some (o := .cells #[.int .i64 f1, sentV c] 61) (blk_cell hb 2)
  have m3 : (w.alloc (.cells #[.int .i64 f1, sentV c] 61)).frozen? ⟨g, 2, none⟩ = false := blk_frozen (blk_alloc hb _) 2
  simp [sentV] at m1 m2' m3
  have HG := Aside0.mk hg
  have HR := Aside0.mk hr
  have HP := Aside0.mk hp
  have hu := Tryd.underlying61
  clear hb hB hr he hg hp
  unfold sentV
  go_enter Tryd.func29, Tryd.ntmps29
  go_wp2
  go_end0
  have hA : (w.alloc (.cells #[.int .i64 f1, sentV c] 61)).heap[g]? = some (.cells #[v0, .int .i64 f1, errU f2 A2] 50 (0, 0)) := blk_alloc HBK.out _
  have hlt := blk_lt HBK.out
  refine ⟨rfl, ⟨v0, some ⟨w.heap.size, 0, none⟩, blk_set hA 2 (.iface 59 (.pointer (some ⟨w.heap.size, 0, none⟩))), HG.out, ?_, ?_, HP.out⟩, ?_, ?_⟩
  · exact Kd.R_far (Kd.R_alloc HR.out _) (fun k hk e => Kd.R_ne HR.out HBK.out (by decide) (by subst e; exact hk)) _
  · intro p c' e
    simp only [Option.some.injEq, Prod.mk.injEq] at e
    obtain ⟨rfl, rfl⟩ := e
    refine ⟨w.heap.size, rfl, HB.out.size, ?_⟩
    exact blk_far (heap_alloc_new w _) (Nat.ne_of_gt hlt) _
  · exact below_set (below_alloc HB.out _) HG.out
  · refine ⟨by simp, fun k hk hne _ => ?_⟩
    rw [Below.heap_setCell _ _ _ _ hne]
    exact (below_alloc (Below.refl w.heap.size w) _).block k hk
theorem wire_step {α : Type} (i : Nat) (c : Int) (A B C s : α) (hi : i ≤ 9) (hc : 0 ≤ c ∧ c < 256) (h9 : ¬(i = 9 ∧ 1 < c)) (hs : (if 128 ≤ c then A else if c = 0 ∧ 0 < i then B else C) = s) :
    ((((i : Int) == 9) = true ∧ decide (1 < c) = false) ∨ ((i : Int) == 9) = false) ∧ ((decide (128 ≤ c) = true ∧ i < 9 ∧ A = s) ∨ (decide (128 ≤ c) = false ∧ (c == 0) = true ∧ decide (0 < (i : Int)) = true ∧ B = s) ∨ (decide (128 ≤ c) = false ∧ (c == 0) = true ∧ decide (0 < (i : Int)) = false ∧ C = s) ∨ (decide (128 ≤ c) = false ∧ (c == 0) = false ∧ C = s)) := by
  constructor
  · by_cases e : i = 9
    · refine .inl ⟨by simp; omega, decide_eq_false (fun h => h9 ⟨e, h⟩)⟩
    · exact .inr (by simp; omega)
  · by_cases h1 : 128 ≤ c
    · rw [if_pos h1] at hs
      exact .inl ⟨decide_eq_true h1, by by_cases e : i = 9; exact absurd ⟨e, by omega⟩ h9; omega, hs⟩
    · rw [if_neg h1] at hs
      by_cases h2 : c = 0 ∧ 0 < i
      · rw [if_pos h2] at hs
        exact .inr (.inl ⟨decide_eq_false h1, by simp [h2.1], decide_eq_true (by have := h2.2; omega), hs⟩)
      · rw [if_neg h2] at hs
        by_cases h3 : c = 0
        · exact .inr (.inr (.inl ⟨decide_eq_false h1, by simp [h3], decide_eq_false (fun h => h2 ⟨h3, by omega⟩), hs⟩))
        · exact .inr (.inr (.inr ⟨decide_eq_false h1, by simp [h3], hs⟩))
set_option maxRecDepth 100000 in
set_option maxHeartbeats 2000000 in
theorem wire_number [Sent] (g : Nat) (f0 : List Int) (f1 : Int) (f2 : Option (Int × Int)) (w0 w : World) (hI : IsS50 w0 w g f0 f1 f2) (hG : GlobW w) :
    Calls Tryd.prog 28 #[.pointer (some ⟨g, 0, none⟩)] w fun e w' => e = .returned (.tuple #[.int .i64 (scan (f0.drop f1.toNat) 0 0).2.1, .int .i64 (scan (f0.drop f1.toNat) 0 0).2.2, errW (if (scan (f0.drop f1.toNat) 0 0).1 = 0 then none else some (scan (f0.drop f1.toNat) 0 0).1)]) ∧ ∃ n, w' = w.drewN n := by
  have HP := Aside0.mk hI.pos
  have HG := Aside0.mk hG
  obtain ⟨s, hs⟩ : ∃ s, scan (f0.drop f1.toNat) 0 0 = s := ⟨_, rfl⟩
  rw [hs]
  obtain ⟨u, hu⟩ : ∃ u, errW (if s.1 = 0 then none else some s.1) = u := ⟨_, rfl⟩
  rw [hu]
  have HU := Aside0.mk hu
  clear hu
  have HS := Aside0.mk hs
  obtain ⟨v0, A2, hb, _, hr, -⟩ := hI
  obtain ⟨A0, c0, rfl⟩ := Kd.R_slice hr
  have HC := Aside0.mk (Kd.R_reads' hr).2.2
  have HL := Aside0.mk (show f0.length ≤ 9223372036854775807 from (Kd.R_reads' hr).2.2.2.1)
  have HBK := Aside0.mk hb
  clear hb hr hs hG
  go_enter Tryd.func28, Tryd.ntmps28
  go_wp2
  go_loopg [5, 6] (f0.length + 1) (fun kq v5 v6 w' => ∃ (i : Nat) (z : Int) (n : Nat), v5 = .int .u64 z ∧ v6 = .int .i64 (i : Int) ∧ w' = w.drewN n ∧ Aside0 (i ≤ 9 ∧ 0 ≤ z ∧ z < 128 ^ i ∧ f1.toNat + i ≤ f0.length ∧ f0.length + 1 ≤ kq + (f1.toNat + i) ∧ scan (f0.drop (f1.toNat + i)) i z = s))
  case atStart => exact ⟨0, 0, 0, rfl, rfl, rfl, ⟨by have := HP.out; omega, by omega, by simp, by have := HP.out; omega, by omega, by simpa using HS.out⟩⟩
  case round =>
    obtain ⟨i, z, n, rfl, rfl, rfl, HA⟩ := hrel
    have hb := blk_drewN HBK.out n
    have m0 := blk_cell hb 0
    have m1 := blk_cell hb 1
    simp at m0 m1
    clear hb
    have ha : wrap64 (f1 + (i : Int)) = f1 + i := by have := HA.out; have := HP.out; have := HL.out; unfold wrap64; omega
    by_cases hend : (f0.length : Int) ≤ f1 + i
    · have d1 : decide ((f0.length : Int) ≤ f1 + i) = true := decide_eq_true hend
      have hgl := (HG.out.1 (101, 1) (by decide)).1
      have HE := Aside0.mk hend
      clear hend
      go_wp2
      go_region
      all_goals go_wp2
      all_goals go_region
      all_goals go_wp2
      all_goals go_ret3
      all_goals (have hs := HA.out.2.2.2.2.2; rw [List.drop_eq_nil_of_le (by have := HE.out; have := HP.out; omega)] at hs; exact ⟨by rw [← HU.out, ← hs]; rfl, _, rfl⟩)
    · have d1 : decide ((f0.length : Int) ≤ f1 + i) = false := decide_eq_false hend
      have p1 : 0 ≤ f1 + (i : Int) := by have := HP.out; omega
      have q1 : f1 + (i : Int) < (f0.length : Int) := by omega
      obtain ⟨ad, e1, hx⟩ := Kd.at_int HC.out (f1 + i) p1 q1
      cases e1
      obtain ⟨c, hc⟩ : ∃ c, rd f0 (f1 + i) = c := ⟨_, rfl⟩
      rw [hc] at hx
      have HCC := Aside0.mk hc
      have HE := Aside0.mk hend
      clear hend hc
      replace p1 := eq_true p1
      replace q1 := eq_true q1
      have hcb : 0 ≤ c ∧ c < 256 := by
        rw [← HCC.out]
        refine HP.out.2.2 _ ?_
        have hlt : (f1 + (i : Int)).toNat < f0.length := by have := HE.out; have := HP.out; omega
        unfold rd
        rw [List.getD_eq_getElem?_getD, List.getElem?_eq_getElem hlt]
        exact List.getElem_mem _
      have hdrop : f0.drop (f1.toNat + i) = c :: f0.drop (f1.toNat + (i + 1)) := by
        have hlt : f1.toNat + i < f0.length := by have := HE.out; have := HP.out; omega
        rw [List.drop_eq_getElem_cons hlt, ← HCC.out]
        unfold rd
        rw [show (f1 + (i : Int)).toNat = f1.toNat + i by have := HP.out; omega, List.getD_eq_getElem?_getD, List.getElem?_eq_getElem hlt]
        rfl
      have hs := HA.out.2.2.2.2.2
      rw [hdrop, scan] at hs
      have HS2 := Aside0.mk hs
      have HCB := Aside0.mk hcb
      clear hs hdrop hcb
      by_cases h9 : i = 9 ∧ 1 < c
      · have b9 : ((i : Int) == 9) = true := by simp; omega
        have b1 : decide (1 < c) = true := decide_eq_true h9.2
        have hgl := (HG.out.1 (102, 2) (by decide)).1
        have H9 := Aside0.mk h9
        clear h9
        go_wp2
        go_region
        all_goals go_wp2
        all_goals go_region
        all_goals go_wp2
        all_goals go_region
        all_goals go_wp2
        all_goals go_ret3
        all_goals (have hs := HS2.out; rw [if_pos H9.out] at hs; exact ⟨by rw [← HU.out, ← hs]; rfl, _, rfl⟩)
      · have HX := Aside0.mk (wb_or z (c % 128) i HA.out.1 HA.out.2.1 HA.out.2.2.1 (by omega) (by omega) (by have := HCB.out; omega))
        have HF := Aside0.mk (show bits .andNot .u8 c 128 = c % 128 ∧ IntKind.u64.wrap (c % 128) = c % 128 ∧ wrap64 (7 * (i : Int)) = 7 * i ∧ (0 ≤ 7 * (i : Int)) = True ∧ (7 * (i : Int) ≤ 64) = True ∧ wrap64 ((i : Int) + 1) = (i : Int) + 1 from by
          have hi := HA.out.1
          have hc := HCB.out
          clear HX HA
          refine ⟨wb_andNot c hc.1 hc.2, by rw [IntKind.wrap_u64]; omega, by unfold wrap64; omega, eq_true (by omega), eq_true (by omega), by unfold wrap64; omega⟩)
        have H9 := Aside0.mk h9
        clear h9
        obtain ⟨z', hz'⟩ : ∃ z', z + c % 128 * 128 ^ i = z' := ⟨_, rfl⟩
        have HZ := Aside0.mk hz'
        clear hz'
        have HZ' := Aside0.mk (show 0 ≤ z' ∧ z' < 18446744073709551616 from ⟨by rw [← HZ.out]; exact Int.add_nonneg HA.out.2.1 (Int.mul_nonneg (Int.emod_nonneg _ (by decide)) (Int.le_of_lt (Int.pow_pos (by decide)))), by rw [← HZ.out]; exact HX.out.2.2⟩)
        have HZ2 := Aside0.mk (show z' < 128 ^ (i + 1) from by
          rw [← HZ.out, Int.pow_succ, Int.mul_comm (128 ^ i) 128]
          have h1 := HA.out.2.2.1
          have h2 : c % 128 * 128 ^ i ≤ 127 * 128 ^ i := Int.mul_le_mul_of_nonneg_right (by omega) (Int.le_of_lt (Int.pow_pos (by decide)))
          have e : (128 : Int) * 128 ^ i = 127 * 128 ^ i + 128 ^ i := by rw [show (128 : Int) = 127 + 1 by decide, Int.add_mul]; simp
          rw [e]
          exact Int.lt_of_lt_of_le (Int.add_lt_add_right h1 _) (by rw [Int.add_comm]; exact Int.add_le_add_right h2 _))
        have hs := HS2.out
        rw [if_neg H9.out, HZ.out] at hs
        have hk := wire_step i c _ _ _ s HA.out.1 HCB.out H9.out hs
        clear hs
        have HXZ := Aside0.mk (wb_unzig z' HZ'.out.1 HZ'.out.2)
        obtain ⟨k9, k0⟩ := hk
        have hb4 := HX.out.2.1
        rw [HZ.out] at hb4
        have hb3 := HX.out.1
        have hp7 := wb_pow i
        obtain ⟨hb1, hb2, hw7, h70, h71, hwi⟩ := HF.out
        have HWI := Aside0.mk hwi
        clear hwi
        rcases k0 with ⟨d2, hi9, hs⟩ | ⟨d2, d3, d4, hs⟩ | ⟨d2, d3, d4, hs⟩ | ⟨d2, d3, hs⟩
        · have HS3 := Aside0.mk hs
          have HI9 := Aside0.mk hi9
          clear hs hi9
          rcases k9 with ⟨b9, b1⟩ | b9
          all_goals go_wp2
          all_goals go_region
          all_goals go_wp2
          all_goals go_region
          all_goals go_wp2
          all_goals go_roundg (gk - 1)
          case rel => exact ⟨i + 1, z', n + 1 + 1, rfl, by rw [HWI.out]; rfl, rfl, ⟨HI9.out, HZ'.out.1, HZ2.out, by have h1 := HE.out; have h2 := HP.out; clear HA; omega, by have h1 := HA.out.2.2.2.2.1; clear HA; omega, HS3.out⟩⟩
          case measure => have h0 := HA.out.2.2.2.2.1; have h1 := HE.out; have h2 := HP.out; clear HA; omega
          case rel => exact ⟨i + 1, z', n + 1 + 1, rfl, by rw [HWI.out]; rfl, rfl, ⟨HI9.out, HZ'.out.1, HZ2.out, by have h1 := HE.out; have h2 := HP.out; clear HA; omega, by have h1 := HA.out.2.2.2.2.1; clear HA; omega, HS3.out⟩⟩
          case measure => have h0 := HA.out.2.2.2.2.1; have h1 := HE.out; have h2 := HP.out; clear HA; omega
        · have d5 := eq_true (of_decide_eq_true d4)
          have d6 : (0 < i) = True := eq_true (Int.natCast_pos.1 (of_decide_eq_true d4))
          have hgl := (HG.out.1 (102, 2) (by decide)).1
          have HS3 := Aside0.mk hs
          clear hs
          rcases k9 with ⟨b9, b1⟩ | b9
          all_goals go_wp2
          all_goals go_region
          all_goals go_wp2
          all_goals go_region
          all_goals go_wp2
          all_goals go_region
          all_goals go_wp2
          all_goals go_ret3
          all_goals exact ⟨by rw [← HU.out, ← HS3.out]; first | rfl | (show Ending.returned (Value.tuple #[_, Value.int IntKind.i64 (wrap64 _), _]) = _; rw [HWI.out]; rfl), _, rfl⟩
        · have d5 := eq_false (of_decide_eq_false d4)
          have d6 : (0 < i) = False := eq_false (fun h => of_decide_eq_false d4 (Int.natCast_pos.2 h))
          have hxz := HXZ.out
          have HS3 := Aside0.mk hs
          clear hs
          rcases k9 with ⟨b9, b1⟩ | b9
          all_goals go_wp2
          all_goals go_region
          all_goals go_wp2
          all_goals go_region
          all_goals go_wp2
          all_goals go_ret3
          all_goals exact ⟨by rw [← HU.out, ← HS3.out]; first | rfl | (show Ending.returned (Value.tuple #[_, Value.int IntKind.i64 (wrap64 _), _]) = _; rw [HWI.out]; rfl), _, rfl⟩
        · have hxz := HXZ.out
          have HS3 := Aside0.mk hs
          clear hs
          rcases k9 with ⟨b9, b1⟩ | b9
          all_goals go_wp2
          all_goals go_region
          all_goals go_wp2
          all_goals go_region
          all_goals go_wp2
          all_goals go_ret3
          all_goals exact ⟨by rw [← HU.out, ← HS3.out]; first | rfl | (show Ending.returned (Value.tuple #[_, Value.int IntKind.i64 (wrap64 _), _]) = _; rw [HWI.out]; rfl), _, rfl⟩
theorem scan_pos : ∀ (l : List Int) (i : Nat) (z : Int), (scan l i z).1 = 0 → (i : Int) < (scan l i z).2.2 ∧ (scan l i z).2.2 ≤ (i : Int) + l.length
  | [], i, z => by simp [scan]
  | c :: l, i, z => by
    rw [scan]
    have ih := scan_pos l (i + 1) (z + c % 128 * 128 ^ i)
    split
    · simp
    · split
      · intro h
        have := ih h
        simp only [List.length_cons] at *
        omega
      · split
        · simp
        · intro _
          simp only [List.length_cons]
          omega
def wire_Num.f (f0 : List Int) (f1 : Int) (f2 : Option (Int × Int)) (a1 a2 : Int) : Option (Int × Int × Option (Int × Int)) :=
  some (if f2.isSome = true then (0, f1, f2) else
    if (scan (f0.drop f1.toNat) 0 0).1 ≠ 0 then (0, f1, some (f1, (scan (f0.drop f1.toNat) 0 0).1)) else
    if (scan (f0.drop f1.toNat) 0 0).2.1 < a1 ∨ a2 < (scan (f0.drop f1.toNat) 0 0).2.1 then (0, f1, some (f1, 104)) else
    ((scan (f0.drop f1.toNat) 0 0).2.1, f1 + (scan (f0.drop f1.toNat) 0 0).2.2, none))
set_option maxRecDepth 100000 in
set_option maxHeartbeats 2000000 in
theorem wire_Num.calls [Sent] (g : Nat) (f0 : List Int) (f1 : Int) (f2 : Option (Int × Int)) (a1 : Int) (a2 : Int) (r : Int) (r2 : Int) (r3 : Option (Int × Int)) (w0 w : World) (hI : IsS50 w0 w g f0 f1 f2) (hB : Below w0.heap.size w0 w) (hG : GlobW w) (h : wire_Num.f f0 f1 f2 a1 a2 = some (r, r2, r3)) :
    Calls Tryd.prog 14 #[.pointer (some ⟨g, 0, none⟩), .int .i64 a1, .int .i64 a2] w fun e w' => e = .returned (.int .i64 r) ∧ IsS50 w0 w' g f0 r2 r3 ∧ Below w0.heap.size w0 w' ∧ KeepBut w w' g none := by
  obtain ⟨s, hs⟩ : ∃ s, scan (f0.drop f1.toNat) 0 0 = s := ⟨_, rfl⟩
  unfold wire_Num.f at h
  rw [hs] at h
  have HI := Aside0.mk hI
  have HB := Aside0.mk hB
  have HG := Aside0.mk hG
  have HS := Aside0.mk hs
  obtain ⟨v0, A2, hb, hg, hr, he, hp⟩ := hI
  have HL := Aside0.mk (show f0.length ≤ 9223372036854775807 from by obtain ⟨A0, c0, rfl⟩ := Kd.R_slice hr; exact (Kd.R_reads' hr).2.2.2.1)
  have m2 := blk_cell hb 2
  simp at m2
  cases f2 with
  | some x =>
    simp only [Option.isSome_some, if_true, Option.some.injEq, Prod.mk.injEq] at h
    obtain ⟨rfl, rfl, rfl⟩ := h
    simp only [errU] at m2
    clear hb hB hr he hg hp hs hG
    go_enter Tryd.func14, Tryd.ntmps14
    go_wp2
    go_ret
    exact ⟨rfl, HI.out, HB.out, KeepBut.refl _ _ _⟩
  | none =>
    simp only [Option.isSome_none, Bool.false_eq_true, if_false, Option.some.injEq] at h
    simp only [errU] at m2
    have HBK := Aside0.mk hb
    have HP := Aside0.mk hp
    have HN := Aside0.mk (show ∃ u, errW (if s.1 = 0 then none else some s.1) = u from ⟨_, rfl⟩)
    have hnum := wire_number g f0 f1 none w0 w HI.out HG.out
    rw [hs] at hnum
    have HNUM := Aside0.mk hnum
    have HR := Aside0.mk hr
    have HE := Aside0.mk he
    have HG0 := Aside0.mk hg
    clear hb hB hr he hg hp hs hG hnum
    by_cases h1 : s.1 = 0
    · rw [if_pos h1, errW_none] at HNUM
      rw [if_neg (by simp [h1])] at h
      by_cases h2 : s.2.1 < a1 ∨ a2 < s.2.1
      · rw [if_pos h2] at h
        simp only [Prod.mk.injEq] at h
        obtain ⟨rfl, rfl, rfl⟩ := h
        have hgl := (HG.out.1 (104, 0) (by decide)).1
        have H1 := Aside0.mk h1
        clear h1
        rcases (show decide (s.2.1 < a1) = true ∨ (decide (s.2.1 < a1) = false ∧ decide (a2 < s.2.1) = true) from by
          by_cases h3 : s.2.1 < a1
          · exact .inl (decide_eq_true h3)
          · exact .inr ⟨decide_eq_false h3, decide_eq_true (h2.resolve_left h3)⟩) with d1 | ⟨d1, d2⟩
        all_goals clear h2
        all_goals go_enter Tryd.func14, Tryd.ntmps14
        all_goals go_wp2_with (first | (go_at_call 28; refine HNUM.out.mono ?_; rintro e w1 ⟨rfl, n, rfl⟩) | (go_at_call 29; refine (wire_fail g f0 f1 none 104 w0 _ (HI.out.drewN n) (pw_below_drewN HB.out n)).mono ?_; rintro e w2 ⟨rfl, hi, hb, hk⟩; have HI2 := Aside0.mk hi; have HB2 := Aside0.mk hb; have HK2 := Aside0.mk hk; clear hi hb hk))
        all_goals go_ret
        all_goals exact ⟨rfl, HI2.out, HB2.out, HK2.out⟩
      · rw [if_neg h2] at h
        simp only [Prod.mk.injEq] at h
        obtain ⟨rfl, rfl, rfl⟩ := h
        have d1 : decide (s.2.1 < a1) = false := decide_eq_false (fun h => h2 (.inl h))
        have d2 : decide (a2 < s.2.1) = false := decide_eq_false (fun h => h2 (.inr h))
        have HK := Aside0.mk (show 0 < s.2.2 ∧ f1 + s.2.2 ≤ f0.length from by
          have h3 := scan_pos (f0.drop f1.toNat) 0 0
          rw [HS.out] at h3
          have h4 := h3 h1
          rw [List.length_drop] at h4
          have := HP.out.1
          have := HP.out.2.1
          omega)
        have hw : wrap64 (f1 + s.2.2) = f1 + s.2.2 := by
          have h3 := HK.out
          have h4 := HP.out.1
          have h5 := HL.out
          unfold wrap64
          omega
        have m1 := blk_cell HBK.out 1
        have m3 := blk_frozen HBK.out 1
        simp at m1
        clear h1 h2
        go_enter Tryd.func14, Tryd.ntmps14
        go_wp2_with (go_at_call 28; refine HNUM.out.mono ?_; rintro e w1 ⟨rfl, n, rfl⟩)
        go_ret
        rw [hw]
        refine ⟨rfl, ⟨v0, A2, blk_set (blk_drewN HBK.out n) 1 (.int .i64 (f1 + s.2.2)), HG0.out, ?_, ?_, by have := HP.out.1; have := HK.out; omega, HK.out.2, HP.out.2.2⟩, below_set (pw_below_drewN HB.out n) HG0.out, KeepBut.set_ (keep_drewN (KeepBut.refl _ _ _) n) 1 _⟩
        · exact Kd.R_far (Kd.R_drewN HR.out n) (fun k hk e => Kd.R_ne HR.out HBK.out (by decide) (by subst e; exact hk)) _
        · intro p c e
          cases e
    · rw [if_neg h1, errW_some] at HNUM
      rw [if_pos h1] at h
      simp only [Prod.mk.injEq] at h
      obtain ⟨rfl, rfl, rfl⟩ := h
      clear h1
      go_enter Tryd.func14, Tryd.ntmps14
      go_wp2_with (first | (go_at_call 28; refine HNUM.out.mono ?_; rintro e w1 ⟨rfl, n, rfl⟩) | (go_at_call 29; refine (wire_fail g f0 f1 none s.1 w0 _ (HI.out.drewN n) (pw_below_drewN HB.out n)).mono ?_; rintro e w2 ⟨rfl, hi, hb, hk⟩; have HI2 := Aside0.mk hi; have HB2 := Aside0.mk hb; have HK2 := Aside0.mk hk; clear hi hb hk))
      go_ret
      exact ⟨rfl, HI2.out, HB2.out, HK2.out⟩

/-! ### pendulumref_None: function 32 -/
def pendulumref_None.f  : Option (Int × Bool × Bool × Int × Int) := some (0, false, false, 0, 0)
set_option maxHeartbeats 8000000 in
set_option maxRecDepth 100000 in
theorem pendulumref_None.calls [Sent]  (r1 : Int) (r2 : Bool) (r3 : Bool) (r4 : Int) (r5 : Int) (w : World) (h : pendulumref_None.f  = some (r1, r2, r3, r4, r5)) :
    Calls Tryd.prog 32 #[] w fun e w' => e = .returned (.agg #[.int .i64 r1, .bool r2, .bool r3, .int .i64 r4, .int .i64 r5]) ∧ Below w.heap.size w w' := by
  have hu35 := Tryd.underlying35
  have HB := Aside0.mk (Below.refl w.heap.size w)
  have H : (some (0, false, false, 0, 0)) = some (r1, r2, r3, r4, r5) := h
  clear h
  simp only [Option.some.injEq, Prod.mk.injEq] at H
  obtain ⟨rfl, rfl, rfl, rfl, rfl⟩ := H
  go_enter Tryd.func32, Tryd.ntmps32
  go_wp2_with (first | ((with_reducible refine gate_dst (N := 0) rfl ?_); refine box_event ?hg (N := 0) ?hd (cs := #[.int .i64 0, .bool false, .bool false, .int .i64 0, .int .i64 0]) (t := 35) ?hr ?_; (case hd => rfl); (case hg => rfl); (case hr => first | (go_simp; done) | (go_simp; rfl)); intro gb129 hg w1 hbox hb; have n0_ := Aside0.mk (below_step (by repeat (first | (with_reducible first | exact HB.out | apply below_alloc | apply pw_below_drewN | apply below_drew1) | exact HB.out)) hb); have n1_ := Aside0.mk (hbox); have n2_ := Aside0.mk ((by rw [hg]; exact (below_size (by repeat (first | (with_reducible first | exact HB.out | apply below_alloc | apply pw_below_drewN | apply below_drew1) | exact HB.out))) : w.heap.size ≤ gb129)); have n3_ := Aside0.mk ((by rw [hg]; exact (below_size (by repeat (first | (with_reducible first | exact HB.out | apply below_alloc | apply pw_below_drewN | apply below_drew1) | exact HB.out))) : w.heap.size ≤ gb129)); clear HB; have HB := n0_; have BK129 := n1_; have GW129 := n2_; have GE129 := n3_; clear n0_ n1_ n2_ n3_; clear hb hbox hg; have hcz2_0 : w1.cell? ⟨gb129, 0, none⟩ = some (.int .i64 0) := (blk_cell BK129.out 0).trans rfl; have hcz2_1 : w1.cell? ⟨gb129, 1, none⟩ = some (.bool false) := (blk_cell BK129.out 1).trans rfl; have hcz2_2 : w1.cell? ⟨gb129, 2, none⟩ = some (.bool false) := (blk_cell BK129.out 2).trans rfl; have hcz2_3 : w1.cell? ⟨gb129, 3, none⟩ = some (.int .i64 0) := (blk_cell BK129.out 3).trans rfl; have hcz2_4 : w1.cell? ⟨gb129, 4, none⟩ = some (.int .i64 0) := (blk_cell BK129.out 4).trans rfl; have hfz2_0 := blk_frozen BK129.out 0; have hfz2_1 := blk_frozen BK129.out 1; have hfz2_2 := blk_frozen BK129.out 2; have hfz2_3 := blk_frozen BK129.out 3; have hfz2_4 := blk_frozen BK129.out 4))
  refine bodyPost_ret (results_cell_row rfl _ _ gb129 35 #[.int .i64 0, .bool false, .bool false, .int .i64 0, .int .i64 0] (0, 0) _ rfl (by (with_reducible repeat (first | refine blk_drewN ?_ _ | refine blk_drew ?_ | refine blk_alloc ?_ _)); refine blk_put (cs := #[.int .i64 0, .bool false, .bool false, .int .i64 0, .int .i64 0]) ?_ 4 _ rfl; (with_reducible repeat (first | refine blk_drewN ?_ _ | refine blk_drew ?_ | refine blk_alloc ?_ _)); refine blk_put (cs := #[.int .i64 0, .bool false, .bool false, .int .i64 0, .int .i64 0]) ?_ 3 _ rfl; (with_reducible repeat (first | refine blk_drewN ?_ _ | refine blk_drew ?_ | refine blk_alloc ?_ _)); refine blk_put (cs := #[.int .i64 0, .bool false, .bool false, .int .i64 0, .int .i64 0]) ?_ 2 _ rfl; (with_reducible repeat (first | refine blk_drewN ?_ _ | refine blk_drew ?_ | refine blk_alloc ?_ _)); refine blk_put (cs := #[.int .i64 0, .bool false, .bool false, .int .i64 0, .int .i64 0]) ?_ 1 _ rfl; (with_reducible repeat (first | refine blk_drewN ?_ _ | refine blk_drew ?_ | refine blk_alloc ?_ _)); refine blk_put (cs := #[.int .i64 0, .bool false, .bool false, .int .i64 0, .int .i64 0]) ?_ 0 _ rfl; (with_reducible repeat (first | refine blk_drewN ?_ _ | refine blk_drew ?_ | refine blk_alloc ?_ _)); exact BK129.out) Tryd.underlying35 rfl (by kernel_rfl)) rfl ?_
  exact ⟨by first | rfl | (simp [errW_none, errW_some] <;> rfl) | (simp [*, errW_none, errW_some] <;> rfl), by repeat (first | (with_reducible first | exact HB.out | apply below_alloc | apply pw_below_drewN | apply below_drew1 | refine below_set ?_ GE129.out) | exact HB.out)⟩

/-! ### pendulumref_Placed: function 17 -/
def pendulumref_Placed.f (a0 : Int) (a1 : Int) : Option (Int × Bool × Bool × Int × Int) := if a0 = 0 then ((pendulumref_None.f).bind fun bt131 => (some (bt131.1, bt131.2.1, bt131.2.2.1, bt131.2.2.2.1, bt131.2.2.2.2))) else (some (a0, true, false, a1, 0))
set_option maxHeartbeats 8000000 in
set_option maxRecDepth 100000 in
theorem pendulumref_Placed.calls [Sent] (a0 : Int) (a1 : Int) (r1 : Int) (r2 : Bool) (r3 : Bool) (r4 : Int) (r5 : Int) (w : World) (h : pendulumref_Placed.f a0 a1 = some (r1, r2, r3, r4, r5)) :
    Calls Tryd.prog 17 #[.int .i64 a0, .int .i64 a1] w fun e w' => e = .returned (.agg #[.int .i64 r1, .bool r2, .bool r3, .int .i64 r4, .int .i64 r5]) ∧ Below w.heap.size w w' := by
  have hu35 := Tryd.underlying35
  have HB := Aside0.mk (Below.refl w.heap.size w)
  have H : (if a0 = 0 then ((pendulumref_None.f).bind fun bt131 => (some (bt131.1, bt131.2.1, bt131.2.2.1, bt131.2.2.2.1, bt131.2.2.2.2))) else (some (a0, true, false, a1, 0))) = some (r1, r2, r3, r4, r5) := h
  clear h
  by_cases c3 : a0 = 0
  · rw [if_pos c3] at H
    have c3b0 : (a0 == 0) = true := beq_iff_eq.mpr c3
    have c3b1 : (a0 != 0) = false := bne_eq_false_iff_eq.mpr c3
    clear c3
    replace H := Option.bind_eq_some_iff.mp H
    obtain ⟨⟨t131, t132, t133, t134, t135⟩, A40, H⟩ := H
    replace H : (some (t131, t132, t133, t134, t135)) = some (r1, r2, r3, r4, r5) := H
    have A4 := Aside0.mk A40
    clear A40
    simp only [Option.some.injEq, Prod.mk.injEq] at H
    obtain ⟨rfl, rfl, rfl, rfl, rfl⟩ := H
    go_enter Tryd.func17, Tryd.ntmps17
    go_wp2_with (first | ((with_reducible refine gate_dst (N := 4) rfl ?_); refine box_event ?hg (N := 4) ?hd (cs := #[.int .i64 0, .bool false, .bool false, .int .i64 0, .int .i64 0]) (t := 35) ?hr ?_; (case hd => rfl); (case hg => rfl); (case hr => first | (go_simp; done) | (go_simp; rfl)); intro gb130 hg w5 hbox hb; have n0_ := Aside0.mk (below_step (by repeat (first | (with_reducible first | exact HB.out | apply below_alloc | apply pw_below_drewN | apply below_drew1) | exact HB.out)) hb); have n1_ := Aside0.mk (hbox); have n2_ := Aside0.mk ((by rw [hg]; exact (below_size (by repeat (first | (with_reducible first | exact HB.out | apply below_alloc | apply pw_below_drewN | apply below_drew1) | exact HB.out))) : w.heap.size ≤ gb130)); have n3_ := Aside0.mk ((by rw [hg]; exact (below_size (by repeat (first | (with_reducible first | exact HB.out | apply below_alloc | apply pw_below_drewN | apply below_drew1) | exact HB.out))) : w.heap.size ≤ gb130)); clear HB; have HB := n0_; have BK130 := n1_; have GW130 := n2_; have GE130 := n3_; clear n0_ n1_ n2_ n3_; clear hb hbox hg) | ((with_reducible refine gate_callee (f := 32) rfl ?_); refine goesL_ (some 7) rfl rfl Tryd.func32 (by kernel_rfl) rfl #[] rfl (by (try simp only [List.map_toArray, List.map_cons, List.map_nil]); first | done | rfl | (simp only [List.length_drop, List.length_take]; rfl)) ?_; (with_reducible refine (pendulumref_None.calls  t131 t132 t133 t134 t135 _ A4.out).mono ?_); rintro e w6 ⟨rfl, hb⟩; refine ⟨_, rfl, ?_⟩; have n0_ := Aside0.mk (blk_below (g := gb130) (o := .cells #[.int .i64 0, .bool false, .bool false, .int .i64 0, .int .i64 0] 35 (0, 0)) (by (with_reducible repeat (first | refine blk_drewN ?_ _ | refine blk_drew ?_ | refine blk_alloc ?_ _)); exact BK130.out) hb); have n1_ := Aside0.mk (below_step (by repeat (first | (with_reducible first | exact HB.out | apply below_alloc | apply pw_below_drewN | apply below_drew1 | refine below_set ?_ GE130.out) | exact HB.out)) hb); clear BK130; clear HB; have BK130 := n0_; have HB := n1_; clear n0_ n1_; (try clear hb); (try clear hb2); (try clear hk); (try clear hi); have hcz7_0 : w6.cell? ⟨gb130, 0, none⟩ = some (.int .i64 0) := (blk_cell BK130.out 0).trans rfl; have hcz7_1 : w6.cell? ⟨gb130, 1, none⟩ = some (.bool false) := (blk_cell BK130.out 1).trans rfl; have hcz7_2 : w6.cell? ⟨gb130, 2, none⟩ = some (.bool false) := (blk_cell BK130.out 2).trans rfl; have hcz7_3 : w6.cell? ⟨gb130, 3, none⟩ = some (.int .i64 0) := (blk_cell BK130.out 3).trans rfl; have hcz7_4 : w6.cell? ⟨gb130, 4, none⟩ = some (.int .i64 0) := (blk_cell BK130.out 4).trans rfl; have hfz7_0 := blk_frozen BK130.out 0; have hfz7_1 := blk_frozen BK130.out 1; have hfz7_2 := blk_frozen BK130.out 2; have hfz7_3 := blk_frozen BK130.out 3; have hfz7_4 := blk_frozen BK130.out 4))
    refine bodyPost_ret (results_cell_row rfl _ _ gb130 35 #[.int .i64 t131, .bool t132, .bool t133, .int .i64 t134, .int .i64 t135] (0, 0) _ rfl (by (with_reducible repeat (first | refine blk_drewN ?_ _ | refine blk_drew ?_ | refine blk_alloc ?_ _)); refine blk_put (cs := #[.int .i64 t131, .bool t132, .bool t133, .int .i64 t134, .int .i64 0]) ?_ 4 _ rfl; (with_reducible repeat (first | refine blk_drewN ?_ _ | refine blk_drew ?_ | refine blk_alloc ?_ _)); refine blk_put (cs := #[.int .i64 t131, .bool t132, .bool t133, .int .i64 0, .int .i64 0]) ?_ 3 _ rfl; (with_reducible repeat (first | refine blk_drewN ?_ _ | refine blk_drew ?_ | refine blk_alloc ?_ _)); refine blk_put (cs := #[.int .i64 t131, .bool t132, .bool false, .int .i64 0, .int .i64 0]) ?_ 2 _ rfl; (with_reducible repeat (first | refine blk_drewN ?_ _ | refine blk_drew ?_ | refine blk_alloc ?_ _)); refine blk_put (cs := #[.int .i64 t131, .bool false, .bool false, .int .i64 0, .int .i64 0]) ?_ 1 _ rfl; (with_reducible repeat (first | refine blk_drewN ?_ _ | refine blk_drew ?_ | refine blk_alloc ?_ _)); refine blk_put (cs := #[.int .i64 0, .bool false, .bool false, .int .i64 0, .int .i64 0]) ?_ 0 _ rfl; (with_reducible repeat (first | refine blk_drewN ?_ _ | refine blk_drew ?_ | refine blk_alloc ?_ _)); exact BK130.out) Tryd.underlying35 rfl (by kernel_rfl)) rfl ?_
    exact ⟨by first | rfl | (simp [errW_none, errW_some] <;> rfl) | (simp [*, errW_none, errW_some] <;> rfl), by repeat (first | (with_reducible first | exact HB.out | apply below_alloc | apply pw_below_drewN | apply below_drew1 | refine below_set ?_ GE130.out) | exact HB.out)⟩
  · rw [if_neg c3] at H
    have c3b0 : (a0 == 0) = false := beq_eq_false_iff_ne.mpr c3
    have c3b1 : (a0 != 0) = true := bne_iff_ne.mpr c3
    simp only [Option.some.injEq, Prod.mk.injEq] at H
    obtain ⟨rfl, rfl, rfl, rfl, rfl⟩ := H
    go_enter Tryd.func17, Tryd.ntmps17
    go_wp2_with (first | ((with_reducible refine gate_dst (N := 4) rfl ?_); refine box_event ?hg (N := 4) ?hd (cs := #[.int .i64 0, .bool false, .bool false, .int .i64 0, .int .i64 0]) (t := 35) ?hr ?_; (case hd => rfl); (case hg => rfl); (case hr => first | (go_simp; done) | (go_simp; rfl)); intro gb130 hg w8 hbox hb; have n0_ := Aside0.mk (below_step (by repeat (first | (with_reducible first | exact HB.out | apply below_alloc | apply pw_below_drewN | apply below_drew1) | exact HB.out)) hb); have n1_ := Aside0.mk (hbox); have n2_ := Aside0.mk ((by rw [hg]; exact (below_size (by repeat (first | (with_reducible first | exact HB.out | apply below_alloc | apply pw_below_drewN | apply below_drew1) | exact HB.out))) : w.heap.size ≤ gb130)); have n3_ := Aside0.mk ((by rw [hg]; exact (below_size (by repeat (first | (with_reducible first | exact HB.out | apply below_alloc | apply pw_below_drewN | apply below_drew1) | exact HB.out))) : w.heap.size ≤ gb130)); clear HB; have HB := n0_; have BK130 := n1_; have GW130 := n2_; have GE130 := n3_; clear n0_ n1_ n2_ n3_; clear hb hbox hg; have hcz9_0 : w8.cell? ⟨gb130, 0, none⟩ = some (.int .i64 0) := (blk_cell BK130.out 0).trans rfl; have hcz9_1 : w8.cell? ⟨gb130, 1, none⟩ = some (.bool false) := (blk_cell BK130.out 1).trans rfl; have hcz9_2 : w8.cell? ⟨gb130, 2, none⟩ = some (.bool false) := (blk_cell BK130.out 2).trans rfl; have hcz9_3 : w8.cell? ⟨gb130, 3, none⟩ = some (.int .i64 0) := (blk_cell BK130.out 3).trans rfl; have hcz9_4 : w8.cell? ⟨gb130, 4, none⟩ = some (.int .i64 0) := (blk_cell BK130.out 4).trans rfl; have hfz9_0 := blk_frozen BK130.out 0; have hfz9_1 := blk_frozen BK130.out 1; have hfz9_2 := blk_frozen BK130.out 2; have hfz9_3 := blk_frozen BK130.out 3; have hfz9_4 := blk_frozen BK130.out 4))
    refine bodyPost_ret (results_cell_row rfl _ _ gb130 35 #[.int .i64 a0, .bool true, .bool false, .int .i64 a1, .int .i64 0] (0, 0) _ rfl (by (with_reducible repeat (first | refine blk_drewN ?_ _ | refine blk_drew ?_ | refine blk_alloc ?_ _)); refine blk_put (cs := #[.int .i64 a0, .bool true, .bool false, .int .i64 a1, .int .i64 0]) ?_ 4 _ rfl; (with_reducible repeat (first | refine blk_drewN ?_ _ | refine blk_drew ?_ | refine blk_alloc ?_ _)); refine blk_put (cs := #[.int .i64 a0, .bool true, .bool false, .int .i64 0, .int .i64 0]) ?_ 3 _ rfl; (with_reducible repeat (first | refine blk_drewN ?_ _ | refine blk_drew ?_ | refine blk_alloc ?_ _)); refine blk_put (cs := #[.int .i64 a0, .bool true, .bool false, .int .i64 0, .int .i64 0]) ?_ 2 _ rfl; (with_reducible repeat (first | refine blk_drewN ?_ _ | refine blk_drew ?_ | refine blk_alloc ?_ _)); refine blk_put (cs := #[.int .i64 a0, .bool false, .bool false, .int .i64 0, .int .i64 0]) ?_ 1 _ rfl; (with_reducible repeat (first | refine blk_drewN ?_ _ | refine blk_drew ?_ | refine blk_alloc ?_ _)); refine blk_put (cs := #[.int .i64 0, .bool false, .bool false, .int .i64 0, .int .i64 0]) ?_ 0 _ rfl; (with_reducible repeat (first | refine blk_drewN ?_ _ | refine blk_drew ?_ | refine blk_alloc ?_ _)); exact BK130.out) Tryd.underlying35 rfl (by kernel_rfl)) rfl ?_
    exact ⟨by first | rfl | (simp [errW_none, errW_some] <;> rfl) | (simp [*, errW_none, errW_some] <;> rfl), by repeat (first | (with_reducible first | exact HB.out | apply below_alloc | apply pw_below_drewN | apply below_drew1 | refine below_set ?_ GE130.out) | exact HB.out)⟩

/-! ### pendulumref_SameFault: function 30 -/
def pendulumref_SameFault.f (a0_0 : Int) (a0_1 : Bool) (a0_2 : Bool) (a0_3 : Int) (a0_4 : Int) (a1_0 : Int) (a1_1 : Bool) (a1_2 : Bool) (a1_3 : Int) (a1_4 : Int) : Option (Bool) := if a0_0 = a1_0 then (if (a0_1 == a1_1) = true then (if a0_3 = a1_3 then (if (a0_2 == a1_2) = true then (some (a0_4 == a1_4)) else (some false)) else (some false)) else (some false)) else (some false)
set_option maxHeartbeats 8000000 in
set_option maxRecDepth 100000 in
theorem pendulumref_SameFault.calls [Sent] (a0_0 : Int) (a0_1 : Bool) (a0_2 : Bool) (a0_3 : Int) (a0_4 : Int) (a1_0 : Int) (a1_1 : Bool) (a1_2 : Bool) (a1_3 : Int) (a1_4 : Int) (r : Bool) (w : World) (h : pendulumref_SameFault.f a0_0 a0_1 a0_2 a0_3 a0_4 a1_0 a1_1 a1_2 a1_3 a1_4 = some r) :
    Calls Tryd.prog 30 #[.agg #[.int .i64 a0_0, .bool a0_1, .bool a0_2, .int .i64 a0_3, .int .i64 a0_4], .agg #[.int .i64 a1_0, .bool a1_1, .bool a1_2, .int .i64 a1_3, .int .i64 a1_4]] w fun e w' => e = .returned (.bool r) ∧ Below w.heap.size w w' := by
  have hu35 := Tryd.underlying35
  have HB := Aside0.mk (Below.refl w.heap.size w)
  have H : (if a0_0 = a1_0 then (if (a0_1 == a1_1) = true then (if a0_3 = a1_3 then (if (a0_2 == a1_2) = true then (some (a0_4 == a1_4)) else (some false)) else (some false)) else (some false)) else (some false)) = some r := h
  clear h
  by_cases c3 : a0_0 = a1_0
  · rw [if_pos c3] at H
    have c3b0 : (a0_0 == a1_0) = true := beq_iff_eq.mpr c3
    have c3b1 : (a0_0 != a1_0) = false := bne_eq_false_iff_eq.mpr c3
    clear c3
    by_cases c4 : (a0_1 == a1_1) = true
    · rw [if_pos c4] at H
      have c4b0 : (a0_1 == a1_1) = true := c4
      (try (have c4b1 : decide (a0_1 = a1_1) = true := by simpa using c4))
      (try (have c4b2 : (a0_1 == a1_1) = true := by simpa using c4))
      clear c4
      by_cases c5 : a0_3 = a1_3
      · rw [if_pos c5] at H
        have c5b0 : (a0_3 == a1_3) = true := beq_iff_eq.mpr c5
        have c5b1 : (a0_3 != a1_3) = false := bne_eq_false_iff_eq.mpr c5
        clear c5
        by_cases c6 : (a0_2 == a1_2) = true
        · rw [if_pos c6] at H
          have c6b0 : (a0_2 == a1_2) = true := c6
          (try (have c6b1 : decide (a0_2 = a1_2) = true := by simpa using c6))
          (try (have c6b2 : (a0_2 == a1_2) = true := by simpa using c6))
          clear c6
          obtain rfl := Option.some.inj H
          simp only [Option.some.injEq, Prod.mk.injEq] at H
          obtain ⟨rfl⟩ := H
          go_enter Tryd.func30, Tryd.ntmps30
          go_wp2_with (first | ((with_reducible refine gate_dst (N := 2) rfl ?_); refine box_event ?hg (N := 2) ?hd (cs := #[.int .i64 a0_0, .bool a0_1, .bool a0_2, .int .i64 a0_3, .int .i64 a0_4]) (t := 35) ?hr ?_; (case hd => rfl); (case hg => rfl); (case hr => first | (go_simp; done) | (go_simp; rfl)); intro gb136 hg w7 hbox hb; have n0_ := Aside0.mk (below_step (by repeat (first | (with_reducible first | exact HB.out | apply below_alloc | apply pw_below_drewN | apply below_drew1) | exact HB.out)) hb); have n1_ := Aside0.mk (hbox); have n2_ := Aside0.mk ((by rw [hg]; exact (below_size (by repeat (first | (with_reducible first | exact HB.out | apply below_alloc | apply pw_below_drewN | apply below_drew1) | exact HB.out))) : w.heap.size ≤ gb136)); have n3_ := Aside0.mk ((by rw [hg]; exact (below_size (by repeat (first | (with_reducible first | exact HB.out | apply below_alloc | apply pw_below_drewN | apply below_drew1) | exact HB.out))) : w.heap.size ≤ gb136)); clear HB; have HB := n0_; have BK136 := n1_; have GW136 := n2_; have GE136 := n3_; clear n0_ n1_ n2_ n3_; clear hb hbox hg) | ((with_reducible refine gate_dst (N := 3) rfl ?_); refine box_event ?hg (N := 3) ?hd (cs := #[.int .i64 a1_0, .bool a1_1, .bool a1_2, .int .i64 a1_3, .int .i64 a1_4]) (t := 35) ?hr ?_; (case hd => rfl); (case hg => rfl); (case hr => first | (go_simp; done) | (go_simp; rfl)); intro gb137 hg w8 hbox hb; have n0_ := Aside0.mk (blk_below (g := gb136) (o := .cells #[.int .i64 a0_0, .bool a0_1, .bool a0_2, .int .i64 a0_3, .int .i64 a0_4] 35 (0, 0)) (by (with_reducible repeat (first | refine blk_drewN ?_ _ | refine blk_drew ?_ | refine blk_alloc ?_ _)); exact BK136.out) hb); have n1_ := Aside0.mk (below_step (by repeat (first | (with_reducible first | exact HB.out | apply below_alloc | apply pw_below_drewN | apply below_drew1 | refine below_set ?_ GE136.out) | exact HB.out)) hb); have n2_ := Aside0.mk (hbox); have n3_ := Aside0.mk ((by rw [hg]; exact (below_size (by repeat (first | (with_reducible first | exact HB.out | apply below_alloc | apply pw_below_drewN | apply below_drew1 | refine below_set ?_ GE136.out) | exact HB.out))) : w.heap.size ≤ gb137)); have n4_ := Aside0.mk ((by rw [hg]; exact (below_size (by repeat (first | (with_reducible first | exact HB.out | apply below_alloc | apply pw_below_drewN | apply below_drew1 | refine below_set ?_ GE136.out) | exact HB.out))) : w.heap.size ≤ gb137)); have n5_ := Aside0.mk ((by rw [hg]; exact Nat.ne_of_lt (blk_lt (g := gb136) (o := .cells #[.int .i64 a0_0, .bool a0_1, .bool a0_2, .int .i64 a0_3, .int .i64 a0_4] 35 (0, 0)) (by (with_reducible repeat (first | refine blk_drewN ?_ _ | refine blk_drew ?_ | refine blk_alloc ?_ _)); exact BK136.out)) : gb136 ≠ gb137)); have n6_ := Aside0.mk ((by rw [hg]; exact Nat.ne_of_gt (blk_lt (g := gb136) (o := .cells #[.int .i64 a0_0, .bool a0_1, .bool a0_2, .int .i64 a0_3, .int .i64 a0_4] 35 (0, 0)) (by (with_reducible repeat (first | refine blk_drewN ?_ _ | refine blk_drew ?_ | refine blk_alloc ?_ _)); exact BK136.out)) : gb137 ≠ gb136)); clear BK136; clear HB; have BK136 := n0_; have HB := n1_; have BK137 := n2_; have GW137 := n3_; have GE137 := n4_; have NB136_137 := n5_; have NB137_136 := n6_; clear n0_ n1_ n2_ n3_ n4_ n5_ n6_; clear hb hbox hg; have hnb9 := NB136_137.out; have hnc9 := NB137_136.out; have hcz10_0 : w8.cell? ⟨gb136, 0, none⟩ = some (.int .i64 a0_0) := (blk_cell BK136.out 0).trans rfl; have hcz10_1 : w8.cell? ⟨gb136, 1, none⟩ = some (.bool a0_1) := (blk_cell BK136.out 1).trans rfl; have hcz10_2 : w8.cell? ⟨gb136, 2, none⟩ = some (.bool a0_2) := (blk_cell BK136.out 2).trans rfl; have hcz10_3 : w8.cell? ⟨gb136, 3, none⟩ = some (.int .i64 a0_3) := (blk_cell BK136.out 3).trans rfl; have hcz10_4 : w8.cell? ⟨gb136, 4, none⟩ = some (.int .i64 a0_4) := (blk_cell BK136.out 4).trans rfl; have hfz10_0 := blk_frozen BK136.out 0; have hfz10_1 := blk_frozen BK136.out 1; have hfz10_2 := blk_frozen BK136.out 2; have hfz10_3 := blk_frozen BK136.out 3; have hfz10_4 := blk_frozen BK136.out 4; have hcz11_0 : w8.cell? ⟨gb137, 0, none⟩ = some (.int .i64 a1_0) := (blk_cell BK137.out 0).trans rfl; have hcz11_1 : w8.cell? ⟨gb137, 1, none⟩ = some (.bool a1_1) := (blk_cell BK137.out 1).trans rfl; have hcz11_2 : w8.cell? ⟨gb137, 2, none⟩ = some (.bool a1_2) := (blk_cell BK137.out 2).trans rfl; have hcz11_3 : w8.cell? ⟨gb137, 3, none⟩ = some (.int .i64 a1_3) := (blk_cell BK137.out 3).trans rfl; have hcz11_4 : w8.cell? ⟨gb137, 4, none⟩ = some (.int .i64 a1_4) := (blk_cell BK137.out 4).trans rfl; have hfz11_0 := blk_frozen BK137.out 0; have hfz11_1 := blk_frozen BK137.out 1; have hfz11_2 := blk_frozen BK137.out 2; have hfz11_3 := blk_frozen BK137.out 3; have hfz11_4 := blk_frozen BK137.out 4))
          go_ret
          exact ⟨by first | rfl | (simp [errW_none, errW_some] <;> rfl) | (simp [*, errW_none, errW_some] <;> rfl), by repeat (first | (with_reducible first | exact HB.out | apply below_alloc | apply pw_below_drewN | apply below_drew1 | refine below_set ?_ GE136.out | refine below_set ?_ GE137.out) | exact HB.out)⟩
        · rw [if_neg c6] at H
          have c6b0 : (a0_2 == a1_2) = false := by simpa using c6
          (try (have c6b1 : decide (a0_2 = a1_2) = false := by simpa using c6))
          (try (have c6b2 : (a0_2 == a1_2) = false := by simpa using c6))
          (try (have c6b3 : ¬ (a0_2 = a1_2) := by simpa using c6))
          clear c6
          obtain rfl := Option.some.inj H
          simp only [Option.some.injEq, Prod.mk.injEq] at H
          obtain ⟨rfl⟩ := H
          go_enter Tryd.func30, Tryd.ntmps30
          go_wp2_with (first | ((with_reducible refine gate_dst (N := 2) rfl ?_); refine box_event ?hg (N := 2) ?hd (cs := #[.int .i64 a0_0, .bool a0_1, .bool a0_2, .int .i64 a0_3, .int .i64 a0_4]) (t := 35) ?hr ?_; (case hd => rfl); (case hg => rfl); (case hr => first | (go_simp; done) | (go_simp; rfl)); intro gb136 hg w12 hbox hb; have n0_ := Aside0.mk (below_step (by repeat (first | (with_reducible first | exact HB.out | apply below_alloc | apply pw_below_drewN | apply below_drew1) | exact HB.out)) hb); have n1_ := Aside0.mk (hbox); have n2_ := Aside0.mk ((by rw [hg]; exact (below_size (by repeat (first | (with_reducible first | exact HB.out | apply below_alloc | apply pw_below_drewN | apply below_drew1) | exact HB.out))) : w.heap.size ≤ gb136)); have n3_ := Aside0.mk ((by rw [hg]; exact (below_size (by repeat (first | (with_reducible first | exact HB.out | apply below_alloc | apply pw_below_drewN | apply below_drew1) | exact HB.out))) : w.heap.size ≤ gb136)); clear HB; have HB := n0_; have BK136 := n1_; have GW136 := n2_; have GE136 := n3_; clear n0_ n1_ n2_ n3_; clear hb hbox hg) | ((with_reducible refine gate_dst (N := 3) rfl ?_); refine box_event ?hg (N := 3) ?hd (cs := #[.int .i64 a1_0, .bool a1_1, .bool a1_2, .int .i64 a1_3, .int .i64 a1_4]) (t := 35) ?hr ?_; (case hd => rfl); (case hg => rfl); (case hr => first | (go_simp; done) | (go_simp; rfl)); intro gb137 hg w13 hbox hb; have n0_ := Aside0.mk (blk_below (g := gb136) (o := .cells #[.int .i64 a0_0, .bool a0_1, .bool a0_2, .int .i64 a0_3, .int .i64 a0_4] 35 (0, 0)) (by (with_reducible repeat (first | refine blk_drewN ?_ _ | refine blk_drew ?_ | refine blk_alloc ?_ _)); exact BK136.out) hb); have n1_ := Aside0.mk (below_step (by repeat (first | (with_reducible first | exact HB.out | apply below_alloc | apply pw_below_drewN | apply below_drew1 | refine below_set ?_ GE136.out) | exact HB.out)) hb); have n2_ := Aside0.mk (hbox); have n3_ := Aside0.mk ((by rw [hg]; exact (below_size (by repeat (first | (with_reducible first | exact HB.out | apply below_alloc | apply pw_below_drewN | apply below_drew1 | refine below_set ?_ GE136.out) | exact HB.out))) : w.heap.size ≤ gb137)); have n4_ := Aside0.mk ((by rw [hg]; exact (below_size (by repeat (first | (with_reducible first | exact HB.out | apply below_alloc | apply pw_below_drewN | apply below_drew1 | refine below_set ?_ GE136.out) | exact HB.out))) : w.heap.size ≤ gb137)); have n5_ := Aside0.mk ((by rw [hg]; exact Nat.ne_of_lt (blk_lt (g := gb136) (o := .cells #[.int .i64 a0_0, .bool a0_1, .bool a0_2, .int .i64 a0_3, .int .i64 a0_4] 35 (0, 0)) (by (with_reducible repeat (first | refine blk_drewN ?_ _ | refine blk_drew ?_ | refine blk_alloc ?_ _)); exact BK136.out)) : gb136 ≠ gb137)); have n6_ := Aside0.mk ((by rw [hg]; exact Nat.ne_of_gt (blk_lt (g := gb136) (o := .cells #[.int .i64 a0_0, .bool a0_1, .bool a0_2, .int .i64 a0_3, .int .i64 a0_4] 35 (0, 0)) (by (with_reducible repeat (first | refine blk_drewN ?_ _ | refine blk_drew ?_ | refine blk_alloc ?_ _)); exact BK136.out)) : gb137 ≠ gb136)); clear BK136; clear HB; have BK136 := n0_; have HB := n1_; have BK137 := n2_; have GW137 := n3_; have GE137 := n4_; have NB136_137 := n5_; have NB137_136 := n6_; clear n0_ n1_ n2_ n3_ n4_ n5_ n6_; clear hb hbox hg; have hnb14 := NB136_137.out; have hnc14 := NB137_136.out; have hcz15_0 : w13.cell? ⟨gb136, 0, none⟩ = some (.int .i64 a0_0) := (blk_cell BK136.out 0).trans rfl; have hcz15_1 : w13.cell? ⟨gb136, 1, none⟩ = some (.bool a0_1) := (blk_cell BK136.out 1).trans rfl; have hcz15_2 : w13.cell? ⟨gb136, 2, none⟩ = some (.bool a0_2) := (blk_cell BK136.out 2).trans rfl; have hcz15_3 : w13.cell? ⟨gb136, 3, none⟩ = some (.int .i64 a0_3) := (blk_cell BK136.out 3).trans rfl; have hcz15_4 : w13.cell? ⟨gb136, 4, none⟩ = some (.int .i64 a0_4) := (blk_cell BK136.out 4).trans rfl; have hfz15_0 := blk_frozen BK136.out 0; have hfz15_1 := blk_frozen BK136.out 1; have hfz15_2 := blk_frozen BK136.out 2; have hfz15_3 := blk_frozen BK136.out 3; have hfz15_4 := blk_frozen BK136.out 4; have hcz16_0 : w13.cell? ⟨gb137, 0, none⟩ = some (.int .i64 a1_0) := (blk_cell BK137.out 0).trans rfl; have hcz16_1 : w13.cell? ⟨gb137, 1, none⟩ = some (.bool a1_1) := (blk_cell BK137.out 1).trans rfl; have hcz16_2 : w13.cell? ⟨gb137, 2, none⟩ = some (.bool a1_2) := (blk_cell BK137.out 2).trans rfl; have hcz16_3 : w13.cell? ⟨gb137, 3, none⟩ = some (.int .i64 a1_3) := (blk_cell BK137.out 3).trans rfl; have hcz16_4 : w13.cell? ⟨gb137, 4, none⟩ = some (.int .i64 a1_4) := (blk_cell BK137.out 4).trans rfl; have hfz16_0 := blk_frozen BK137.out 0; have hfz16_1 := blk_frozen BK137.out 1; have hfz16_2 := blk_frozen BK137.out 2; have hfz16_3 := blk_frozen BK137.out 3; have hfz16_4 := blk_frozen BK137.out 4))
          go_ret
          exact ⟨by first | rfl | (simp [errW_none, errW_some] <;> rfl) | (simp [*, errW_none, errW_some] <;> rfl), by repeat (first | (with_reducible first | exact HB.out | apply below_alloc | apply pw_below_drewN | apply below_drew1 | refine below_set ?_ GE136.out | refine below_set ?_ GE137.out) | exact HB.out)⟩
      · rw [if_neg c5] at H
        have c5b0 : (a0_3 == a1_3) = false := beq_eq_false_iff_ne.mpr c5
        have c5b1 : (a0_3 != a1_3) = true := bne_iff_ne.mpr c5
        obtain rfl := Option.some.inj H
        simp only [Option.some.injEq, Prod.mk.injEq] at H
        obtain ⟨rfl⟩ := H
        go_enter Tryd.func30, Tryd.ntmps30
        go_wp2_with (first | ((with_reducible refine gate_dst (N := 2) rfl ?_); refine box_event ?hg (N := 2) ?hd (cs := #[.int .i64 a0_0, .bool a0_1, .bool a0_2, .int .i64 a0_3, .int .i64 a0_4]) (t := 35) ?hr ?_; (case hd => rfl); (case hg => rfl); (case hr => first | (go_simp; done) | (go_simp; rfl)); intro gb136 hg w17 hbox hb; have n0_ := Aside0.mk (below_step (by repeat (first | (with_reducible first | exact HB.out | apply below_alloc | apply pw_below_drewN | apply below_drew1) | exact HB.out)) hb); have n1_ := Aside0.mk (hbox); have n2_ := Aside0.mk ((by rw [hg]; exact (below_size (by repeat (first | (with_reducible first | exact HB.out | apply below_alloc | apply pw_below_drewN | apply below_drew1) | exact HB.out))) : w.heap.size ≤ gb136)); have n3_ := Aside0.mk ((by rw [hg]; exact (below_size (by repeat (first | (with_reducible first | exact HB.out | apply below_alloc | apply pw_below_drewN | apply below_drew1) | exact HB.out))) : w.heap.size ≤ gb136)); clear HB; have HB := n0_; have BK136 := n1_; have GW136 := n2_; have GE136 := n3_; clear n0_ n1_ n2_ n3_; clear hb hbox hg) | ((with_reducible refine gate_dst (N := 3) rfl ?_); refine box_event ?hg (N := 3) ?hd (cs := #[.int .i64 a1_0, .bool a1_1, .bool a1_2, .int .i64 a1_3, .int .i64 a1_4]) (t := 35) ?hr ?_; (case hd => rfl); (case hg => rfl); (case hr => first | (go_simp; done) | (go_simp; rfl)); intro gb137 hg w18 hbox hb; have n0_ := Aside0.mk (blk_below (g := gb136) (o := .cells #[.int .i64 a0_0, .bool a0_1, .bool a0_2, .int .i64 a0_3, .int .i64 a0_4] 35 (0, 0)) (by (with_reducible repeat (first | refine blk_drewN ?_ _ | refine blk_drew ?_ | refine blk_alloc ?_ _)); exact BK136.out) hb); have n1_ := Aside0.mk (below_step (by repeat (first | (with_reducible first | exact HB.out | apply below_alloc | apply pw_below_drewN | apply below_drew1 | refine below_set ?_ GE136.out) | exact HB.out)) hb); have n2_ := Aside0.mk (hbox); have n3_ := Aside0.mk ((by rw [hg]; exact (below_size (by repeat (first | (with_reducible first | exact HB.out | apply below_alloc | apply pw_below_drewN | apply below_drew1 | refine below_set ?_ GE136.out) | exact HB.out))) : w.heap.size ≤ gb137)); have n4_ := Aside0.mk ((by rw [hg]; exact (below_size (by repeat (first | (with_reducible first | exact HB.out | apply below_alloc | apply pw_below_drewN | apply below_drew1 | refine below_set ?_ GE136.out) | exact HB.out))) : w.heap.size ≤ gb137)); have n5_ := Aside0.mk ((by rw [hg]; exact Nat.ne_of_lt (blk_lt (g := gb136) (o := .cells #[.int .i64 a0_0, .bool a0_1, .bool a0_2, .int .i64 a0_3, .int .i64 a0_4] 35 (0, 0)) (by (with_reducible repeat (first | refine blk_drewN ?_ _ | refine blk_drew ?_ | refine blk_alloc ?_ _)); exact BK136.out)) : gb136 ≠ gb137)); have n6_ := Aside0.mk ((by rw [hg]; exact Nat.ne_of_gt (blk_lt (g := gb136) (o := .cells #[.int .i64 a0_0, .bool a0_1, .bool a0_2, .int .i64 a0_3, .int .i64 a0_4] 35 (0, 0)) (by (with_reducible repeat (first | refine blk_drewN ?_ _ | refine blk_drew ?_ | refine blk_alloc ?_ _)); exact BK136.out)) : gb137 ≠ gb136)); clear BK136; clear HB; have BK136 := n0_; have HB := n1_; have BK137 := n2_; have GW137 := n3_; have GE137 := n4_; have NB136_137 := n5_; have NB137_136 := n6_; clear n0_ n1_ n2_ n3_ n4_ n5_ n6_; clear hb hbox hg; have hnb19 := NB136_137.out; have hnc19 := NB137_136.out; have hcz20_0 : w18.cell? ⟨gb136, 0, none⟩ = some (.int .i64 a0_0) := (blk_cell BK136.out 0).trans rfl; have hcz20_1 : w18.cell? ⟨gb136, 1, none⟩ = some (.bool a0_1) := (blk_cell BK136.out 1).trans rfl; have hcz20_2 : w18.cell? ⟨gb136, 2, none⟩ = some (.bool a0_2) := (blk_cell BK136.out 2).trans rfl; have hcz20_3 : w18.cell? ⟨gb136, 3, none⟩ = some (.int .i64 a0_3) := (blk_cell BK136.out 3).trans rfl; have hcz20_4 : w18.cell? ⟨gb136, 4, none⟩ = some (.int .i64 a0_4) := (blk_cell BK136.out 4).trans rfl; have hfz20_0 := blk_frozen BK136.out 0; have hfz20_1 := blk_frozen BK136.out 1; have hfz20_2 := blk_frozen BK136.out 2; have hfz20_3 := blk_frozen BK136.out 3; have hfz20_4 := blk_frozen BK136.out 4; have hcz21_0 : w18.cell? ⟨gb137, 0, none⟩ = some (.int .i64 a1_0) := (blk_cell BK137.out 0).trans rfl; have hcz21_1 : w18.cell? ⟨gb137, 1, none⟩ = some (.bool a1_1) := (blk_cell BK137.out 1).trans rfl; have hcz21_2 : w18.cell? ⟨gb137, 2, none⟩ = some (.bool a1_2) := (blk_cell BK137.out 2).trans rfl; have hcz21_3 : w18.cell? ⟨gb137, 3, none⟩ = some (.int .i64 a1_3) := (blk_cell BK137.out 3).trans rfl; have hcz21_4 : w18.cell? ⟨gb137, 4, none⟩ = some (.int .i64 a1_4) := (blk_cell BK137.out 4).trans rfl; have hfz21_0 := blk_frozen BK137.out 0; have hfz21_1 := blk_frozen BK137.out 1; have hfz21_2 := blk_frozen BK137.out 2; have hfz21_3 := blk_frozen BK137.out 3; have hfz21_4 := blk_frozen BK137.out 4))
        go_ret
        exact ⟨by first | rfl | (simp [errW_none, errW_some] <;> rfl) | (simp [*, errW_none, errW_some] <;> rfl), by repeat (first | (with_reducible first | exact HB.out | apply below_alloc | apply pw_below_drewN | apply below_drew1 | refine below_set ?_ GE136.out | refine below_set ?_ GE137.out) | exact HB.out)⟩
    · rw [if_neg c4] at H
      have c4b0 : (a0_1 == a1_1) = false := by simpa using c4
      (try (have c4b1 : decide (a0_1 = a1_1) = false := by simpa using c4))
      (try (have c4b2 : (a0_1 == a1_1) = false := by simpa using c4))
      (try (have c4b3 : ¬ (a0_1 = a1_1) := by simpa using c4))
      clear c4
      obtain rfl := Option.some.inj H
      simp only [Option.some.injEq, Prod.mk.injEq] at H
      obtain ⟨rfl⟩ := H
      go_enter Tryd.func30, Tryd.ntmps30
      go_wp2_with (first | ((with_reducible refine gate_dst (N := 2) rfl ?_); refine box_event ?hg (N := 2) ?hd (cs := #[.int .i64 a0_0, .bool a0_1, .bool a0_2, .int .i64 a0_3, .int .i64 a0_4]) (t := 35) ?hr ?_; (case hd => rfl); (case hg => rfl); (case hr => first | (go_simp; done) | (go_simp; rfl)); intro gb136 hg w22 hbox hb; have n0_ := Aside0.mk (below_step (by repeat (first | (with_reducible first | exact HB.out | apply below_alloc | apply pw_below_drewN | apply below_drew1) | exact HB.out)) hb); have n1_ := Aside0.mk (hbox); have n2_ := Aside0.mk ((by rw [hg]; exact (below_size (by repeat (first | (with_reducible first | exact HB.out | apply below_alloc | apply pw_below_drewN | apply below_drew1) | exact HB.out))) : w.heap.size ≤ gb136)); have n3_ := Aside0.mk ((by rw [hg]; exact (below_size (by repeat (first | (with_reducible first | exact HB.out | apply below_alloc | apply pw_below_drewN | apply below_drew1) | exact HB.out))) : w.heap.size ≤ gb136)); clear HB; have HB := n0_; have BK136 := n1_; have GW136 := n2_; have GE136 := n3_; clear n0_ n1_ n2_ n3_; clear hb hbox hg) | ((with_reducible refine gate_dst (N := 3) rfl ?_); refine box_event ?hg (N := 3) ?hd (cs := #[.int .i64 a1_0, .bool a1_1, .bool a1_2, .int .i64 a1_3, .int .i64 a1_4]) (t := 35) ?hr ?_; (case hd => rfl); (case hg => rfl); (case hr => first | (go_simp; done) | (go_simp; rfl)); intro gb137 hg w23 hbox hb; have n0_ := Aside0.mk (blk_below (g := gb136) (o := .cells #[.int .i64 a0_0, .bool a0_1, .bool a0_2, .int .i64 a0_3, .int .i64 a0_4] 35 (0, 0)) (by (with_reducible repeat (first | refine blk_drewN ?_ _ | refine blk_drew ?_ | refine blk_alloc ?_ _)); exact BK136.out) hb); have n1_ := Aside0.mk (below_step (by repeat (first | (with_reducible first | exact HB.out | apply below_alloc | apply pw_below_drewN | apply below_drew1 | refine below_set ?_ GE136.out) | exact HB.out)) hb); have n2_ := Aside0.mk (hbox); have n3_ := Aside0.mk ((by rw [hg]; exact (below_size (by repeat (first | (with_reducible first | exact HB.out | apply below_alloc | apply pw_below_drewN | apply below_drew1 | refine below_set ?_ GE136.out) | exact HB.out))) : w.heap.size ≤ gb137)); have n4_ := Aside0.mk ((by rw [hg]; exact (below_size (by repeat (first | (with_reducible first | exact HB.out | apply below_alloc | apply pw_below_drewN | apply below_drew1 | refine below_set ?_ GE136.out) | exact HB.out))) : w.heap.size ≤ gb137)); have n5_ := Aside0.mk ((by rw [hg]; exact Nat.ne_of_lt (blk_lt (g := gb136) (o := .cells #[.int .i64 a0_0, .bool a0_1, .bool a0_2, .int .i64 a0_3, .int .i64 a0_4] 35 (0, 0)) (by (with_reducible repeat (first | refine blk_drewN ?_ _ | refine blk_drew ?_ | refine blk_alloc ?_ _)); exact BK136.out)) : gb136 ≠ gb137)); have n6_ := Aside0.mk ((by rw [hg]; exact Nat.ne_of_gt (blk_lt (g := gb136) (o := .cells #[.int .i64 a0_0, .bool a0_1, .bool a0_2, .int .i64 a0_3, .int .i64 a0_4] 35 (0, 0)) (by (with_reducible repeat (first | refine blk_drewN ?_ _ | refine blk_drew ?_ | refine blk_alloc ?_ _)); exact BK136.out)) : gb137 ≠ gb136)); clear BK136; clear HB; have BK136 := n0_; have HB := n1_; have BK137 := n2_; have GW137 := n3_; have GE137 := n4_; have NB136_137 := n5_; have NB137_136 := n6_; clear n0_ n1_ n2_ n3_ n4_ n5_ n6_; clear hb hbox hg; have hnb24 := NB136_137.out; have hnc24 := NB137_136.out; have hcz25_0 : w23.cell? ⟨gb136, 0, none⟩ = some (.int .i64 a0_0) := (blk_cell BK136.out 0).trans rfl; have hcz25_1 : w23.cell? ⟨gb136, 1, none⟩ = some (.bool a0_1) := (blk_cell BK136.out 1).trans rfl; have hcz25_2 : w23.cell? ⟨gb136, 2, none⟩ = some (.bool a0_2) := (blk_cell BK136.out 2).trans rfl; have hcz25_3 : w23.cell? ⟨gb136, 3, none⟩ = some (.int .i64 a0_3) := (blk_cell BK136.out 3).trans rfl; have hcz25_4 : w23.cell? ⟨gb136, 4, none⟩ = some (.int .i64 a0_4) := (blk_cell BK136.out 4).trans rfl; have hfz25_0 := blk_frozen BK136.out 0; have hfz25_1 := blk_frozen BK136.out 1; have hfz25_2 := blk_frozen BK136.out 2; have hfz25_3 := blk_frozen BK136.out 3; have hfz25_4 := blk_frozen BK136.out 4; have hcz26_0 : w23.cell? ⟨gb137, 0, none⟩ = some (.int .i64 a1_0) := (blk_cell BK137.out 0).trans rfl; have hcz26_1 : w23.cell? ⟨gb137, 1, none⟩ = some (.bool a1_1) := (blk_cell BK137.out 1).trans rfl; have hcz26_2 : w23.cell? ⟨gb137, 2, none⟩ = some (.bool a1_2) := (blk_cell BK137.out 2).trans rfl; have hcz26_3 : w23.cell? ⟨gb137, 3, none⟩ = some (.int .i64 a1_3) := (blk_cell BK137.out 3).trans rfl; have hcz26_4 : w23.cell? ⟨gb137, 4, none⟩ = some (.int .i64 a1_4) := (blk_cell BK137.out 4).trans rfl; have hfz26_0 := blk_frozen BK137.out 0; have hfz26_1 := blk_frozen BK137.out 1; have hfz26_2 := blk_frozen BK137.out 2; have hfz26_3 := blk_frozen BK137.out 3; have hfz26_4 := blk_frozen BK137.out 4))
      go_ret
      exact ⟨by first | rfl | (simp [errW_none, errW_some] <;> rfl) | (simp [*, errW_none, errW_some] <;> rfl), by repeat (first | (with_reducible first | exact HB.out | apply below_alloc | apply pw_below_drewN | apply below_drew1 | refine below_set ?_ GE136.out | refine below_set ?_ GE137.out) | exact HB.out)⟩
  · rw [if_neg c3] at H
    have c3b0 : (a0_0 == a1_0) = false := beq_eq_false_iff_ne.mpr c3
    have c3b1 : (a0_0 != a1_0) = true := bne_iff_ne.mpr c3
    obtain rfl := Option.some.inj H
    simp only [Option.some.injEq, Prod.mk.injEq] at H
    obtain ⟨rfl⟩ := H
    go_enter Tryd.func30, Tryd.ntmps30
    go_wp2_with (first | ((with_reducible refine gate_dst (N := 2) rfl ?_); refine box_event ?hg (N := 2) ?hd (cs := #[.int .i64 a0_0, .bool a0_1, .bool a0_2, .int .i64 a0_3, .int .i64 a0_4]) (t := 35) ?hr ?_; (case hd => rfl); (case hg => rfl); (case hr => first | (go_simp; done) | (go_simp; rfl)); intro gb136 hg w27 hbox hb; have n0_ := Aside0.mk (below_step (by repeat (first | (with_reducible first | exact HB.out | apply below_alloc | apply pw_below_drewN | apply below_drew1) | exact HB.out)) hb); have n1_ := Aside0.mk (hbox); have n2_ := Aside0.mk ((by rw [hg]; exact (below_size (by repeat (first | (with_reducible first | exact HB.out | apply below_alloc | apply pw_below_drewN | apply below_drew1) | exact HB.out))) : w.heap.size ≤ gb136)); have n3_ := Aside0.mk ((by rw [hg]; exact (below_size (by repeat (first | (with_reducible first | exact HB.out | apply below_alloc | apply pw_below_drewN | apply below_drew1) | exact HB.out))) : w.heap.size ≤ gb136)); clear HB; have HB := n0_; have BK136 := n1_; have GW136 := n2_; have GE136 := n3_; clear n0_ n1_ n2_ n3_; clear hb hbox hg) | ((with_reducible refine gate_dst (N := 3) rfl ?_); refine box_event ?hg (N := 3) ?hd (cs := #[.int .i64 a1_0, .bool a1_1, .bool a1_2, .int .i64 a1_3, .int .i64 a1_4]) (t := 35) ?hr ?_; (case hd => rfl); (case hg => rfl); (case hr => first | (go_simp; done) | (go_simp; rfl)); intro gb137 hg w28 hbox hb; have n0_ := Aside0.mk (blk_below (g := gb136) (o := .cells #[.int .i64 a0_0, .bool a0_1, .bool a0_2, .int .i64 a0_3, .int .i64 a0_4] 35 (0, 0)) (by (with_reducible repeat (first | refine blk_drewN ?_ _ | refine blk_drew ?_ | refine blk_alloc ?_ _)); exact BK136.out) hb); have n1_ := Aside0.mk (below_step (by repeat (first | (with_reducible first | exact HB.out | apply below_alloc | apply pw_below_drewN | apply below_drew1 | refine below_set ?_ GE136.out) | exact HB.out)) hb); have n2_ := Aside0.mk (hbox); have n3_ := Aside0.mk ((by rw [hg]; exact (below_size (by repeat (first | (with_reducible first | exact HB.out | apply below_alloc | apply pw_below_drewN | apply below_drew1 | refine below_set ?_ GE136.out) | exact HB.out))) : w.heap.size ≤ gb137)); have n4_ := Aside0.mk ((by rw [hg]; exact (below_size (by repeat (first | (with_reducible first | exact HB.out | apply below_alloc | apply pw_below_drewN | apply below_drew1 | refine below_set ?_ GE136.out) | exact HB.out))) : w.heap.size ≤ gb137)); have n5_ := Aside0.mk ((by rw [hg]; exact Nat.ne_of_lt (blk_lt (g := gb136) (o := .cells #[.int .i64 a0_0, .bool a0_1, .bool a0_2, .int .i64 a0_3, .int .i64 a0_4] 35 (0, 0)) (by (with_reducible repeat (first | refine blk_drewN ?_ _ | refine blk_drew ?_ | refine blk_alloc ?_ _)); exact BK136.out)) : gb136 ≠ gb137)); have n6_ := Aside0.mk ((by rw [hg]; exact Nat.ne_of_gt (blk_lt (g := gb136) (o := .cells #[.int .i64 a0_0, .bool a0_1, .bool a0_2, .int .i64 a0_3, .int .i64 a0_4] 35 (0, 0)) (by (with_reducible repeat (first | refine blk_drewN ?_ _ | refine blk_drew ?_ | refine blk_alloc ?_ _)); exact BK136.out)) : gb137 ≠ gb136)); clear BK136; clear HB; have BK136 := n0_; have HB := n1_; have BK137 := n2_; have GW137 := n3_; have GE137 := n4_; have NB136_137 := n5_; have NB137_136 := n6_; clear n0_ n1_ n2_ n3_ n4_ n5_ n6_; clear hb hbox hg; have hnb29 := NB136_137.out; have hnc29 := NB137_136.out; have hcz30_0 : w28.cell? ⟨gb136, 0, none⟩ = some (.int .i64 a0_0) := (blk_cell BK136.out 0).trans rfl; have hcz30_1 : w28.cell? ⟨gb136, 1, none⟩ = some (.bool a0_1) := (blk_cell BK136.out 1).trans rfl; have hcz30_2 : w28.cell? ⟨gb136, 2, none⟩ = some (.bool a0_2) := (blk_cell BK136.out 2).trans rfl; have hcz30_3 : w28.cell? ⟨gb136, 3, none⟩ = some (.int .i64 a0_3) := (blk_cell BK136.out 3).trans rfl; have hcz30_4 : w28.cell? ⟨gb136, 4, none⟩ = some (.int .i64 a0_4) := (blk_cell BK136.out 4).trans rfl; have hfz30_0 := blk_frozen BK136.out 0; have hfz30_1 := blk_frozen BK136.out 1; have hfz30_2 := blk_frozen BK136.out 2; have hfz30_3 := blk_frozen BK136.out 3; have hfz30_4 := blk_frozen BK136.out 4; have hcz31_0 : w28.cell? ⟨gb137, 0, none⟩ = some (.int .i64 a1_0) := (blk_cell BK137.out 0).trans rfl; have hcz31_1 : w28.cell? ⟨gb137, 1, none⟩ = some (.bool a1_1) := (blk_cell BK137.out 1).trans rfl; have hcz31_2 : w28.cell? ⟨gb137, 2, none⟩ = some (.bool a1_2) := (blk_cell BK137.out 2).trans rfl; have hcz31_3 : w28.cell? ⟨gb137, 3, none⟩ = some (.int .i64 a1_3) := (blk_cell BK137.out 3).trans rfl; have hcz31_4 : w28.cell? ⟨gb137, 4, none⟩ = some (.int .i64 a1_4) := (blk_cell BK137.out 4).trans rfl; have hfz31_0 := blk_frozen BK137.out 0; have hfz31_1 := blk_frozen BK137.out 1; have hfz31_2 := blk_frozen BK137.out 2; have hfz31_3 := blk_frozen BK137.out 3; have hfz31_4 := blk_frozen BK137.out 4))
    go_ret
    exact ⟨by first | rfl | (simp [errW_none, errW_some] <;> rfl) | (simp [*, errW_none, errW_some] <;> rfl), by repeat (first | (with_reducible first | exact HB.out | apply below_alloc | apply pw_below_drewN | apply below_drew1 | refine below_set ?_ GE136.out | refine below_set ?_ GE137.out) | exact HB.out)⟩

/-! ### pendulumref_Bare: function 33 -/
def pendulumref_Bare.f (a0 : Int) : Option (Int × Bool × Bool × Int × Int) := some (a0, false, false, 0, 0)
set_option maxHeartbeats 8000000 in
set_option maxRecDepth 100000 in
theorem pendulumref_Bare.calls [Sent] (a0 : Int) (r1 : Int) (r2 : Bool) (r3 : Bool) (r4 : Int) (r5 : Int) (w : World) (h : pendulumref_Bare.f a0 = some (r1, r2, r3, r4, r5)) :
    Calls Tryd.prog 33 #[.int .i64 a0] w fun e w' => e = .returned (.agg #[.int .i64 r1, .bool r2, .bool r3, .int .i64 r4, .int .i64 r5]) ∧ Below w.heap.size w w' := by
  have hu35 := Tryd.underlying35
  have HB := Aside0.mk (Below.refl w.heap.size w)
  have H : (some (a0, false, false, 0, 0)) = some (r1, r2, r3, r4, r5) := h
  clear h
  simp only [Option.some.injEq, Prod.mk.injEq] at H
  obtain ⟨rfl, rfl, rfl, rfl, rfl⟩ := H
  go_enter Tryd.func33, Tryd.ntmps33
  go_wp2_with (first | ((with_reducible refine gate_dst (N := 2) rfl ?_); refine box_event ?hg (N := 2) ?hd (cs := #[.int .i64 0, .bool false, .bool false, .int .i64 0, .int .i64 0]) (t := 35) ?hr ?_; (case hd => rfl); (case hg => rfl); (case hr => first | (go_simp; done) | (go_simp; rfl)); intro gb138 hg w2 hbox hb; have n0_ := Aside0.mk (below_step (by repeat (first | (with_reducible first | exact HB.out | apply below_alloc | apply pw_below_drewN | apply below_drew1) | exact HB.out)) hb); have n1_ := Aside0.mk (hbox); have n2_ := Aside0.mk ((by rw [hg]; exact (below_size (by repeat (first | (with_reducible first | exact HB.out | apply below_alloc | apply pw_below_drewN | apply below_drew1) | exact HB.out))) : w.heap.size ≤ gb138)); have n3_ := Aside0.mk ((by rw [hg]; exact (below_size (by repeat (first | (with_reducible first | exact HB.out | apply below_alloc | apply pw_below_drewN | apply below_drew1) | exact HB.out))) : w.heap.size ≤ gb138)); clear HB; have HB := n0_; have BK138 := n1_; have GW138 := n2_; have GE138 := n3_; clear n0_ n1_ n2_ n3_; clear hb hbox hg; have hcz3_0 : w2.cell? ⟨gb138, 0, none⟩ = some (.int .i64 0) := (blk_cell BK138.out 0).trans rfl; have hcz3_1 : w2.cell? ⟨gb138, 1, none⟩ = some (.bool false) := (blk_cell BK138.out 1).trans rfl; have hcz3_2 : w2.cell? ⟨gb138, 2, none⟩ = some (.bool false) := (blk_cell BK138.out 2).trans rfl; have hcz3_3 : w2.cell? ⟨gb138, 3, none⟩ = some (.int .i64 0) := (blk_cell BK138.out 3).trans rfl; have hcz3_4 : w2.cell? ⟨gb138, 4, none⟩ = some (.int .i64 0) := (blk_cell BK138.out 4).trans rfl; have hfz3_0 := blk_frozen BK138.out 0; have hfz3_1 := blk_frozen BK138.out 1; have hfz3_2 := blk_frozen BK138.out 2; have hfz3_3 := blk_frozen BK138.out 3; have hfz3_4 := blk_frozen BK138.out 4))
  refine bodyPost_ret (results_cell_row rfl _ _ gb138 35 #[.int .i64 a0, .bool false, .bool false, .int .i64 0, .int .i64 0] (0, 0) _ rfl (by (with_reducible repeat (first | refine blk_drewN ?_ _ | refine blk_drew ?_ | refine blk_alloc ?_ _)); refine blk_put (cs := #[.int .i64 a0, .bool false, .bool false, .int .i64 0, .int .i64 0]) ?_ 4 _ rfl; (with_reducible repeat (first | refine blk_drewN ?_ _ | refine blk_drew ?_ | refine blk_alloc ?_ _)); refine blk_put (cs := #[.int .i64 a0, .bool false, .bool false, .int .i64 0, .int .i64 0]) ?_ 3 _ rfl; (with_reducible repeat (first | refine blk_drewN ?_ _ | refine blk_drew ?_ | refine blk_alloc ?_ _)); refine blk_put (cs := #[.int .i64 a0, .bool false, .bool false, .int .i64 0, .int .i64 0]) ?_ 2 _ rfl; (with_reducible repeat (first | refine blk_drewN ?_ _ | refine blk_drew ?_ | refine blk_alloc ?_ _)); refine blk_put (cs := #[.int .i64 a0, .bool false, .bool false, .int .i64 0, .int .i64 0]) ?_ 1 _ rfl; (with_reducible repeat (first | refine blk_drewN ?_ _ | refine blk_drew ?_ | refine blk_alloc ?_ _)); refine blk_put (cs := #[.int .i64 0, .bool false, .bool false, .int .i64 0, .int .i64 0]) ?_ 0 _ rfl; (with_reducible repeat (first | refine blk_drewN ?_ _ | refine blk_drew ?_ | refine blk_alloc ?_ _)); exact BK138.out) Tryd.underlying35 rfl (by kernel_rfl)) rfl ?_
  exact ⟨by first | rfl | (simp [errW_none, errW_some] <;> rfl) | (simp [*, errW_none, errW_some] <;> rfl), by repeat (first | (with_reducible first | exact HB.out | apply below_alloc | apply pw_below_drewN | apply below_drew1 | refine below_set ?_ GE138.out) | exact HB.out)⟩

/-! ### pendulumsee_Same: function 15 -/
theorem see_Alike [Sent] (a b : Int) (w : World) (h : GlobW w) (ha : ∃ c ∈ sentList, c.1 = a) (hb : ∃ c ∈ sentList, c.1 = b) (r : Bool) (hr : Aside0 (r = (a == b))) :
    Calls Tryd.prog 37 #[.iface 69 (.pointer (some (Sent.S a))), .iface 69 (.pointer (some (Sent.S b)))] w fun e w' => e = .returned (.bool r) ∧ w = w' := by
  obtain ⟨c, hc, rfl⟩ := ha
  obtain ⟨d, hd, rfl⟩ := hb
  obtain ⟨i, hi, hi1⟩ := Option.map_eq_some_iff.1 (show (Tryd.prog.info? 69).map (·.comparable) = some true by kernel_rfl)
  obtain ⟨j, hj, hj1⟩ := Option.map_eq_some_iff.1 (show (Tryd.prog.info? 86).map (·.size) = some 1 by kernel_rfl)
  have hu := Tryd.underlying32
  by_cases he : c.1 = d.1
  · obtain rfl : r = true := by rw [hr.out, he]; simp
    rw [he]
    have hq := run_eql_iface_ptr_same w (Sent.S d.1) Tryd.underlying32 Tryd.underlying69 hi hi1 hj
    clear hr he hi hi1 hj hj1 h
    go_enter Tryd.func37, Tryd.ntmps37
    go_wp2
    go_ret
    exact ⟨rfl, rfl⟩
  · obtain rfl : r = false := by rw [hr.out]; simp [he]
    obtain ⟨_, ca, ta, h1⟩ := h.1 c hc
    obtain ⟨_, cb, tb, h2⟩ := h.1 d hd
    have hq := run_eql_iface_ptr_other w Tryd.underlying32 Tryd.underlying69 hi hi1 hj (by rw [hj1]; decide) (fun e => he (h.2 c hc d hd e)) h1 h2
    clear hr he hi hi1 hj hj1 h h1 h2
    go_enter Tryd.func37, Tryd.ntmps37
    go_wp2
    go_ret
    exact ⟨rfl, rfl⟩
def sentVal [Sent] (c : Int) : Value := .iface 69 (.pointer (some (Sent.S c)))
def sentCells [Sent] : List Value := (List.range 21).map fun i : Nat => sentVal (101 + (i : Int))
theorem sentList_all : ∀ i : Fin 21, ∃ c ∈ sentList, c.1 = 101 + ((i.1 : Nat) : Int) := by decide
set_option maxRecDepth 100000 in
set_option maxHeartbeats 1000000 in
theorem see_sentinels [Sent] (w : World) (h : GlobW w) :
    Calls Tryd.prog 36 #[] w fun e w' => e = .returned (.slice (some ⟨w.heap.size, 0, none⟩) 21 21) ∧ w.alloc (.cells sentCells.toArray 32) = w' := by
  have f0 := (h.1 (101, 1) (by decide)).1
  have f1 := (h.1 (102, 2) (by decide)).1
  have f2 := (h.1 (103, 3) (by decide)).1
  have f3 := (h.1 (104, 0) (by decide)).1
  have f4 := (h.1 (105, 4) (by decide)).1
  have f5 := (h.1 (106, 5) (by decide)).1
  have f6 := (h.1 (107, 6) (by decide)).1
  have f7 := (h.1 (108, 7) (by decide)).1
  have f8 := (h.1 (109, 8) (by decide)).1
  have f9 := (h.1 (110, 9) (by decide)).1
  have f10 := (h.1 (111, 10) (by decide)).1
  have f11 := (h.1 (112, 11) (by decide)).1
  have f12 := (h.1 (113, 12) (by decide)).1
  have f13 := (h.1 (114, 13) (by decide)).1
  have f14 := (h.1 (115, 14) (by decide)).1
  have f15 := (h.1 (116, 15) (by decide)).1
  have f16 := (h.1 (117, 16) (by decide)).1
  have f17 := (h.1 (118, 17) (by decide)).1
  have f18 := (h.1 (119, 18) (by decide)).1
  have f19 := (h.1 (120, 19) (by decide)).1
  have f20 := (h.1 (121, 20) (by decide)).1
  have hC := Aside0.mk (show (sentCells.toArray : Array Value) = #[.iface 69 (.pointer (some (Sent.S 101))), .iface 69 (.pointer (some (Sent.S 102))), .iface 69 (.pointer (some (Sent.S 103))), .iface 69 (.pointer (some (Sent.S 104))), .iface 69 (.pointer (some (Sent.S 105))), .iface 69 (.pointer (some (Sent.S 106))), .iface 69 (.pointer (some (Sent.S 107))), .iface 69 (.pointer (some (Sent.S 108))), .iface 69 (.pointer (some (Sent.S 109))), .iface 69 (.pointer (some (Sent.S 110))), .iface 69 (.pointer (some (Sent.S 111))), .iface 69 (.pointer (some (Sent.S 112))), .iface 69 (.pointer (some (Sent.S 113))), .iface 69 (.pointer (some (Sent.S 114))), .iface 69 (.pointer (some (Sent.S 115))), .iface 69 (.pointer (some (Sent.S 116))), .iface 69 (.pointer (some (Sent.S 117))), .iface 69 (.pointer (some (Sent.S 118))), .iface 69 (.pointer (some (Sent.S 119))), .iface 69 (.pointer (some (Sent.S 120))), .iface 69 (.pointer (some (Sent.S 121)))] from rfl)
  clear h
  go_enter Tryd.func36, Tryd.ntmps36
  go_wp2
  go_ret
  exact ⟨rfl, by rw [hC.out]⟩
theorem see_sentinel_cell [Sent] (w : World) (k : Nat) (hk : k < 21) : (w.alloc (.cells sentCells.toArray 32)).cell? ⟨w.heap.size, k, none⟩ = some (.iface 69 (.pointer (some (Sent.S (101 + (k : Int)))))) := by
  have h1 : (w.alloc (.cells sentCells.toArray 32)).heap[w.heap.size]? = some (.cells sentCells.toArray 32 (0, 0)) := heap_alloc_new w _
  rw [blk_cell h1]
  simp [sentCells, hk, sentVal]
set_option maxRecDepth 100000 in
set_option maxHeartbeats 1000000 in
theorem see_sentinel [Sent] (c : Int) (w : World) (h : GlobW w) (hc0 : 101 ≤ c) (hc1 : c ≤ 121) :
    Calls Tryd.prog 34 #[.iface 69 (.pointer (some (Sent.S c)))] w fun e w' => e = .returned (.int .i64 c) ∧ Below w.heap.size w w' := by
  have HG := Aside0.mk h
  clear h
  have hcl : ∃ d ∈ sentList, d.1 = c := by
    obtain ⟨d, hd, he⟩ := sentList_all ⟨(c - 101).toNat, by omega⟩
    exact ⟨d, hd, by rw [he]; simp; omega⟩
  have HCL := Aside0.mk hcl
  clear hcl
  go_enter Tryd.func34, Tryd.ntmps34
  go_wp2_with (go_at_call 36; refine (see_sentinels _ HG.out).mono ?_; rintro e w' ⟨rfl, rfl⟩)
  obtain ⟨W, hW⟩ : ∃ W, W = w.alloc (.cells sentCells.toArray 32) := ⟨_, rfl⟩
  have HW := Aside0.mk hW
  have hcell : ∀ k : Nat, k < 21 → W.cell? ⟨w.heap.size, k, none⟩ = some (.iface 69 (.pointer (some (Sent.S (101 + (k : Int)))))) := fun k hk => by rw [hW]; exact see_sentinel_cell w k hk
  have HCE := Aside0.mk hcell
  clear hcell
  rw [← hW]
  clear hW
  go_loop [4] (fun i => ∃ k : Nat, i = .int .i64 k ∧ Aside0 (k ≤ 21 ∧ 101 + (k : Int) ≤ c)) (fun i => 21 - (intOf i).toNat)
  case atStart => exact ⟨0, rfl, ⟨by omega, by omega⟩⟩
  case round =>
    obtain ⟨k, rfl, HK⟩ := hrel
    have hk : k < 21 := by have := HK.out; omega
    have hx := HCE.out k hk
    have HGW : Aside0 (GlobW W) := ⟨by rw [HW.out]; exact HG.out.below (below_alloc (Below.refl _ _) _)⟩
    have hkl : ∃ d ∈ sentList, d.1 = 101 + (k : Int) := sentList_all ⟨k, hk⟩
    have HKL := Aside0.mk hkl
    clear hkl
    go_wp2_with fail
    refine (see_Alike c (101 + (k : Int)) _ HGW.out HCL.out HKL.out (c == 101 + (k : Int)) ⟨rfl⟩).mono ?_
    rintro e w1 ⟨rfl, rfl⟩
    by_cases he : c = 101 + (k : Int)
    · have hb : (c == 101 + (k : Int)) = true := by simp [he]
      rw [hb]
      have HE := Aside0.mk he
      clear he hb
      go_wp2
      go_ret
      exact ⟨by rw [HE.out]; rfl, by rw [HW.out]; exact below_alloc (Below.refl _ _) _⟩
    · have hb : (c == 101 + (k : Int)) = false := by simp [he]
      rw [hb]
      have HE := Aside0.mk he
      clear he hb
      go_wp2
      go_round
      case rel => exact ⟨k + 1, by go_num, ⟨by omega, by have := HK.out; have := HE.out; omega⟩⟩
      case measure => simp [intOf]; omega
theorem see_put {w : World} {g : Nat} {a b c d e a' b' c' d' e' : Value} (h : w.heap[g]? = some (.cells #[a, b, c, d, e] 35 (0, 0))) :
    (((((w.setCell ⟨g, 0, none⟩ a').setCell ⟨g, 1, none⟩ b').setCell ⟨g, 2, none⟩ c').setCell ⟨g, 3, none⟩ d').setCell ⟨g, 4, none⟩ e').heap[g]? = some (.cells #[a', b', c', d', e'] 35 (0, 0)) :=
  blk_set (blk_set (blk_set (blk_set (blk_set h 0 a') 1 b') 2 c') 3 d') 4 e'
theorem see_put_below {w0 w : World} {g : Nat} {a b c d e : Value} (h : Below w0.heap.size w0 w) (hg : w0.heap.size ≤ g) :
    Below w0.heap.size w0 (((((w.setCell ⟨g, 0, none⟩ a).setCell ⟨g, 1, none⟩ b).setCell ⟨g, 2, none⟩ c).setCell ⟨g, 3, none⟩ d).setCell ⟨g, 4, none⟩ e) :=
  below_set (below_set (below_set (below_set (below_set h hg) hg) hg) hg) hg
set_option maxRecDepth 100000 in
set_option maxHeartbeats 1000000 in
theorem see_Fault_nil [Sent] (w : World) : Calls Tryd.prog 31 #[.nilIface] w fun e w' => e = .returned (.agg #[.int .i64 0, .bool false, .bool false, .int .i64 0, .int .i64 0]) ∧ Below w.heap.size w w' := by
  have hu := Tryd.underlying35
  have hu32 := Tryd.underlying32
  go_enter Tryd.func31, Tryd.ntmps31
  go_wp2_with fail
  refine (pendulumref_None.calls 0 false false 0 0 _ (by unfold pendulumref_None.f; rfl)).mono ?_
  rintro e w1 ⟨rfl, hb⟩
  have h1 : w1.heap[w.heap.size]? = some (.cells #[.int .i64 0, .bool false, .bool false, .int .i64 0, .int .i64 0] 35 (0, 0)) := (hb.block _ (by simp)).trans (heap_alloc_new w _)
  have HB := Aside0.mk (below_step (below_alloc (Below.refl w.heap.size w) _) hb)
  have hz : w.heap.size < w1.heap.size := blk_lt h1
  have H1 := Aside0.mk h1
  clear hb
  have c0 := blk_cell h1 0
  have c1 := blk_cell h1 1
  have c2 := blk_cell h1 2
  have c3 := blk_cell h1 3
  have c4 := blk_cell h1 4
  have g0 := blk_frozen h1 0
  have g1 := blk_frozen h1 1
  have g2 := blk_frozen h1 2
  have g3 := blk_frozen h1 3
  have g4 := blk_frozen h1 4
  clear h1
  simp at c0 c1 c2 c3 c4
  go_wp2_with fail
  exact bodyPost_ret (results_cell_row rfl _ _ w.heap.size 35 #[.int .i64 0, .bool false, .bool false, .int .i64 0, .int .i64 0] (0, 0) _ rfl (see_put H1.out) Tryd.underlying35 rfl (by kernel_rfl)) rfl ⟨rfl, see_put_below HB.out (Nat.le_refl _)⟩
set_option maxRecDepth 100000 in
set_option maxHeartbeats 1000000 in
theorem see_Fault_at [Sent] (p c : Int) (a : Addr) (w : World) (hG : GlobW w) (h0 : 101 ≤ c) (h1 : c ≤ 121) (hE : w.cell? (a.add 0) = some (.int .i64 p) ∧ w.cell? (a.add 1) = some (sentV c)) :
    Calls Tryd.prog 31 #[.iface 59 (.pointer (some a))] w fun e w' => e = .returned (.agg #[.int .i64 c, .bool true, .bool false, .int .i64 p, .int .i64 0]) ∧ Below w.heap.size w w' := by
  have hu := Tryd.underlying35
  have hu32 := Tryd.underlying32
  obtain ⟨hE0, hE1⟩ := hE
  have e0' := Lib.cell?_alloc_some (o := .cells #[.int .i64 0, .bool false, .bool false, .int .i64 0, .int .i64 0] 35) hE0
  have e1' := Lib.cell?_alloc_some (o := .cells #[.int .i64 0, .bool false, .bool false, .int .i64 0, .int .i64 0] 35) hE1
  obtain ⟨ab, ao, ap⟩ := a
  simp [sentV, Addr.add] at e0' e1'
  have HE0 := Aside0.mk hE0
  have HG := Aside0.mk (hG.below (below_alloc (Below.refl w.heap.size w) (.cells #[.int .i64 0, .bool false, .bool false, .int .i64 0, .int .i64 0] 35 (0, 0))))
  have H01 := Aside0.mk (And.intro h0 h1)
  clear hG h0 h1 hE0 hE1
  have hta : ∀ (v : Value) (W : World), (Instr.typeAssert (.iface 59 v) 32 59 true).run Tryd.prog W = .ok (.tuple #[v, .bool true]) W := fun v W => by kernel_rfl
  have htb : ∀ (v : Value) (W : World), (Instr.typeAssert (.iface 69 v) 32 59 true).run Tryd.prog W = .ok (.tuple #[.pointer none, .bool false]) W := fun v W => by kernel_rfl
  go_enter Tryd.func31, Tryd.ntmps31
  go_wp2_with fail
  obtain ⟨W, hW⟩ : ∃ W, W = w.alloc (.cells #[.int .i64 0, .bool false, .bool false, .int .i64 0, .int .i64 0] 35 (0, 0)) := ⟨_, rfl⟩
  rw [← hW] at e0' e1' HG ⊢
  have HBW := Aside0.mk (show Below w.heap.size w W from by rw [hW]; exact below_alloc (Below.refl _ _) _)
  have HBK := Aside0.mk (show W.heap[w.heap.size]? = some (.cells #[.int .i64 0, .bool false, .bool false, .int .i64 0, .int .i64 0] 35 (0, 0)) from by rw [hW]; exact heap_alloc_new w _)
  have HE0' := Aside0.mk e0'
  clear hW
  have HPL := Aside0.mk (show pendulumref_Placed.f c p = some (c, true, false, p, 0) from by rw [pendulumref_Placed.f, if_neg (by have := H01.out.1; omega)])
  go_region_with (first | (go_at_call 34; refine (see_sentinel c _ (HG.out.below (below_drew (Below.refl _ _))) H01.out.1 H01.out.2).mono ?_; rintro e w1 ⟨rfl, hb⟩; have HB1 := Aside0.mk (below_step (below_drew HBW.out) hb); have e0'' := pw_cell_below hb (show W.drew.cell? _ = _ from HE0'.out); have h1' := (hb.block _ (show w.heap.size < W.drew.heap.size from blk_lt HBK.out)).trans (show W.drew.heap[w.heap.size]? = _ from HBK.out); have H1' := Aside0.mk h1'; clear hb h1') | (go_at_call 17; refine (pendulumref_Placed.calls c p c true false p 0 _ HPL.out).mono ?_; rintro e w2 ⟨rfl, hb⟩; have HB := Aside0.mk (below_step HB1.out hb); have h1 := (hb.block _ (blk_lt H1'.out)).trans H1'.out; have H1 := Aside0.mk h1; clear hb; have c0 := blk_cell h1 0; have c1 := blk_cell h1 1; have c2 := blk_cell h1 2; have c3 := blk_cell h1 3; have c4 := blk_cell h1 4; have g0 := blk_frozen h1 0; have g1 := blk_frozen h1 1; have g2 := blk_frozen h1 2; have g3 := blk_frozen h1 3; have g4 := blk_frozen h1 4; clear h1; simp at c0 c1 c2 c3 c4))
  all_goals go_wp2_with fail
  all_goals exact bodyPost_ret (results_cell_row rfl _ _ w.heap.size 35 #[.int .i64 c, .bool true, .bool false, .int .i64 p, .int .i64 0] (0, 0) _ rfl (see_put H1.out) Tryd.underlying35 rfl (by kernel_rfl)) rfl ⟨rfl, see_put_below HB.out (Nat.le_refl _)⟩
set_option maxRecDepth 100000 in
set_option maxHeartbeats 1000000 in
theorem see_Same [Sent] (v0 : Value) (f0 : Int) (f1 f2 : Bool) (f3 f4 : Int) (b0 : Int) (b1 b2 : Bool) (b3 b4 : Int) (r : Bool) (w : World) (hG : GlobW w) (hok : ∀ W, Below w.heap.size w W → GlobW W → Calls Tryd.prog 31 #[v0] W fun e w' => e = .returned (.agg #[.int .i64 f0, .bool f1, .bool f2, .int .i64 f3, .int .i64 f4]) ∧ Below W.heap.size W w')
    (hr : pendulumref_SameFault.f f0 f1 f2 f3 f4 b0 b1 b2 b3 b4 = some r) :
    Calls Tryd.prog 15 #[v0, .agg #[.int .i64 b0, .bool b1, .bool b2, .int .i64 b3, .int .i64 b4]] w fun e w' => e = .returned (.bool r) ∧ Below w.heap.size w w' := by
  have hu := Tryd.underlying35
  have HR := Aside0.mk hr
  have HOK := Aside0.mk hok
  obtain ⟨W, hW⟩ : ∃ W, W = w.alloc (.cells #[.int .i64 b0, .bool b1, .bool b2, .int .i64 b3, .int .i64 b4] 35 (0, 0)) := ⟨_, rfl⟩
  have HG := Aside0.mk (hG.below (below_alloc (Below.refl w.heap.size w) (.cells #[.int .i64 b0, .bool b1, .bool b2, .int .i64 b3, .int .i64 b4] 35 (0, 0))))
  have HBW : Aside0 (Below w.heap.size w W) := ⟨by rw [hW]; exact below_alloc (Below.refl _ _) _⟩
  have hb : W.heap[w.heap.size]? = some (.cells #[.int .i64 b0, .bool b1, .bool b2, .int .i64 b3, .int .i64 b4] 35 (0, 0)) := by rw [hW]; exact heap_alloc_new w _
  rw [← hW] at HG
  have HBK := Aside0.mk hb
  clear hr hG hok hb
  go_enter Tryd.func15, Tryd.ntmps15
  go_wp2_with fail
  rw [← hW]
  clear hW
  have k0 := blk_cell HBK.out 0
  have k1 := blk_cell HBK.out 1
  have k2 := blk_cell HBK.out 2
  have k3 := blk_cell HBK.out 3
  have k4 := blk_cell HBK.out 4
  simp at k0 k1 k2 k3 k4
  have hF := HOK.out W.drew (below_drew HBW.out) (HG.out.below (below_drew (Below.refl _ _)))
  have HF := Aside0.mk hF
  clear hF
  go_region_with (first | (go_at_call 31; refine HF.out.mono ?_; rintro e w1 ⟨rfl, hb1⟩; have hbk := (hb1.block w.heap.size (blk_lt HBK.out)).trans HBK.out; have HB1 := Aside0.mk (show Below w.heap.size w w1 from below_step (below_drew HBW.out) hb1); clear hb1; have m0 := blk_cell hbk 0; have m1 := blk_cell hbk 1; have m2 := blk_cell hbk 2; have m3 := blk_cell hbk 3; have m4 := blk_cell hbk 4; clear hbk; simp at m0 m1 m2 m3 m4) | (go_at_call 30; refine (pendulumref_SameFault.calls _ _ _ _ _ _ _ _ _ _ r _ HR.out).mono ?_; rintro e w2 ⟨rfl, hb2⟩; have HB2 := Aside0.mk (below_step HB1.out hb2); clear hb2))
  all_goals go_wp2
  all_goals go_ret
  all_goals exact ⟨rfl, HB2.out⟩
def pendulumsee_Same.f (a0 : Option (Int × Int)) (a1_0 : Int) (a1_1 a1_2 : Bool) (a1_3 a1_4 : Int) : Option Bool :=
  match a0 with
  | none => pendulumref_SameFault.f 0 false false 0 0 a1_0 a1_1 a1_2 a1_3 a1_4
  | some (p, c) => if 101 ≤ c ∧ c ≤ 121 then pendulumref_SameFault.f c true false p 0 a1_0 a1_1 a1_2 a1_3 a1_4 else none
theorem pendulumsee_Same.calls [Sent] (A0 : Option Addr) (a0 : Option (Int × Int)) (a1_0 : Int) (a1_1 a1_2 : Bool) (a1_3 a1_4 : Int) (r : Bool) (w : World) (hG : GlobW w) (hE : Kd.C (Kd.raw 2) w A0 (atl a0).length (atl a0)) (h : pendulumsee_Same.f a0 a1_0 a1_1 a1_2 a1_3 a1_4 = some r) :
    Calls Tryd.prog 15 #[errU a0 A0, .agg #[.int .i64 a1_0, .bool a1_1, .bool a1_2, .int .i64 a1_3, .int .i64 a1_4]] w fun e w' => e = .returned (.bool r) ∧ Below w.heap.size w w' := by
  cases a0 with
  | none => exact see_Same .nilIface 0 false false 0 0 _ _ _ _ _ r w hG (fun W _ _ => see_Fault_nil W) h
  | some x =>
    obtain ⟨p, c⟩ := x
    simp only [pendulumsee_Same.f] at h
    by_cases hc : 101 ≤ c ∧ c ≤ 121
    · rw [if_pos hc] at h
      obtain ⟨ad, rfl, hcell⟩ := hE.2.2 (by simp [atl])
      refine see_Same _ c true false p 0 _ _ _ _ _ r w hG (fun W hW hGW => ?_) h
      obtain ⟨cs, h1, ⟨h2, _⟩, h3⟩ := hcell 0 _ rfl
      subst h2
      have e0 := pw_cell_below hW (h3 0 _ rfl)
      have e1 := pw_cell_below hW (h3 1 _ rfl)
      exact see_Fault_at p c ad W hGW hc.1 hc.2 ⟨by simpa using e0, by simpa using e1⟩
    · rw [if_neg hc] at h
      cases h

/-! ### wire_Err: function 16 -/
def wire_Err.f (f0 : List Int) (f1 : Int) (f2 : Option (Int × Int)) : Option (Option (Int × Int) × Int × Option (Int × Int)) := some (f2, f1, f2)
theorem wire_Err.calls [Sent] (g : Nat) (f0 : List Int) (f1 : Int) (f2 : Option (Int × Int)) (r : Option (Int × Int)) (r2 : Int) (r3 : Option (Int × Int)) (w0 w : World) (hI : IsS50 w0 w g f0 f1 f2) (hB : Below w0.heap.size w0 w) (h : wire_Err.f f0 f1 f2 = some (r, r2, r3)) :
    Calls Tryd.prog 16 #[.pointer (some ⟨g, 0, none⟩)] w fun e w' => ∃ A_ : Option Addr, e = .returned (errU r A_) ∧ Kd.C (Kd.raw 2) w' A_ (atl r).length (atl r) ∧ IsS50 w0 w' g f0 r2 r3 ∧ Below w0.heap.size w0 w' ∧ KeepBut w w' g none := by
  simp only [wire_Err.f, Option.some.injEq, Prod.mk.injEq] at h
  obtain ⟨rfl, rfl, rfl⟩ := h
  have HI := Aside0.mk hI
  have HB := Aside0.mk hB
  obtain ⟨v0, A2, hb, _, _, he, -⟩ := hI
  have HE := Aside0.mk he.reads
  have m1 := blk_cell hb 2
  simp at m1
  clear hb hB he
  go_enter Tryd.func16, Tryd.ntmps16
  go_wp2
  go_ret
  exact ⟨A2, rfl, HE.out, HI.out, HB.out, KeepBut.refl _ _ _⟩

/-! ### wire_At: function 18 -/
def wire_At.f (f0 : List Int) (f1 : Int) (f2 : Option (Int × Int)) : Option (Int × Int × Option (Int × Int)) := some (f1, f1, f2)
theorem wire_At.calls [Sent] (g : Nat) (f0 : List Int) (f1 : Int) (f2 : Option (Int × Int)) (r : Int) (r2 : Int) (r3 : Option (Int × Int)) (w0 w : World) (hI : IsS50 w0 w g f0 f1 f2) (hB : Below w0.heap.size w0 w) (h : wire_At.f f0 f1 f2 = some (r, r2, r3)) :
    Calls Tryd.prog 18 #[.pointer (some ⟨g, 0, none⟩)] w fun e w' => e = .returned (.int .i64 r) ∧ IsS50 w0 w' g f0 r2 r3 ∧ Below w0.heap.size w0 w' ∧ KeepBut w w' g none := by
  simp only [wire_At.f, Option.some.injEq, Prod.mk.injEq] at h
  obtain ⟨rfl, rfl, rfl⟩ := h
  have HI := Aside0.mk hI
  have HB := Aside0.mk hB
  obtain ⟨v0, A2, hb, -⟩ := hI
  have m1 := blk_cell hb 1
  simp at m1
  clear hb hB
  go_enter Tryd.func18, Tryd.ntmps18
  go_wp2
  go_ret
  exact ⟨rfl, HI.out, HB.out, KeepBut.refl _ _ _⟩

/-! ### pendulumworld_Number: function 19 -/
def pendulumworld_Number.f (a0 : Int) (a1 : Int) : Option (Int) := if a1 = 0 then (none) else (if (Int.tmod a0 a1) < 0 then (some (wrap64 ((Int.tmod a0 a1) + a1))) else (some (Int.tmod a0 a1)))
set_option maxHeartbeats 8000000 in
set_option maxRecDepth 100000 in
theorem pendulumworld_Number.calls [Sent] (a0 : Int) (a1 : Int) (r : Int) (w : World) (h : pendulumworld_Number.f a0 a1 = some r) :
    Calls Tryd.prog 19 #[.int .i64 a0, .int .i64 a1] w fun e w' => e = .returned (.int .i64 r) ∧ Drawn0 w w' := by
  have H : (if a1 = 0 then (none) else (if (Int.tmod a0 a1) < 0 then (some (wrap64 ((Int.tmod a0 a1) + a1))) else (some (Int.tmod a0 a1)))) = some r := h
  clear h
  by_cases c3 : a1 = 0
  · rw [if_pos c3] at H
    exact absurd H (by simp)
  · rw [if_neg c3] at H
    have c3b0 : (a1 == 0) = false := beq_eq_false_iff_ne.mpr c3
    have c3b1 : (a1 != 0) = true := bne_iff_ne.mpr c3
    by_cases c4 : (Int.tmod a0 a1) < 0
    · rw [if_pos c4] at H
      have c4b0 : decide ((Int.tmod a0 a1) < 0) = true := decide_eq_true c4
      clear c4
      obtain rfl := Option.some.inj H
      simp only [Option.some.injEq, Prod.mk.injEq] at H
      obtain ⟨rfl⟩ := H
      go_enter Tryd.func19, Tryd.ntmps19
      go_wp2
      go_ret
      exact ⟨by first | rfl | (simp; done) | (simp [*]; done), by repeat (first | exact Drawn0.refl _ | apply Drawn0.step)⟩
    · rw [if_neg c4] at H
      have c4b0 : decide ((Int.tmod a0 a1) < 0) = false := decide_eq_false c4
      clear c4
      obtain rfl := Option.some.inj H
      simp only [Option.some.injEq, Prod.mk.injEq] at H
      obtain ⟨rfl⟩ := H
      go_enter Tryd.func19, Tryd.ntmps19
      go_wp2
      go_ret
      exact ⟨by first | rfl | (simp; done) | (simp [*]; done), by repeat (first | exact Drawn0.refl _ | apply Drawn0.step)⟩

/-! ### wire_Left: function 20 -/
def wire_Left.f (f0 : List Int) (f1 : Int) (f2 : Option (Int × Int)) : Option (Int × Int × Option (Int × Int)) := some ((f0.length : Int) - f1, f1, f2)
theorem wire_Left.calls [Sent] (g : Nat) (f0 : List Int) (f1 : Int) (f2 : Option (Int × Int)) (r : Int) (r2 : Int) (r3 : Option (Int × Int)) (w0 w : World) (hI : IsS50 w0 w g f0 f1 f2) (hB : Below w0.heap.size w0 w) (h : wire_Left.f f0 f1 f2 = some (r, r2, r3)) :
    Calls Tryd.prog 20 #[.pointer (some ⟨g, 0, none⟩)] w fun e w' => e = .returned (.int .i64 r) ∧ IsS50 w0 w' g f0 r2 r3 ∧ Below w0.heap.size w0 w' ∧ KeepBut w w' g none := by
  simp only [wire_Left.f, Option.some.injEq, Prod.mk.injEq] at h
  obtain ⟨rfl, rfl, rfl⟩ := h
  have HI := Aside0.mk hI
  have HB := Aside0.mk hB
  have HP := Aside0.mk hI.pos
  obtain ⟨v0, A2, hb, _, hr, -⟩ := hI
  obtain ⟨A0, c0, rfl⟩ := Kd.R_slice hr
  have hlen : f0.length ≤ 9223372036854775807 := (Kd.R_reads' hr).2.2.2.1
  have HL := Aside0.mk hlen
  have m1 := blk_cell hb 1
  have m0 := blk_cell hb 0
  simp at m1 m0
  clear hb hB hr hlen
  go_enter Tryd.func20, Tryd.ntmps20
  go_wp2
  go_region
  all_goals go_wp2
  go_ret
  have h1 := HP.out
  have h2 := HL.out
  have e : wrap64 ((f0.length : Int) - f1) = (f0.length : Int) - f1 := by unfold wrap64; omega
  exact ⟨by rw [e]; rfl, HI.out.drew, below_drew HB.out, keep_drew (KeepBut.refl _ _ _)⟩

end Go.Proofs.YtpiafijccnbdbaaDoor.KTWireRows

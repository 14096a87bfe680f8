/- By a program of this session (kprint.py) over the printer: functions of the code as plain Lean functions, and the walks that say so. -/
import Derived.Test.YtpiafijccnbdbaaDoorKTWireTwinsx0
import Derived.Test.YtpiafijccnbdbaaDoorKTWireTwinsx1
namespace Go.Proofs.YtpiafijccnbdbaaDoor.KTWireTwins
open Go.RowKit Go.Proofs.YtpiafijccnbdbaaDoorW.PrintWords Go.Proofs.YtpiafijccnbdbaaDoorW.PrintLast Go.Proofs.YtpiafijccnbdbaaDoorW.PrintMore
attribute [local go_sem] max2_int min2_int max_two min_two max_three min_three max_four min_four   -- for this text's walks alone
set_option linter.unusedVariables false
set_option linter.unusedSimpArgs false

/-! ### wire_Num: function 14 -/
/-! bits -/
theorem wb_andNot (c : Int) (h0 : 0 ≤ c) (h1 : c < 256) : bits .andNot .u8 c 128 = c % 128 := by
  rw [u8_andNot c 128 h0 h1 (by omega) (by omega), show (255 - (128 : Int).toNat) = 2 ^ 7 - 1 by decide, Nat.and_two_pow_sub_one_eq_mod]
  omega
theorem wb_pow (i : Nat) : (2 : Int) ^ (7 * (i : Int)).toNat = 128 ^ i := by
  rw [show (7 * (i : Int)).toNat = 7 * i by omega, Int.pow_mul]
  rfl
theorem wb_top (c : Int) (i : Nat) (hi : i ≤ 9) (hc0 : 0 ≤ c) (hc : c < 128) (h9 : i = 9 → c ≤ 1) : c * 128 ^ i + 128 ^ i ≤ 18446744073709551616 := by
  have : i = 0 ∨ i = 1 ∨ i = 2 ∨ i = 3 ∨ i = 4 ∨ i = 5 ∨ i = 6 ∨ i = 7 ∨ i = 8 ∨ i = 9 := by omega
  rcases this with rfl | rfl | rfl | rfl | rfl | rfl | rfl | rfl | rfl | rfl
  all_goals simp only [show (128 : Int) ^ 0 = 1 from rfl, show (128 : Int) ^ 1 = 128 from rfl, show (128 : Int) ^ 2 = 16384 from rfl, show (128 : Int) ^ 3 = 2097152 from rfl, show (128 : Int) ^ 4 = 268435456 from rfl, show (128 : Int) ^ 5 = 34359738368 from rfl, show (128 : Int) ^ 6 = 4398046511104 from rfl, show (128 : Int) ^ 7 = 562949953421312 from rfl, show (128 : Int) ^ 8 = 72057594037927936 from rfl, show (128 : Int) ^ 9 = 9223372036854775808 from rfl]
  all_goals omega
theorem wb_or (z c : Int) (i : Nat) (hi : i ≤ 9) (hz0 : 0 ≤ z) (hz : z < 128 ^ i) (hc0 : 0 ≤ c) (hc : c < 128) (h9 : i = 9 → c ≤ 1) :
    IntKind.u64.wrap (c * 128 ^ i) = c * 128 ^ i ∧ bits .or .u64 z (c * 128 ^ i) = z + c * 128 ^ i ∧ z + c * 128 ^ i < 18446744073709551616 := by
  have ht := wb_top c i hi hc0 hc h9
  have hp : (0 : Int) < 128 ^ i := Int.pow_pos (by omega)
  have hn : 0 ≤ c * 128 ^ i := Int.mul_nonneg hc0 (by omega)
  refine ⟨by rw [IntKind.wrap_u64]; omega, ?_, by omega⟩
  rw [u64_or z _ hz0 (by omega) hn (by omega), Nat.or_comm]
  have e1 : (c * 128 ^ i).toNat = 2 ^ (7 * i) * c.toNat := by
    rw [Int.toNat_mul hc0 (by omega), Nat.mul_comm, Nat.pow_mul]
    rw [show (128 : Int) ^ i = ((128 ^ i : Nat) : Int) by simp, Int.toNat_natCast]
  have e2 : z.toNat < 2 ^ (7 * i) := by
    rw [Nat.pow_mul]
    have : ((z.toNat : Nat) : Int) < ((2 ^ 7) ^ i : Nat) := by
      rw [Int.toNat_of_nonneg hz0]
      simpa using hz
    exact_mod_cast this
  rw [e1, ← Nat.two_pow_add_eq_or_of_lt e2, ← e1]
  omega
theorem wb_unzig (z : Int) (h0 : 0 ≤ z) (h1 : z < 18446744073709551616) : bits .xor .i64 (wrap64 (z / 2)) (wrap64 (-(wrap64 (bits .and .u64 z 1)))) = unzig z := by
  rw [Lib.u64_and1 z h0 h1]
  have e1 : wrap64 (z / 2) = z / 2 := by unfold wrap64; omega
  rw [e1]
  unfold unzig
  by_cases h : z % 2 = 0
  · rw [if_pos h, h]
    obtain ⟨x, hx⟩ := Int.eq_ofNat_of_zero_le (show 0 ≤ z / 2 by omega)
    rw [hx, show wrap64 (-wrap64 0) = 0 by unfold wrap64; rfl]
    have hb : (BitVec.ofInt 64 (x : Int)).toNat = x := by
      rw [BitVec.toNat_ofInt]
      omega
    show IntKind.i64.wrap ((BitVec.ofInt 64 (x : Int) ^^^ BitVec.ofInt 64 0).toNat : Int) = _
    rw [show BitVec.ofInt 64 0 = 0#64 by decide, BitVec.xor_zero, hb, IntKind.wrap_i64]
    omega
  · rw [if_neg h, show z % 2 = 1 by omega]
    obtain ⟨x, hx⟩ := Int.eq_ofNat_of_zero_le (show 0 ≤ z / 2 by omega)
    rw [hx, show wrap64 (-wrap64 1) = -1 by unfold wrap64; rfl]
    have hc : bits .xor .i64 (x : Int) (-1) = bits .xor .i64 (-1) (x : Int) := by
      show IntKind.i64.wrap ((BitVec.ofInt 64 (x : Int) ^^^ BitVec.ofInt 64 (-1)).toNat : Int) = IntKind.i64.wrap ((BitVec.ofInt 64 (-1) ^^^ BitVec.ofInt 64 (x : Int)).toNat : Int)
      rw [BitVec.xor_comm]
    rw [hc, Lib.i64_not x (by omega)]
set_option maxRecDepth 100000 in
set_option maxHeartbeats 1000000 in
theorem wire_fail [Sent] (g : Nat) (f0 : List Int) (f1 : Int) (f2 : Option (Int × Int)) (c : Int) (w0 w : World) (hI : IsS50 w0 w g f0 f1 f2) (hB : Below w0.heap.size w0 w) :
    Calls Tryd.prog 29 #[.pointer (some ⟨g, 0, none⟩), sentV c] w fun e w' => e = .returned (.tuple #[]) ∧ IsS50 w0 w' g f0 f1 (some (f1, c)) ∧ Below w0.heap.size w0 w' ∧ KeepBut w w' g none := by
  have HI := Aside0.mk hI
  have HB := Aside0.mk hB
  obtain ⟨v0, A2, hb, hg, hr, he, hp⟩ := hI
  have HBK := Aside0.mk hb
  have m1 := blk_cell hb 1
  have m2' := Lib.cell?_alloc_some (o := .cells #[.int .i64 f1, sentV c] 61) (blk_cell hb 2)
  have m3 : (w.alloc (.cells #[.int .i64 f1, sentV c] 61)).frozen? ⟨g, 2, none⟩ = false := blk_frozen (blk_alloc hb _) 2
  simp [sentV] at m1 m2' m3
  have HG := Aside0.mk hg
  have HR := Aside0.mk hr
  have HP := Aside0.mk hp
  have hu := Tryd.underlying61
  clear hb hB hr he hg hp
  unfold sentV
  go_enter Tryd.func29, Tryd.ntmps29
  go_wp2
  go_end0
  have hA : (w.alloc (.cells #[.int .i64 f1, sentV c] 61)).heap[g]? = some (.cells #[v0, .int .i64 f1, errU f2 A2] 50 (0, 0)) := blk_alloc HBK.out _
  have hlt := blk_lt HBK.out
  refine ⟨rfl, ⟨v0, some ⟨w.heap.size, 0, none⟩, blk_set hA 2 (.iface 59 (.pointer (some ⟨w.heap.size, 0, none⟩))), HG.out, ?_, ?_, HP.out⟩, ?_, ?_⟩
  · exact Kd.R_far (Kd.R_alloc HR.out _) (fun k hk e => Kd.R_ne HR.out HBK.out (by decide) (by subst e; exact hk)) _
  · intro p c' e
    simp only [Option.some.injEq, Prod.mk.injEq] at e
    obtain ⟨rfl, rfl⟩ := e
    refine ⟨w.heap.size, rfl, HB.out.size, ?_⟩
    exact blk_far (heap_alloc_new w _) (Nat.ne_of_gt hlt) _
  · exact below_set (below_alloc HB.out _) HG.out
  · refine ⟨by simp, fun k hk hne _ => ?_⟩
    rw [Below.heap_setCell _ _ _ _ hne]
    exact (below_alloc (Below.refl w.heap.size w) _).block k hk
theorem wire_step {α : Type} (i : Nat) (c : Int) (A B C s : α) (hi : i ≤ 9) (hc : 0 ≤ c ∧ c < 256) (h9 : ¬(i = 9 ∧ 1 < c)) (hs : (if 128 ≤ c then A else if c = 0 ∧ 0 < i then B else C) = s) :
    ((((i : Int) == 9) = true ∧ decide (1 < c) = false) ∨ ((i : Int) == 9) = false) ∧ ((decide (128 ≤ c) = true ∧ i < 9 ∧ A = s) ∨ (decide (128 ≤ c) = false ∧ (c == 0) = true ∧ decide (0 < (i : Int)) = true ∧ B = s) ∨ (decide (128 ≤ c) = false ∧ (c == 0) = true ∧ decide (0 < (i : Int)) = false ∧ C = s) ∨ (decide (128 ≤ c) = false ∧ (c == 0) = false ∧ C = s)) := by
  constructor
  · by_cases e : i = 9
    · refine .inl ⟨by simp; omega, decide_eq_false (fun h => h9 ⟨e, h⟩)⟩
    · exact .inr (by simp; omega)
  · by_cases h1 : 128 ≤ c
    · rw [if_pos h1] at hs
      exact .inl ⟨decide_eq_true h1, by by_cases e : i = 9; exact absurd ⟨e, by omega⟩ h9; omega, hs⟩
    · rw [if_neg h1] at hs
      by_cases h2 : c = 0 ∧ 0 < i
      · rw [if_pos h2] at hs
        exact .inr (.inl ⟨decide_eq_false h1, by simp [h2.1], decide_eq_true (by have := h2.2; omega), hs⟩)
      · rw [if_neg h2] at hs
        by_cases h3 : c = 0
        · exact .inr (.inr (.inl ⟨decide_eq_false h1, by simp [h3], decide_eq_false (fun h => h2 ⟨h3, by omega⟩), hs⟩))
        · exact .inr (.inr (.inr ⟨decide_eq_false h1, by simp [h3], hs⟩))
set_option maxRecDepth 100000 in
set_option maxHeartbeats 2000000 in
theorem wire_number [Sent] (g : Nat) (f0 : List Int) (f1 : Int) (f2 : Option (Int × Int)) (w0 w : World) (hI : IsS50 w0 w g f0 f1 f2) (hG : GlobW w) :
    Calls Tryd.prog 28 #[.pointer (some ⟨g, 0, none⟩)] w fun e w' => e = .returned (.tuple #[.int .i64 (scan (f0.drop f1.toNat) 0 0).2.1, .int .i64 (scan (f0.drop f1.toNat) 0 0).2.2, errW (if (scan (f0.drop f1.toNat) 0 0).1 = 0 then none else some (scan (f0.drop f1.toNat) 0 0).1)]) ∧ ∃ n, w' = w.drewN n := by
  have HP := Aside0.mk hI.pos
  have HG := Aside0.mk hG
  obtain ⟨s, hs⟩ : ∃ s, scan (f0.drop f1.toNat) 0 0 = s := ⟨_, rfl⟩
  rw [hs]
  obtain ⟨u, hu⟩ : ∃ u, errW (if s.1 = 0 then none else some s.1) = u := ⟨_, rfl⟩
  rw [hu]
  have HU := Aside0.mk hu
  clear hu
  have HS := Aside0.mk hs
  obtain ⟨v0, A2, hb, _, hr, -⟩ := hI
  obtain ⟨A0, c0, rfl⟩ := Kd.R_slice hr
  have HC := Aside0.mk (Kd.R_reads' hr).2.2
  have HL := Aside0.mk (show f0.length ≤ 9223372036854775807 from (Kd.R_reads' hr).2.2.2.1)
  have HBK := Aside0.mk hb
  clear hb hr hs hG
  go_enter Tryd.func28, Tryd.ntmps28
  go_wp2
  go_loopg [5, 6] (f0.length + 1) (fun kq v5 v6 w' => ∃ (i : Nat) (z : Int) (n : Nat), v5 = .int .u64 z ∧ v6 = .int .i64 (i : Int) ∧ w' = w.drewN n ∧ Aside0 (i ≤ 9 ∧ 0 ≤ z ∧ z < 128 ^ i ∧ f1.toNat + i ≤ f0.length ∧ f0.length + 1 ≤ kq + (f1.toNat + i) ∧ scan (f0.drop (f1.toNat + i)) i z = s))
  case atStart => exact ⟨0, 0, 0, rfl, rfl, rfl, ⟨by have := HP.out; omega, by omega, by simp, by have := HP.out; omega, by omega, by simpa using HS.out⟩⟩
  case round =>
    obtain ⟨i, z, n, rfl, rfl, rfl, HA⟩ := hrel
    have hb := blk_drewN HBK.out n
    have m0 := blk_cell hb 0
    have m1 := blk_cell hb 1
    simp at m0 m1
    clear hb
    have ha : wrap64 (f1 + (i : Int)) = f1 + i := by have := HA.out; have := HP.out; have := HL.out; unfold wrap64; omega
    by_cases hend : (f0.length : Int) ≤ f1 + i
    · have d1 : decide ((f0.length : Int) ≤ f1 + i) = true := decide_eq_true hend
      have hgl := (HG.out.1 (101, 1) (by decide)).1
      have HE := Aside0.mk hend
      clear hend
      go_wp2
      go_region
      all_goals go_wp2
      all_goals go_region
      all_goals go_wp2
      all_goals go_ret3
      all_goals (have hs := HA.out.2.2.2.2.2; rw [List.drop_eq_nil_of_le (by have := HE.out; have := HP.out; omega)] at hs; exact ⟨by rw [← HU.out, ← hs]; rfl, _, rfl⟩)
    · have d1 : decide ((f0.length : Int) ≤ f1 + i) = false := decide_eq_false hend
      have p1 : 0 ≤ f1 + (i : Int) := by have := HP.out; omega
      have q1 : f1 + (i : Int) < (f0.length : Int) := by omega
      obtain ⟨ad, e1, hx⟩ := Kd.at_int HC.out (f1 + i) p1 q1
      cases e1
      obtain ⟨c, hc⟩ : ∃ c, rd f0 (f1 + i) = c := ⟨_, rfl⟩
      rw [hc] at hx
      have HCC := Aside0.mk hc
      have HE := Aside0.mk hend
      clear hend hc
      replace p1 := eq_true p1
      replace q1 := eq_true q1
      have hcb : 0 ≤ c ∧ c < 256 := by
        rw [← HCC.out]
        refine HP.out.2.2 _ ?_
        have hlt : (f1 + (i : Int)).toNat < f0.length := by have := HE.out; have := HP.out; omega
        unfold rd
        rw [List.getD_eq_getElem?_getD, List.getElem?_eq_getElem hlt]
        exact List.getElem_mem _
      have hdrop : f0.drop (f1.toNat + i) = c :: f0.drop (f1.toNat + (i + 1)) := by
        have hlt : f1.toNat + i < f0.length := by have := HE.out; have := HP.out; omega
        rw [List.drop_eq_getElem_cons hlt, ← HCC.out]
        unfold rd
        rw [show (f1 + (i : Int)).toNat = f1.toNat + i by have := HP.out; omega, List.getD_eq_getElem?_getD, List.getElem?_eq_getElem hlt]
        rfl
      have hs := HA.out.2.2.2.2.2
      rw [hdrop, scan] at hs
      have HS2 := Aside0.mk hs
      have HCB := Aside0.mk hcb
      clear hs hdrop hcb
      by_cases h9 : i = 9 ∧ 1 < c
      · have b9 : ((i : Int) == 9) = true := by simp; omega
        have b1 : decide (1 < c) = true := decide_eq_true h9.2
        have hgl := (HG.out.1 (102, 2) (by decide)).1
        have H9 := Aside0.mk h9
        clear h9
        go_wp2
        go_region
        all_goals go_wp2
        all_goals go_region
        all_goals go_wp2
        all_goals go_region
        all_goals go_wp2
        all_goals go_ret3
        all_goals (have hs := HS2.out; rw [if_pos H9.out] at hs; exact ⟨by rw [← HU.out, ← hs]; rfl, _, rfl⟩)
      · have HX := Aside0.mk (wb_or z (c % 128) i HA.out.1 HA.out.2.1 HA.out.2.2.1 (by omega) (by omega) (by have := HCB.out; omega))
        have HF := Aside0.mk (show bits .andNot .u8 c 128 = c % 128 ∧ IntKind.u64.wrap (c % 128) = c % 128 ∧ wrap64 (7 * (i : Int)) = 7 * i ∧ (0 ≤ 7 * (i : Int)) = True ∧ (7 * (i : Int) ≤ 64) = True ∧ wrap64 ((i : Int) + 1) = (i : Int) + 1 from by
          have hi := HA.out.1
          have hc := HCB.out
          clear HX HA
          refine ⟨wb_andNot c hc.1 hc.2, by rw [IntKind.wrap_u64]; omega, by unfold wrap64; omega, eq_true (by omega), eq_true (by omega), by unfold wrap64; omega⟩)
        have H9 := Aside0.mk h9
        clear h9
        obtain ⟨z', hz'⟩ : ∃ z', z + c % 128 * 128 ^ i = z' := ⟨_, rfl⟩
        have HZ := Aside0.mk hz'
        clear hz'
        have HZ' := Aside0.mk (show 0 ≤ z' ∧ z' < 18446744073709551616 from ⟨by rw [← HZ.out]; exact Int.add_nonneg HA.out.2.1 (Int.mul_nonneg (Int.emod_nonneg _ (by decide)) (Int.le_of_lt (Int.pow_pos (by decide)))), by rw [← HZ.out]; exact HX.out.2.2⟩)
        have HZ2 := Aside0.mk (show z' < 128 ^ (i + 1) from by
          rw [← HZ.out, Int.pow_succ, Int.mul_comm (128 ^ i) 128]
          have h1 := HA.out.2.2.1
          have h2 : c % 128 * 128 ^ i ≤ 127 * 128 ^ i := Int.mul_le_mul_of_nonneg_right (by omega) (Int.le_of_lt (Int.pow_pos (by decide)))
          have e : (128 : Int) * 128 ^ i = 127 * 128 ^ i + 128 ^ i := by rw [show (128 : Int) = 127 + 1 by decide, Int.add_mul]; simp
          rw [e]
          exact Int.lt_of_lt_of_le (Int.add_lt_add_right h1 _) (by rw [Int.add_comm]; exact Int.add_le_add_right h2 _))
        have hs := HS2.out
        rw [if_neg H9.out, HZ.out] at hs
        have hk := wire_step i c _ _ _ s HA.out.1 HCB.out H9.out hs
        clear hs
        have HXZ := Aside0.mk (wb_unzig z' HZ'.out.1 HZ'.out.2)
        obtain ⟨k9, k0⟩ := hk
        have hb4 := HX.out.2.1
        rw [HZ.out] at hb4
        have hb3 := HX.out.1
        have hp7 := wb_pow i
        obtain ⟨hb1, hb2, hw7, h70, h71, hwi⟩ := HF.out
        have HWI := Aside0.mk hwi
        clear hwi
        rcases k0 with ⟨d2, hi9, hs⟩ | ⟨d2, d3, d4, hs⟩ | ⟨d2, d3, d4, hs⟩ | ⟨d2, d3, hs⟩
        · have HS3 := Aside0.mk hs
          have HI9 := Aside0.mk hi9
          clear hs hi9
          rcases k9 with ⟨b9, b1⟩ | b9
          all_goals go_wp2
          all_goals go_region
          all_goals go_wp2
          all_goals go_region
          all_goals go_wp2
          all_goals go_roundg (gk - 1)
          case rel => exact ⟨i + 1, z', n + 1 + 1, rfl, by rw [HWI.out]; rfl, rfl, ⟨HI9.out, HZ'.out.1, HZ2.out, by have h1 := HE.out; have h2 := HP.out; clear HA; omega, by have h1 := HA.out.2.2.2.2.1; clear HA; omega, HS3.out⟩⟩
          case measure => have h0 := HA.out.2.2.2.2.1; have h1 := HE.out; have h2 := HP.out; clear HA; omega
          case rel => exact ⟨i + 1, z', n + 1 + 1, rfl, by rw [HWI.out]; rfl, rfl, ⟨HI9.out, HZ'.out.1, HZ2.out, by have h1 := HE.out; have h2 := HP.out; clear HA; omega, by have h1 := HA.out.2.2.2.2.1; clear HA; omega, HS3.out⟩⟩
          case measure => have h0 := HA.out.2.2.2.2.1; have h1 := HE.out; have h2 := HP.out; clear HA; omega
        · have d5 := eq_true (of_decide_eq_true d4)
          have d6 : (0 < i) = True := eq_true (Int.natCast_pos.1 (of_decide_eq_true d4))
          have hgl := (HG.out.1 (102, 2) (by decide)).1
          have HS3 := Aside0.mk hs
          clear hs
          rcases k9 with ⟨b9, b1⟩ | b9
          all_goals go_wp2
          all_goals go_region
          all_goals go_wp2
          all_goals go_region
          all_goals go_wp2
          all_goals go_region
          all_goals go_wp2
          all_goals go_ret3
          all_goals exact ⟨by rw [← HU.out, ← HS3.out]; first | rfl | (show Ending.returned (Value.tuple #[_, Value.int IntKind.i64 (wrap64 _), _]) = _; rw [HWI.out]; rfl), _, rfl⟩
        · have d5 := eq_false (of_decide_eq_false d4)
          have d6 : (0 < i) = False := eq_false (fun h => of_decide_eq_false d4 (Int.natCast_pos.2 h))
          have hxz := HXZ.out
          have HS3 := Aside0.mk hs
          clear hs
          rcases k9 with ⟨b9, b1⟩ | b9
          all_goals go_wp2
          all_goals go_region
          all_goals go_wp2
          all_goals go_region
          all_goals go_wp2
          all_goals go_ret3
          all_goals exact ⟨by rw [← HU.out, ← HS3.out]; first | rfl | (show Ending.returned (Value.tuple #[_, Value.int IntKind.i64 (wrap64 _), _]) = _; rw [HWI.out]; rfl), _, rfl⟩
        · have hxz := HXZ.out
          have HS3 := Aside0.mk hs
          clear hs
          rcases k9 with ⟨b9, b1⟩ | b9
          all_goals go_wp2
          all_goals go_region
          all_goals go_wp2
          all_goals go_region
          all_goals go_wp2
          all_goals go_ret3
          all_goals exact ⟨by rw [← HU.out, ← HS3.out]; first | rfl | (show Ending.returned (Value.tuple #[_, Value.int IntKind.i64 (wrap64 _), _]) = _; rw [HWI.out]; rfl), _, rfl⟩
theorem scan_pos : ∀ (l : List Int) (i : Nat) (z : Int), (scan l i z).1 = 0 → (i : Int) < (scan l i z).2.2 ∧ (scan l i z).2.2 ≤ (i : Int) + l.length
  | [], i, z => by simp [scan]
  | c :: l, i, z => by
    rw [scan]
    have ih := scan_pos l (i + 1) (z + c % 128 * 128 ^ i)
    split
    · simp
    · split
      · intro h
        have := ih h
        simp only [List.length_cons] at *
        omega
      · split
        · simp
        · intro _
          simp only [List.length_cons]
          omega
def wire_Num.f (f0 : List Int) (f1 : Int) (f2 : Option (Int × Int)) (a1 a2 : Int) : Option (Int × Int × Option (Int × Int)) :=
  some (if f2.isSome = true then (0, f1, f2) else
    if (scan (f0.drop f1.toNat) 0 0).1 ≠ 0 then (0, f1, some (f1, (scan (f0.drop f1.toNat) 0 0).1)) else
    if (scan (f0.drop f1.toNat) 0 0).2.1 < a1 ∨ a2 < (scan (f0.drop f1.toNat) 0 0).2.1 then (0, f1, some (f1, 104)) else
    ((scan (f0.drop f1.toNat) 0 0).2.1, f1 + (scan (f0.drop f1.toNat) 0 0).2.2, none))
set_option maxRecDepth 100000 in
set_option maxHeartbeats 2000000 in
theorem wire_Num.calls [Sent] (g : Nat) (f0 : List Int) (f1 : Int) (f2 : Option (Int × Int)) (a1 : Int) (a2 : Int) (r : Int) (r2 : Int) (r3 : Option (Int × Int)) (w0 w : World) (hI : IsS50 w0 w g f0 f1 f2) (hB : Below w0.heap.size w0 w) (hG : GlobW w) (h : wire_Num.f f0 f1 f2 a1 a2 = some (r, r2, r3)) :
    Calls Tryd.prog 14 #[.pointer (some ⟨g, 0, none⟩), .int .i64 a1, .int .i64 a2] w fun e w' => e = .returned (.int .i64 r) ∧ IsS50 w0 w' g f0 r2 r3 ∧ Below w0.heap.size w0 w' ∧ KeepBut w w' g none := by
  obtain ⟨s, hs⟩ : ∃ s, scan (f0.drop f1.toNat) 0 0 = s := ⟨_, rfl⟩
  unfold wire_Num.f at h
  rw [hs] at h
  have HI := Aside0.mk hI
  have HB := Aside0.mk hB
  have HG := Aside0.mk hG
  have HS := Aside0.mk hs
  obtain ⟨v0, A2, hb, hg, hr, he, hp⟩ := hI
  have HL := Aside0.mk (show f0.length ≤ 9223372036854775807 from by obtain ⟨A0, c0, rfl⟩ := Kd.R_slice hr; exact (Kd.R_reads' hr).2.2.2.1)
  have m2 := blk_cell hb 2
  simp at m2
  cases f2 with
  | some x =>
    simp only [Option.isSome_some, if_true, Option.some.injEq, Prod.mk.injEq] at h
    obtain ⟨rfl, rfl, rfl⟩ := h
    simp only [errU] at m2
    clear hb hB hr he hg hp hs hG
    go_enter Tryd.func14, Tryd.ntmps14
    go_wp2
    go_ret
    exact ⟨rfl, HI.out, HB.out, KeepBut.refl _ _ _⟩
  | none =>
    simp only [Option.isSome_none, Bool.false_eq_true, if_false, Option.some.injEq] at h
    simp only [errU] at m2
    have HBK := Aside0.mk hb
    have HP := Aside0.mk hp
    have HN := Aside0.mk (show ∃ u, errW (if s.1 = 0 then none else some s.1) = u from ⟨_, rfl⟩)
    have hnum := wire_number g f0 f1 none w0 w HI.out HG.out
    rw [hs] at hnum
    have HNUM := Aside0.mk hnum
    have HR := Aside0.mk hr
    have HE := Aside0.mk he
    have HG0 := Aside0.mk hg
    clear hb hB hr he hg hp hs hG hnum
    by_cases h1 : s.1 = 0
    · rw [if_pos h1, errW_none] at HNUM
      rw [if_neg (by simp [h1])] at h
      by_cases h2 : s.2.1 < a1 ∨ a2 < s.2.1
      · rw [if_pos h2] at h
        simp only [Prod.mk.injEq] at h
        obtain ⟨rfl, rfl, rfl⟩ := h
        have hgl := (HG.out.1 (104, 0) (by decide)).1
        have H1 := Aside0.mk h1
        clear h1
        rcases (show decide (s.2.1 < a1) = true ∨ (decide (s.2.1 < a1) = false ∧ decide (a2 < s.2.1) = true) from by
          by_cases h3 : s.2.1 < a1
          · exact .inl (decide_eq_true h3)
          · exact .inr ⟨decide_eq_false h3, decide_eq_true (h2.resolve_left h3)⟩) with d1 | ⟨d1, d2⟩
        all_goals clear h2
        all_goals go_enter Tryd.func14, Tryd.ntmps14
        all_goals go_wp2_with (first | (go_at_call 28; refine HNUM.out.mono ?_; rintro e w1 ⟨rfl, n, rfl⟩) | (go_at_call 29; refine (wire_fail g f0 f1 none 104 w0 _ (HI.out.drewN n) (pw_below_drewN HB.out n)).mono ?_; rintro e w2 ⟨rfl, hi, hb, hk⟩; have HI2 := Aside0.mk hi; have HB2 := Aside0.mk hb; have HK2 := Aside0.mk hk; clear hi hb hk))
        all_goals go_ret
        all_goals exact ⟨rfl, HI2.out, HB2.out, HK2.out⟩
      · rw [if_neg h2] at h
        simp only [Prod.mk.injEq] at h
        obtain ⟨rfl, rfl, rfl⟩ := h
        have d1 : decide (s.2.1 < a1) = false := decide_eq_false (fun h => h2 (.inl h))
        have d2 : decide (a2 < s.2.1) = false := decide_eq_false (fun h => h2 (.inr h))
        have HK := Aside0.mk (show 0 < s.2.2 ∧ f1 + s.2.2 ≤ f0.length from by
          have h3 := scan_pos (f0.drop f1.toNat) 0 0
          rw [HS.out] at h3
          have h4 := h3 h1
          rw [List.length_drop] at h4
          have := HP.out.1
          have := HP.out.2.1
          omega)
        have hw : wrap64 (f1 + s.2.2) = f1 + s.2.2 := by
          have h3 := HK.out
          have h4 := HP.out.1
          have h5 := HL.out
          unfold wrap64
          omega
        have m1 := blk_cell HBK.out 1
        have m3 := blk_frozen HBK.out 1
        simp at m1
        clear h1 h2
        go_enter Tryd.func14, Tryd.ntmps14
        go_wp2_with (go_at_call 28; refine HNUM.out.mono ?_; rintro e w1 ⟨rfl, n, rfl⟩)
        go_ret
        rw [hw]
        refine ⟨rfl, ⟨v0, A2, blk_set (blk_drewN HBK.out n) 1 (.int .i64 (f1 + s.2.2)), HG0.out, ?_, ?_, by have := HP.out.1; have := HK.out; omega, HK.out.2, HP.out.2.2⟩, below_set (pw_below_drewN HB.out n) HG0.out, KeepBut.set_ (keep_drewN (KeepBut.refl _ _ _) n) 1 _⟩
        · exact Kd.R_far (Kd.R_drewN HR.out n) (fun k hk e => Kd.R_ne HR.out HBK.out (by decide) (by subst e; exact hk)) _
        · intro p c e
          cases e
    · rw [if_neg h1, errW_some] at HNUM
      rw [if_pos h1] at h
      simp only [Prod.mk.injEq] at h
      obtain ⟨rfl, rfl, rfl⟩ := h
      clear h1
      go_enter Tryd.func14, Tryd.ntmps14
      go_wp2_with (first | (go_at_call 28; refine HNUM.out.mono ?_; rintro e w1 ⟨rfl, n, rfl⟩) | (go_at_call 29; refine (wire_fail g f0 f1 none s.1 w0 _ (HI.out.drewN n) (pw_below_drewN HB.out n)).mono ?_; rintro e w2 ⟨rfl, hi, hb, hk⟩; have HI2 := Aside0.mk hi; have HB2 := Aside0.mk hb; have HK2 := Aside0.mk hk; clear hi hb hk))
      go_ret
      exact ⟨rfl, HI2.out, HB2.out, HK2.out⟩

/-! ### wire_Err: function 16 -/
def wire_Err.f (f0 : List Int) (f1 : Int) (f2 : Option (Int × Int)) : Option (Option (Int × Int) × Int × Option (Int × Int)) := some (f2, f1, f2)
theorem wire_Err.calls [Sent] (g : Nat) (f0 : List Int) (f1 : Int) (f2 : Option (Int × Int)) (r : Option (Int × Int)) (r2 : Int) (r3 : Option (Int × Int)) (w0 w : World) (hI : IsS50 w0 w g f0 f1 f2) (hB : Below w0.heap.size w0 w) (h : wire_Err.f f0 f1 f2 = some (r, r2, r3)) :
    Calls Tryd.prog 16 #[.pointer (some ⟨g, 0, none⟩)] w fun e w' => ∃ A_ : Option Addr, e = .returned (errU r A_) ∧ Kd.C (Kd.raw 2) w' A_ (atl r).length (atl r) ∧ IsS50 w0 w' g f0 r2 r3 ∧ Below w0.heap.size w0 w' ∧ KeepBut w w' g none := by
  simp only [wire_Err.f, Option.some.injEq, Prod.mk.injEq] at h
  obtain ⟨rfl, rfl, rfl⟩ := h
  have HI := Aside0.mk hI
  have HB := Aside0.mk hB
  obtain ⟨v0, A2, hb, _, _, he, -⟩ := hI
  have HE := Aside0.mk he.reads
  have m1 := blk_cell hb 2
  simp at m1
  clear hb hB he
  go_enter Tryd.func16, Tryd.ntmps16
  go_wp2
  go_ret
  exact ⟨A2, rfl, HE.out, HI.out, HB.out, KeepBut.refl _ _ _⟩

/-! ### wire_At: function 18 -/
def wire_At.f (f0 : List Int) (f1 : Int) (f2 : Option (Int × Int)) : Option (Int × Int × Option (Int × Int)) := some (f1, f1, f2)
theorem wire_At.calls [Sent] (g : Nat) (f0 : List Int) (f1 : Int) (f2 : Option (Int × Int)) (r : Int) (r2 : Int) (r3 : Option (Int × Int)) (w0 w : World) (hI : IsS50 w0 w g f0 f1 f2) (hB : Below w0.heap.size w0 w) (h : wire_At.f f0 f1 f2 = some (r, r2, r3)) :
    Calls Tryd.prog 18 #[.pointer (some ⟨g, 0, none⟩)] w fun e w' => e = .returned (.int .i64 r) ∧ IsS50 w0 w' g f0 r2 r3 ∧ Below w0.heap.size w0 w' ∧ KeepBut w w' g none := by
  simp only [wire_At.f, Option.some.injEq, Prod.mk.injEq] at h
  obtain ⟨rfl, rfl, rfl⟩ := h
  have HI := Aside0.mk hI
  have HB := Aside0.mk hB
  obtain ⟨v0, A2, hb, -⟩ := hI
  have m1 := blk_cell hb 1
  simp at m1
  clear hb hB
  go_enter Tryd.func18, Tryd.ntmps18
  go_wp2
  go_ret
  exact ⟨rfl, HI.out, HB.out, KeepBut.refl _ _ _⟩

/-! ### pendulumworld_Number: function 19 -/
def pendulumworld_Number.f (a0 : Int) (a1 : Int) : Option (Int) := if a1 = 0 then (none) else (if (Int.tmod a0 a1) < 0 then (some (wrap64 ((Int.tmod a0 a1) + a1))) else (some (Int.tmod a0 a1)))
set_option maxHeartbeats 8000000 in
set_option maxRecDepth 100000 in
theorem pendulumworld_Number.calls [Sent] (a0 : Int) (a1 : Int) (r : Int) (w : World) (h : pendulumworld_Number.f a0 a1 = some r) :
    Calls Tryd.prog 19 #[.int .i64 a0, .int .i64 a1] w fun e w' => e = .returned (.int .i64 r) ∧ Drawn0 w w' := by
  have H : (if a1 = 0 then (none) else (if (Int.tmod a0 a1) < 0 then (some (wrap64 ((Int.tmod a0 a1) + a1))) else (some (Int.tmod a0 a1)))) = some r := h
  clear h
  by_cases c3 : a1 = 0
  · rw [if_pos c3] at H
    exact absurd H (by simp)
  · rw [if_neg c3] at H
    have c3b0 : (a1 == 0) = false := beq_eq_false_iff_ne.mpr c3
    have c3b1 : (a1 != 0) = true := bne_iff_ne.mpr c3
    by_cases c4 : (Int.tmod a0 a1) < 0
    · rw [if_pos c4] at H
      have c4b0 : decide ((Int.tmod a0 a1) < 0) = true := decide_eq_true c4
      clear c4
      obtain rfl := Option.some.inj H
      simp only [Option.some.injEq, Prod.mk.injEq] at H
      obtain ⟨rfl⟩ := H
      go_enter Tryd.func19, Tryd.ntmps19
      go_wp2
      go_ret
      exact ⟨by first | rfl | (simp; done) | (simp [*]; done), by repeat (first | exact Drawn0.refl _ | apply Drawn0.step)⟩
    · rw [if_neg c4] at H
      have c4b0 : decide ((Int.tmod a0 a1) < 0) = false := decide_eq_false c4
      clear c4
      obtain rfl := Option.some.inj H
      simp only [Option.some.injEq, Prod.mk.injEq] at H
      obtain ⟨rfl⟩ := H
      go_enter Tryd.func19, Tryd.ntmps19
      go_wp2
      go_ret
      exact ⟨by first | rfl | (simp; done) | (simp [*]; done), by repeat (first | exact Drawn0.refl _ | apply Drawn0.step)⟩

/-! ### wire_Left: function 20 -/
def wire_Left.f (f0 : List Int) (f1 : Int) (f2 : Option (Int × Int)) : Option (Int × Int × Option (Int × Int)) := some ((f0.length : Int) - f1, f1, f2)
theorem wire_Left.calls [Sent] (g : Nat) (f0 : List Int) (f1 : Int) (f2 : Option (Int × Int)) (r : Int) (r2 : Int) (r3 : Option (Int × Int)) (w0 w : World) (hI : IsS50 w0 w g f0 f1 f2) (hB : Below w0.heap.size w0 w) (h : wire_Left.f f0 f1 f2 = some (r, r2, r3)) :
    Calls Tryd.prog 20 #[.pointer (some ⟨g, 0, none⟩)] w fun e w' => e = .returned (.int .i64 r) ∧ IsS50 w0 w' g f0 r2 r3 ∧ Below w0.heap.size w0 w' ∧ KeepBut w w' g none := by
  simp only [wire_Left.f, Option.some.injEq, Prod.mk.injEq] at h
  obtain ⟨rfl, rfl, rfl⟩ := h
  have HI := Aside0.mk hI
  have HB := Aside0.mk hB
  have HP := Aside0.mk hI.pos
  obtain ⟨v0, A2, hb, _, hr, -⟩ := hI
  obtain ⟨A0, c0, rfl⟩ := Kd.R_slice hr
  have hlen : f0.length ≤ 9223372036854775807 := (Kd.R_reads' hr).2.2.2.1
  have HL := Aside0.mk hlen
  have m1 := blk_cell hb 1
  have m0 := blk_cell hb 0
  simp at m1 m0
  clear hb hB hr hlen
  go_enter Tryd.func20, Tryd.ntmps20
  go_wp2
  go_region
  all_goals go_wp2
  go_ret
  have h1 := HP.out
  have h2 := HL.out
  have e : wrap64 ((f0.length : Int) - f1) = (f0.length : Int) - f1 := by unfold wrap64; omega
  exact ⟨by rw [e]; rfl, HI.out.drew, below_drew HB.out, keep_drew (KeepBut.refl _ _ _)⟩

end Go.Proofs.YtpiafijccnbdbaaDoor.KTWireTwins

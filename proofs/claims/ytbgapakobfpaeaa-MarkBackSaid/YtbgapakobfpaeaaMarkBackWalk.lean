/- The walk of MarkBack: with what the functions answer told, it returns true and leaves what was there as it was. -/
import Derived.Test.YtbgapakobfpaeaaMarkA
namespace Go.Proofs.Ytbgapakobfpaeaa.MarkBackWalk
open Go.RowKit Go.Proofs.Ytbgapakobfpaeaa.KMark Go.Proofs.YtbgapakobfpaeaaW.PrintWords Go.Proofs.YtbgapakobfpaeaaW.PrintLast Go.Proofs.YtbgapakobfpaeaaW.PrintMore Go.Proofs.Ytbgapakobfpaeaa.MarkA

set_option maxHeartbeats 1000000 in
set_option maxRecDepth 100000 in
set_option linter.unusedVariables false in
theorem walk (m n a by_ : Int) (s t : ByteArray) (w : World) (hm : mark_Text.f 100 m = some s) (hn : mark_Text.f 100 n = some t) (hr : mark_Read.f s = some (m, true))
    (hs : ((s.size : Int) != 16) = false) (hmm : (m != m) = false) (hst : (!(t.toList == s.toList) == (m == n)) = false) (hsz : s.size = 16) (k : Int) (hk : pendulumworld_Number.f a 16 = some k) (hk0 : 0 ≤ k) (hk1 : k < 16) (y : Int) (has : Bool) (hy : mark_Read.f (strOfNums ((bytesOf s).set k.toNat by_)) = some (y, has))
    (hcase : ((by_ == bt s k) = true ∧ has = true ∧ (y == m) = true) ∨ ((by_ == bt s k) = false ∧ has = false ∧ (y == 0) = true) ∨ ((by_ == bt s k) = false ∧ has = true ∧ (y == m) = false)) :
    Calls Try.prog 5 #[.int .u64 m, .int .u64 n, .int .i64 a, .int .u8 by_] w fun e w' => e = .returned (.bool true) ∧ Below w.heap.size w w' := by
  have HF := Aside0.mk first_f
  have HM := Aside0.mk hm
  have HN := Aside0.mk hn
  have HR := Aside0.mk hr
  have HK := Aside0.mk hk
  have HY := Aside0.mk hy
  have HC := Aside0.mk hcase
  clear hcase
  have HS := Aside0.mk hsz
  clear hm hn hr hk hy hsz
  have kc := fun W => print_bytes (P := Try.prog) 9 26 5 Try.underlying9 Try.underlying26 Try.underlying5 s W
  go_enter Try.func5, Try.ntmps5
  go_wp2_with fail
  refine (pendulumlaw2_first.calls 1000 true _ HF.out).mono ?_
  rintro e w1 ⟨rfl, hb1⟩
  have HB1 := Aside0.mk hb1
  clear hb1
  go_wp2_with fail
  refine (mark_Text.calls 100 m s _ HM.out).mono ?_
  rintro e w2 ⟨rfl, hb2⟩
  have HB2 := Aside0.mk (below_step HB1.out hb2)
  clear hb2 HB1
  go_wp2_with fail
  refine (mark_Read.calls s m true _ HR.out).mono ?_
  rintro e w3 ⟨rfl, hb3⟩
  have HB3 := Aside0.mk (below_step HB2.out hb3)
  clear hb3 HB2
  go_wp2_with fail
  refine (mark_Text.calls 100 n t _ HN.out).mono ?_
  rintro e w4 ⟨rfl, hb4⟩
  have HB4 := Aside0.mk (below_step HB3.out hb4)
  clear hb4 HB3
  go_wp2_with fail
  refine (pendulumworld_Number.calls a 16 k _ HK.out).mono ?_
  rintro e w5 ⟨rfl, ⟨nd, rfl⟩⟩
  have hcell : ((Lib.bytesWorld w4 5 s).drewN nd).cell? ⟨w4.heap.size, k.toNat, none⟩ = some (.int .u8 (bt s k)) := by
    have h := (bytes_reads w4 5 s (by have := HS.out; omega)).at_ k hk0 (by have := HS.out; omega)
    obtain ⟨ad, e, h⟩ := h
    obtain rfl := Option.some.inj e
    rw [add_plain, rd_bytesOf] at h
    exact h
  have hfro : ((Lib.bytesWorld w4 5 s).drewN nd).frozen? ⟨w4.heap.size, k.toNat, none⟩ = false := by
    have h := Lib.bytesWorld_at_new w4 5 s
    show (Lib.bytesWorld w4 5 s).frozen? _ = false
    have hz : s.size ≤ (Lib.bytesCells w4 5 s).size := by simp [Lib.bytesCells]
    have := HS.out
    simp only [World.frozen?, h]
    simp
    omega
  have hkt : (k : Int) < (s.size : Int) := by have := HS.out; omega
  have hread : ReadsInt (((Lib.bytesWorld w4 5 s).drewN nd).setCell ⟨w4.heap.size, k.toNat, none⟩ (.int .u8 by_)) .u8 (some ⟨w4.heap.size, 0, none⟩) s.size ((bytesOf s).set k.toNat by_) := by
    have hb := bytes_reads w4 5 s (by have := HS.out; omega)
    refine ⟨by rw [List.length_set]; exact hb.1, hb.2.1, fun hn => ⟨_, rfl, fun j hj => ?_⟩⟩
    obtain ⟨ad, e, hc⟩ := hb.2.2 hn
    obtain rfl := Option.some.inj e
    have hcj := hc j hj
    rw [add_plain] at hcj ⊢
    by_cases hjk : j = k.toNat
    · subst hjk
      rw [World.cell?_setCell_same _ _ _ hcell]
      rw [List.getD_eq_getElem?_getD, List.getElem?_set_self (by rw [hb.1]; exact hj)]
      rfl
    · rw [World.cell?_setCell_other _ _ _ _ (by simp)]
      rw [List.getD_eq_getElem?_getD, List.getElem?_set_ne (Ne.symm hjk), ← List.getD_eq_getElem?_getD]
      exact hcj
  have hcv := string_of_reads (P := Try.prog) (c := grownCap w4 s.size 0 5) Try.underlying26 Try.underlying5 Try.underlying9 hread
  clear hread
  go_wp2_with fail
  refine (mark_Read.calls _ y has _ HY.out).mono ?_
  rintro e w6 ⟨rfl, hb6⟩
  have HB6 : Below w.heap.size w w6 := below_step (below_set (pw_below_drewN (bytes_below HB4.out HB4.out.size 5 s) nd) HB4.out.size) hb6
  have HB6' := Aside0.mk HB6
  clear HB6 hb6 hcv hfro hcell kc HB4
  rcases HC.out with ⟨c1, c2, c3⟩ | ⟨c1, c2, c3⟩ | ⟨c1, c2, c3⟩
  all_goals
    subst c2
    have c4 : (by_ != bt s k) = !(by_ == bt s k) := rfl
    have c5 : (y != m) = !(y == m) := rfl
    rw [c1] at c4
    try rw [c3] at c5
    clear HC
    go_wp2
    go_ret
    exact ⟨rfl, HB6'.out⟩

theorem set_str (s : ByteArray) (k b : Int) : (strOfNums ((bytesOf s).set k.toNat b)).data.toList = s.data.toList.set k.toNat (UInt8.ofNat b.toNat) := by
  rw [strOfNums_data, List.map_set, bytesOf, List.map_map]
  congr 1
  conv => rhs; rw [← List.map_id s.data.toList]
  apply List.map_congr_left
  intro c _
  simp
theorem val_inj : ∀ (x y : List UInt8) (m : Nat), allHex x → allHex y → x.length = y.length → x.foldl (fun m c => m * 16 + digit c.toNat) m = y.foldl (fun m c => m * 16 + digit c.toNat) m → x = y := by
  have dig {a b : UInt8} (ha : isHex a.toNat) (hb : isHex b.toNat) (h : digit a.toNat = digit b.toNat) : a = b := by
    apply UInt8.toNat_inj.1
    unfold isHex at ha hb
    unfold digit at h
    split at h <;> split at h <;> omega
  have key (x : List UInt8) (hx : allHex x) : ∀ m, m * 16 ^ x.length ≤ x.foldl (fun m c => m * 16 + digit c.toNat) m ∧ x.foldl (fun m c => m * 16 + digit c.toNat) m < (m + 1) * 16 ^ x.length := by
    intro m
    refine ⟨?_, mark_Read.fold_lt x hx m⟩
    induction x generalizing m with
    | nil => simp
    | cons c l ih =>
      have h1 := ih (fun z hz => hx z (by simp [hz])) (m * 16 + digit c.toNat)
      rw [List.foldl_cons, List.length_cons, Nat.pow_succ, Nat.mul_comm (16 ^ _) 16, ← Nat.mul_assoc]
      exact Nat.le_trans (Nat.mul_le_mul_right _ (by omega)) h1
  have gen : ∀ (x y : List UInt8) (m n : Nat), allHex x → allHex y → x.length = y.length → x.foldl (fun m c => m * 16 + digit c.toNat) m = y.foldl (fun m c => m * 16 + digit c.toNat) n → m = n ∧ x = y := by
    intro x
    induction x with
    | nil => intro y m n _ _ hl h; cases y with
      | nil => exact ⟨h, rfl⟩
      | cons _ _ => simp at hl
    | cons a x ih =>
      intro y m n hx hy hl h
      cases y with
      | nil => simp at hl
      | cons b y =>
        rw [List.foldl_cons, List.foldl_cons] at h
        obtain ⟨h1, h2⟩ := ih y _ _ (fun z hz => hx z (by simp [hz])) (fun z hz => hy z (by simp [hz])) (by simpa using hl) h
        have da := mark_Read.digit_lt (hx a (by simp))
        have db := mark_Read.digit_lt (hy b (by simp))
        have hd : digit a.toNat = digit b.toNat := by omega
        exact ⟨by omega, by rw [dig (hx a (by simp)) (hy b (by simp)) hd, h2]⟩
  intro x y m hx hy hl h
  exact (gen x y m m hx hy hl h).2

theorem back (a0 a1 a2 a3 : Int) (W : World) (w0 : (Lit.int .u64 a0).wf = true) (w1 : (Lit.int .u64 a1).wf = true) (_w2 : (Lit.int .i64 a2).wf = true) (w3 : (Lit.int .u8 a3).wf = true) :
    Calls Try.prog 5 #[.int .u64 a0, .int .u64 a1, .int .i64 a2, .int .u8 a3] W fun e w' => e = .returned (.bool true) ∧ Below W.heap.size W w' := by
  have h0 : 0 ≤ a0 ∧ a0 ≤ 18446744073709551615 := by simpa [Lit.wf, IntKind.min, IntKind.max, IntKind.bits, IntKind.signed] using w0
  have h1 : 0 ≤ a1 ∧ a1 ≤ 18446744073709551615 := by simpa [Lit.wf, IntKind.min, IntKind.max, IntKind.bits, IntKind.signed] using w1
  have h3 : 0 ≤ a3 ∧ a3 ≤ 255 := by simpa [Lit.wf, IntKind.min, IntKind.max, IntKind.bits, IntKind.signed] using w3
  obtain ⟨x, rfl⟩ := Int.eq_ofNat_of_zero_le h0.1
  obtain ⟨y, rfl⟩ := Int.eq_ofNat_of_zero_le h1.1
  have hx : x < 2 ^ 64 := by omega
  have hy : y < 2 ^ 64 := by omega
  have hxm : x % 16 ^ 16 = x := Nat.mod_eq_of_lt (by omega)
  have hym : y % 16 ^ 16 = y := Nat.mod_eq_of_lt (by omega)
  have tx := text_f 100 x hx (by omega)
  have ty := text_f 100 y hy (by omega)
  have lx := hexChars_length 16 x
  have ly := hexChars_length 16 y
  have ax := hexChars_all 16 x
  have vx := hexChars_val 16 x
  have vy := hexChars_val 16 y
  rw [hxm] at vx
  rw [hym] at vy
  have exy : x = y → hexChars 16 x = hexChars 16 y := fun h => by rw [h]
  revert tx ty lx ly ax vx vy exy
  generalize hexChars 16 x = X
  generalize hexChars 16 y = Y
  intro tx ty lx ly ax vx vy exy
  obtain ⟨k, hk, hk0, hk1⟩ := number_f a2 16 (by omega) (by omega)
  have hsz : (⟨X.toArray⟩ : ByteArray).size = 16 := by show X.toArray.size = 16; rw [List.size_toArray, lx]
  have hdl : (⟨X.toArray⟩ : ByteArray).data.toList = X := rfl
  have hr : mark_Read.f ⟨X.toArray⟩ = some ((x : Int), true) := by
    unfold mark_Read.f
    rw [if_pos ⟨hsz, by rw [hdl]; exact ax⟩, hdl, vx]
  have hst : (!((⟨Y.toArray⟩ : ByteArray).toList == (⟨X.toArray⟩ : ByteArray).toList) == ((x : Int) == (y : Int))) = false := by
    rw [ByteArray.toList_eq, ByteArray.toList_eq]
    show (!(Y == X) == ((x : Int) == (y : Int))) = false
    by_cases h : x = y
    · rw [exy h, h]; simp
    · have hne : Y ≠ X := fun e => h (by rw [← vx, ← vy, e])
      have h2 : ¬ (x : Int) = (y : Int) := by omega
      rw [beq_eq_false_iff_ne.2 hne, beq_eq_false_iff_ne.2 h2]; rfl
  obtain ⟨l, hl⟩ : ∃ l, l = strOfNums ((bytesOf ⟨X.toArray⟩).set k.toNat a3) := ⟨_, rfl⟩
  have hld : l.data.toList = X.set k.toNat (UInt8.ofNat a3.toNat) := by rw [hl, set_str]
  have hls : l.size = 16 := by rw [← data_length, hld, List.length_set, lx]
  have hkl : k.toNat < X.length := by rw [lx]; omega
  have hbt : bt ⟨X.toArray⟩ k = ((X[k.toNat]'hkl).toNat : Int) := by
    have := bt_get ⟨X.toArray⟩ k.toNat (by rw [hsz]; omega)
    rw [show ((k.toNat : Nat) : Int) = k by omega] at this
    exact this
  obtain ⟨v, b, hv, hcase⟩ : ∃ v b, mark_Read.f l = some (v, b) ∧ (((a3 == bt ⟨X.toArray⟩ k) = true ∧ b = true ∧ (v == (x : Int)) = true) ∨
      ((a3 == bt ⟨X.toArray⟩ k) = false ∧ b = false ∧ (v == 0) = true) ∨ ((a3 == bt ⟨X.toArray⟩ k) = false ∧ b = true ∧ (v == (x : Int)) = false)) := by
    unfold mark_Read.f
    by_cases he : a3 = bt ⟨X.toArray⟩ k
    · have e2 : X.set k.toNat (UInt8.ofNat a3.toNat) = X := by
        rw [he, hbt, Int.toNat_natCast, UInt8.ofNat_toNat, List.set_getElem_self]
      rw [e2] at hld
      refine ⟨_, _, by rw [if_pos ⟨hls, by rw [hld]; exact ax⟩], .inl ⟨by rw [beq_iff_eq]; exact he, rfl, ?_⟩⟩
      rw [hld, vx]; simp
    · by_cases ha : allHex l.data.toList
      · refine ⟨_, _, by rw [if_pos ⟨hls, ha⟩], .inr (.inr ⟨beq_eq_false_iff_ne.2 he, rfl, beq_eq_false_iff_ne.2 ?_⟩)⟩
        intro hval
        have hval' : hexVal l.data.toList = hexVal X := by rw [vx]; omega
        have := val_inj _ _ 0 ha (ax) (by rw [data_length, hls, lx]) hval'
        rw [hld] at this
        have hg := congrArg (fun z => z[k.toNat]?) this
        simp only [List.getElem?_set_self hkl, List.getElem?_eq_getElem hkl] at hg
        have hg2 := congrArg UInt8.toNat (Option.some.inj hg)
        rw [UInt8.toNat_ofNat'] at hg2
        apply he
        rw [hbt, ← hg2]
        omega
      · exact ⟨0, false, by rw [if_neg (fun h => ha h.2)], .inr (.inl ⟨beq_eq_false_iff_ne.2 he, rfl, rfl⟩)⟩
  exact walk x y a2 a3 _ _ W tx ty hr (by rw [hsz]; rfl) (by simp) hst hsz k hk hk0 hk1 v b (by rw [← hl]; exact hv) hcase
end Go.Proofs.Ytbgapakobfpaeaa.MarkBackWalk

/- DiskTwins, in plain words. By this session. -/
import Derived.Test.YtgpoomkbkckbaaaDoorDiskTwinsW
import Derived.Test.YtgpoomkbkckbaaaDoorDiskTwinsC
import Derived.Test.YtgpoomkbkckbaaaDoorDiskTwinsS
namespace Go.Proofs.YtgpoomkbkckbaaaDoor.Pure
open Go Go.Proofs.YtgpoomkbkckbaaaDoor.Cm
set_option linter.unusedVariables false
set_option linter.unusedSimpArgs false
set_option maxRecDepth 100000
theorem first_at (x : law3_first_ins.T) : law3_first 200 x = some ((true, ()), ()) := by
  obtain ⟨⟨⟩, ⟨⟩⟩ := x
  kernel_rfl
theorem new_at : disk_New 200 ((8, ()), ()) = some (.inl (((((), ()), (ErrV.nil, ()), ()), ()), ((8, (), (), 0, 0, false, ()), [], [], ()))) := by kernel_rfl
def xs (l : List Int) : Nat → List Int
  | 0 => l
  | i + 1 => (xs l i).set i (IntKind.u8.wrap (rdT (.int .u8) (xs l i) (i : Int) + 1))
theorem xs_len (l : List Int) : ∀ i, (xs l i).length = l.length
  | 0 => rfl
  | i + 1 => by simp [xs, xs_len l i]
theorem loop1 {w l : List Int} {x : Bool} {s c a : Int} {d : Bool} {f p : M} (hl : l.length ≤ 100) : law3_DiskTwins_l17 200 200 ((x, (), (), (), 0, ()), (w, (s, (), (), c, a, d, ()), l, f, p, ())) = some (.inl ((x, (), (), ()), (w, (s, (), (), c, a, d, ()), f, p, ()))) := by
  have h := for_all (F := law3_DiskTwins_l17 200) (len := l.length) (fun i => ((x, (), (), (), (i : Int), ()), (w, (s, (), (), c, a, d, ()), xs l i, f, p, ()))) (r := some (.inl ((x, (), (), ()), (w, (s, (), (), c, a, d, ()), f, p, ())))) (fun i k hi => by
    have hx := xs_len l i
    simp only [law3_DiskTwins_l17]
    rw [if_pos (decide_eq_true (show (i : Int) < ((xs l i).length : Int) by omega)), if_pos (show (0 : Int) ≤ (i : Int) ∧ (i : Int) < ((xs l i).length : Int) by omega), if_pos (show (0 : Int) ≤ (i : Int) ∧ (i : Int) < ((xs l i).length : Int) by omega)]
    simp only [w64_up i (by omega)]
    rfl) (fun k => by
    simp only [law3_DiskTwins_l17]
    rw [if_neg (by simp [xs_len])]) (k := 200) (by omega)
  exact h
theorem cgo_none (f p : M) (ks : List Int) : ∀ k, cgo f p ks [] k = f
  | 0 => rfl
  | k + 1 => by rw [cgo_succ, cgo_none f p ks k]; rfl
theorem write3 {b : List Int} {c : Int} {f p : M} (hb : b.length ≤ 100) (hc : 0 ≤ c ∧ c ≤ 10) : disk_Disk_Write_2 200 (((), 3, b, ()), ((8, (), (), c, 0, false, ()), f, p, ())) = some ((ErrV.nil, ()), ((8, (), (), c + 1, 0, false, ()), f, mset ki 3 b p, ())) :=
  write2_ok (n := 200) (by omega) (by omega) rfl (by omega) (by omega) (by omega) (by omega)
theorem read3 {v : Option (List Int)} {c : Int} {f p : M} (hv : sec f p 3 = v) (hl : (v.getD []).length ≤ 100) : disk_Disk_Read 200 (((), 3, ()), ((8, (), (), c, 0, false, ()), f, p, ())) = some (((((), ()), (v.isSome, ()), (ErrV.nil, ()), ()), ()), ((8, (), (), c, 0, false, ()), f, p, v.getD [], ())) := by
  rw [read_at (n := 200) (by omega) c 0 f p (by omega) (by omega) (by rw [hv]; omega), hv]
theorem crash3 {c : Int} {f p : M} (hp : KB 8 p) (hl : p.length ≤ 10) : disk_Disk_Crash 200 (((), (), ()), ((8, (), (), c, 0, false, ()), [], f, p, ())) = some (((), ()), ((8, (), (), c, 0, false, ()), [], f, [], ())) := by
  rw [crash_at hp (by omega) (by omega) (by omega), cgo_none]
/-- From the copy on. -/
theorem rest {a b : List Int} {fl : Bool} {c : Int} {f p : M} (ha : a.length ≤ 100) (hb : b.length ≤ 100) (hc : 0 ≤ c ∧ c ≤ 10) (hp : KB 8 p) (hl : p.length ≤ 10) (h1 : sec f p 3 = some a) (h2 : sec f [] 3 = if fl = true then some a else none) (hc9 : law3_DiskTwins_c9 200 ((a, b, fl, (), ErrV.nil, ()), ((8, (), (), 0, 0, false, ()), [], [], ())) = some (.inl ((a, b, fl, (), ()), ((8, (), (), c, 0, false, ()), f, p, ())))) :
    law3_DiskTwins (200 + 1) ⟨⟨a, b, fl, ⟨⟩⟩, ⟨⟩⟩ = some ((true, ()), ()) := by
  simp only [law3_DiskTwins, first_at, Bool.not_true, Bool.false_eq_true, if_false]
  rw [if_neg (by simp; omega), if_neg (by simp; omega), new_at]
  simp only []
  rw [hc9]
  simp only []
  rw [bytes_at (by omega) (by omega)]
  simp only [disk_Disk_Clone]
  have hcl : ∀ m : M, maps_Clone 199 (((), ()), (m, ())) = some (((), ()), (m, m, ())) := fun m => rfl
  rw [hcl, hcl]
  simp only []
  rw [write3 hb hc]
  simp only [errNil, Bool.not_true, Bool.false_eq_true, if_false]
  rw [read3 h1 (by simpa using ha)]
  simp only [errNil, Bool.not_true, Bool.false_eq_true, if_false, Option.isSome_some, Option.getD_some]
  rw [same_at (by omega) (by omega)]
  simp only [Bool.not_true, Bool.false_eq_true, if_false]
  rw [loop1 ha]
  simp only []
  rw [read3 h1 (by simpa using ha)]
  simp only [Option.getD_some]
  rw [crash3 hp hl]
  simp only []
  cases fl with
  | true =>
    rw [read3 h2 (by simpa using ha)]
    simp only [if_true, Option.isSome_some, Option.getD_some]
    rw [same_at (by omega) (by omega)]
    simp only [if_true, errNil, beq_self_eq_true, Bool.not_true, Bool.false_eq_true, if_false]
    rw [same_at (by omega) (by omega)]
  | false =>
    rw [read3 h2 (by simp)]
    simp only [Bool.false_eq_true, if_false, Option.isSome_none, Option.getD_none]
    rw [same_at (by omega) (by omega)]
    simp only [if_true, errNil, beq_self_eq_true, Bool.not_false]
theorem DiskTwins : law3_DiskTwins.Pure := by
  intro a b fl g0 g1 g2
  refine ⟨200 + 1, ?_⟩
  change List Int at a b
  change Bool at fl
  by_cases h1 : (a.length : Int) > 100
  · simp only [law3_DiskTwins, first_at, Bool.not_true, Bool.false_eq_true, if_false]
    rw [if_pos (decide_eq_true h1)]
  · by_cases h2 : (b.length : Int) > 100
    · simp only [law3_DiskTwins, first_at, Bool.not_true, Bool.false_eq_true, if_false]
      rw [if_neg (by simpa using h1), if_pos (decide_eq_true h2)]
    · have ha : a.length ≤ 100 := by omega
      have hk : KB 8 [((3 : Int), a)] := fun p hp => by
        obtain rfl := List.mem_singleton.1 hp
        exact ⟨show (0 : Int) ≤ 3 by omega, show (3 : Int) < 8 by omega⟩
      have hw : mset ki 3 a [] = [((3 : Int), a)] := rfl
      cases fl with
      | true =>
        refine rest (c := 2) (f := mergeM [] [((3 : Int), a)]) (p := []) ha (by omega) (by omega) KB.nil (by simp) rfl rfl ?_
        simp only [law3_DiskTwins_c9, errNil, Bool.not_true, Bool.false_eq_true, if_false]
        rw [write3 ha (by omega), hw]
        simp only [errNil, Bool.not_true, Bool.false_eq_true, if_false, if_true]
        rw [flush_ok (n := 200) (by omega) (by omega) rfl (by omega) (by omega) KB.nil hk (by simp)]
        rfl
      | false =>
        refine rest (c := 1) (f := []) (p := [((3 : Int), a)]) ha (by omega) (by omega) hk (by simp) rfl rfl ?_
        simp only [law3_DiskTwins_c9, errNil, Bool.not_true, Bool.false_eq_true, if_false]
        rw [write3 ha (by omega), hw]
        rfl
end Go.Proofs.YtgpoomkbkckbaaaDoor.Pure

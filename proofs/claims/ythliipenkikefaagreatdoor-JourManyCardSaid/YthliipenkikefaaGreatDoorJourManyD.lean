/- A store on a new disk, in plain words. By this session. -/
import Derived.Test.YthliipenkikefaaGreatDoorJourManyC
namespace Go.Proofs.YthliipenkikefaaGreatDoor.Pure
open Go Go.Lib Go.Proofs.YthliipenkikefaaGreatDoor.Cm
set_option linter.unusedVariables false
set_option linter.unusedSimpArgs false
set_option maxRecDepth 100000
theorem read0_at {n : Nat} (hn : 10 < n) {S i c : Int} (h0 : 0 ≤ i) (h1 : i < S) : jour_read n (((), i, ()), ((S, (), (), c, 0, false, ()), ([] : M), ([] : M), ())) = some ((((0, 0, 0, [], ()), (false, ()), (ErrV.nil, ()), ()), ()), ((S, (), (), c, 0, false, ()), [], [], ())) := by
  obtain ⟨n, rfl⟩ : ∃ k, n = k + 1 := ⟨n - 1, by omega⟩
  have hR : disk_Disk_Read n (((), i, ()), ((S, (), (), c, 0, false, ()), ([] : M), ([] : M), ())) = some (((((), ()), (false, ()), (ErrV.nil, ()), ()), ()), ((S, (), (), c, 0, false, ()), [], [], [], ())) := by
    obtain ⟨n, rfl⟩ : ∃ k, n = k + 1 := ⟨n - 1, by omega⟩
    simp only [disk_Disk_Read]
    rw [if_neg (by decide), if_neg (by simp; omega), if_neg (by simp; omega)]
    rw [show disk_Disk_Read_c8 n (((), i, (mfind (keyEq ((.int .i64) : Ty)) i ([] : M)).getD [], (mfind (keyEq ((.int .i64) : Ty)) i ([] : M)).isSome, ()), ((S, (), (), c, 0, false, ()), ([] : M), ([] : M), ())) = some (.inl (([], false, ()), ((S, (), (), c, 0, false, ()), [], [], ()))) from rfl]
    simp only []
    rw [clone_at (by omega) [] (by simp)]
  have hI : errors_Is n ((ErrV.nil, ErrV.sent 118, ()), ()) = some ((false, ()), ()) := by
    obtain ⟨n, rfl⟩ : ∃ k, n = k + 1 := ⟨n - 1, by omega⟩
    rfl
  simp only [jour_read, hR, jour_read_c4, hI]
  rfl
theorem call0_at {n : Nat} (hn : 11 < n) {S i c x y : Int} (h0 : 0 ≤ i) (h1 : i < S) : jour_call n (((), i, x, y, ()), ((S, (), (), c, 0, false, ()), ([] : M), ([] : M), ())) = some ((((0, 0, 0, (), ()), (false, ()), (ErrV.nil, ()), ()), ()), ((S, (), (), c, 0, false, ()), [], [], [], ())) := by
  obtain ⟨n, rfl⟩ : ∃ k, n = k + 1 := ⟨n - 1, by omega⟩
  simp only [jour_call, read0_at (n := n) (by omega) h0 h1]
  rfl
theorem load0_at {n : Nat} (hn : 20 < n) {S : Nat} (hS : 1 ≤ S ∧ S ≤ 16384) {k : Nat} (hk : k ≤ 1) (c : Int) : ∃ at_ : Int, jour_load n (((), (k : Int), ()), (((S : Int), (), (), c, 0, false, ()), ([] : M), ([] : M), ())) = some (((((), ()), (at_, ()), (0, ()), (ErrV.nil, ()), ()), ()), (((S : Int), (), (), c, 0, false, ()), [], [], ())) := by
  obtain ⟨n, rfl⟩ : ∃ k, n = k + 2 := ⟨n - 2, by omega⟩
  have hkm : k = 0 ∨ k = 1 := by omega
  refine ⟨((k * (S / 2) : Nat) : Int), ?_⟩
  have hl : jour_load_l4 (n + 1) (n + 1) (((), ((k * (S / 2) : Nat) : Int), (((k + 1) * (S / 2) : Nat) : Int), (), 0, ()), (((S : Int), (), (), c, 0, false, ()), ([] : M), ([] : M), [], ())) = some (.inl (((), ((k * (S / 2) : Nat) : Int), 0, ErrV.nil, ()), (((S : Int), (), (), c, 0, false, ()), [], [], ()))) := by
    simp only [jour_load_l4]
    rw [call0_at (by omega) (by omega) (by rcases hkm with rfl | rfl <;> omega)]
    rfl
  simp only [jour_load, bounds_at (n := n + 1) (by omega) hS.2 hk]
  rw [hl]
theorem open0_at {n : Nat} {S : Nat} (hS : 1 ≤ S ∧ S ≤ 16384) (hn : 100 + S < n) (c : Int) : jour_Open n (((), ()), (((S : Int), (), (), c, 0, false, ()), ([] : M), ([] : M), ())) = some (.inl (((((), ()), (ErrV.nil, ()), ()), ()), (((S : Int), (), (), c, 0, false, ()), [], [], ((), (), (-1), 0, 0, ()), [], ()))) := by
  obtain ⟨n, rfl⟩ : ∃ k, n = k + 4 := ⟨n - 4, by omega⟩
  obtain ⟨a0, h0⟩ := load0_at (n := n + 3) (by omega) hS (k := 0) (by omega) c
  obtain ⟨a1, h1⟩ := load0_at (n := n + 3) (by omega) hS (k := 1) (by omega) c
  have hl4 : jour_Open_l4 (n + 3) (n + 3) (((), (), 0, 0, ()), (((S : Int), (), (), c, 0, false, ()), ([] : M), ([] : M), ((), (), (-1), 0, 0, ()), [], ())) = some (.inl (((), (), ()), (((S : Int), (), (), c, 0, false, ()), [], [], ((), (), (-1), 0, 0, ()), [], ()))) := by
    simp only [jour_Open_l4]
    rw [if_pos (by decide), show jour_load (n + 3) (((), 0, ()), (((S : Int), (), (), c, 0, false, ()), ([] : M), ([] : M), ())) = _ from h0]
    simp only []
    rw [if_neg (by decide), if_neg (by decide), show IntKind.i64.wrap (0 + 1) = 1 from rfl, if_pos (by decide), show jour_load (n + 3) (((), 1, ()), (((S : Int), (), (), c, 0, false, ()), ([] : M), ([] : M), ())) = _ from h1]
    simp only []
    rw [if_neg (by decide), if_neg (by decide), show IntKind.i64.wrap (1 + 1) = 2 from rfl, if_neg (by decide)]
  have hl14 := for_all (F := jour_Open_l14 (n + 3)) (len := S) (fun i => (((), (), (S : Int), (i : Int), ()), (((S : Int), (), (), c, 0, false, ()), ([] : M), ([] : M), ((), (), (-1), 0, 0, ()), ([] : MM), ()))) (r := some (.inl (((), ()), (((S : Int), (), (), c, 0, false, ()), [], [], ((), (), (-1), 0, 0, ()), [], ())))) (fun i k hi => by
    simp only [jour_Open_l14]
    rw [if_pos (decide_eq_true (show (i : Int) < (S : Int) by omega)), read0_at (by omega) (by omega) (by omega)]
    simp only []
    rw [if_neg (by decide), if_neg (by decide), w64_up i (by omega)]) (fun k => by
    simp only [jour_Open_l14]
    rw [if_neg (by simp)]) (k := n + 3) (by omega)
  have e0 : disk_Disk_Sectors (n + 3) (((), ()), (((S : Int), (), (), c, 0, false, ()), ([] : M), ([] : M), ())) = some (((S : Int), ()), (((S : Int), (), (), c, 0, false, ()), [], [], ())) := rfl
  simp only [jour_Open]
  rw [hl4]
  simp only []
  rw [e0]
  simp only []
  rw [show jour_Open_l14 (n + 3) (n + 3) (((), (), (S : Int), 0, ()), (((S : Int), (), (), c, 0, false, ()), ([] : M), ([] : M), ((), (), (-1), 0, 0, ()), ([] : MM), ())) = _ from hl14]
theorem opened_at {n : Nat} {S : Nat} (hS : 1 ≤ S ∧ S ≤ 16384) (hn : 200 + S < n) : law4_opened n (((S : Int), ()), ()) = some (.inl (((((), ()), ((), ()), ()), ()), (((), (), (-1), 0, 0, ()), ((S : Int), (), (), 0, 0, false, ()), [], [], [], ()))) := by
  obtain ⟨n, rfl⟩ : ∃ k, n = k + 2 := ⟨n - 2, by omega⟩
  have hN : disk_New (n + 1) (((S : Int), ()), ()) = some (.inl (((((), ()), (ErrV.nil, ()), ()), ()), (((S : Int), (), (), 0, 0, false, ()), ([] : M), ([] : M), ()))) := by
    simp only [disk_New]
    rw [if_neg (by simp; omega), if_neg (by simp; omega)]
  simp only [law4_opened, hN]
  rw [if_neg (by decide), open0_at hS (by omega) 0]
  simp only []
  rw [if_neg (by decide)]
end Go.Proofs.YthliipenkikefaaGreatDoor.Pure

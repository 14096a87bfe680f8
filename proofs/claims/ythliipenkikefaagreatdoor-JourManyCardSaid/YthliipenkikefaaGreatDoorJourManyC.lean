/- What a Commit does, in plain words: all records anew; the Commit itself. By this session. -/
import Derived.Test.YthliipenkikefaaGreatDoorJourManyB
import Derived.Test.YthliipenkikefaaGreatDoorCmMe
namespace Go.Proofs.YthliipenkikefaaGreatDoor.Pure
open Go Go.Lib Go.Proofs.YthliipenkikefaaGreatDoor.Cm
set_option linter.unusedVariables false
set_option linter.unusedSimpArgs false
set_option maxRecDepth 100000
abbrev keysM (m : MM) : List ByteArray := m.map Prod.fst
def getM (m : MM) (k : ByteArray) : ByteArray := (mfind ks k m).getD (⟨#[]⟩ : ByteArray)
/-- Records that may be. -/
def MI (m : MM) : Prop := m.length ≤ 300 ∧ ∀ p ∈ m, p.1.size ≤ 40 ∧ p.2.size ≤ 32768
theorem MI.wf {m : MM} (h : MI m) : wfKeysS (V := ByteArray) m = true := by
  unfold wfKeysS
  rw [List.all_eq_true]
  exact fun p hp => decide_eq_true (by have := (h.2 p hp).1; omega)
theorem mset_mem {k v : ByteArray} : ∀ {m : MM} {p : ByteArray × ByteArray}, p ∈ mset ks k v m → p = (k, v) ∨ p ∈ m
  | [], p, h => by simp [mset] at h; exact .inl h
  | a :: m, p, h => by
    unfold mset at h
    split at h
    · rcases List.mem_cons.1 h with h | h
      · exact .inl h
      · exact .inr (.tail _ h)
    · rcases List.mem_cons.1 h with h | h
      · exact .inr (by rw [h]; exact .head _)
      · rcases mset_mem h with h | h
        · exact .inl h
        · exact .inr (.tail _ h)
theorem mdel_mem {k : ByteArray} : ∀ {m : MM} {p : ByteArray × ByteArray}, p ∈ mdel ks k m → p ∈ m
  | [], p, h => h
  | a :: m, p, h => by
    unfold mdel at h
    split at h
    · exact .tail _ h
    · rcases List.mem_cons.1 h with h | h
      · rw [h]; exact .head _
      · exact .tail _ (mdel_mem h)
theorem appl_mem {m : MM} : ∀ {l : List ChT} {p : ByteArray × ByteArray}, p ∈ appl m l → p ∈ m ∨ ∃ c ∈ l, p = (c.1, c.2.1) := by
  intro l
  induction l generalizing m with
  | nil => exact fun h => .inl h
  | cons c l ih =>
    intro p h
    have h : p ∈ appl (apC m c) l := h
    rcases ih h with h | ⟨d, hd, e⟩
    · unfold apC at h
      split at h
      · exact .inl (mdel_mem h)
      · rcases mset_mem h with h | h
        · exact .inr ⟨c, .head _, h⟩
        · exact .inl h
    · exact .inr ⟨d, .tail _ hd, e⟩
theorem bad_none {m : MM} {l : List ChT} (h : bad m l = none) : (∀ c ∈ l, 1 ≤ c.1.size ∧ c.1.size ≤ 40 ∧ c.2.1.size ≤ 32768) ∧ (appl m l).length ≤ 256 := by
  unfold bad at h
  split at h
  · cases h
  rename_i h1
  split at h
  · cases h
  rename_i h2
  split at h
  · cases h
  rename_i h3
  have h1 : l.all okK = true := by simpa using h1
  have h2 : l.all okV = true := by simpa using h2
  rw [List.all_eq_true] at h1 h2
  refine ⟨fun c hc => ?_, by omega⟩
  have a := h1 c hc
  have b := h2 c hc
  unfold okK at a
  unfold okV at b
  simp only [Bool.and_eq_true, decide_eq_true_eq] at a b
  exact ⟨a.1, a.2, b⟩
theorem MI.appl {m : MM} (h : MI m) {l : List ChT} (hb : bad m l = none) : MI (appl m l) := by
  obtain ⟨h1, h2⟩ := bad_none hb
  refine ⟨by omega, fun p hp => ?_⟩
  rcases appl_mem hp with hp | ⟨c, hc, rfl⟩
  · exact h.2 p hp
  · exact (h1 c hc).2
theorem equal_at {n : Nat} {m1 m2 : MM} (h1 : MI m1) (h2 : MI m2) : maps_Equal_19 n (((), (), ()), (m1, m2, ())) = some ((equalM m1 m2, ()), (m1, m2, ())) := by
  show equalSem _ = _
  have a := h1.1
  have b := h2.1
  unfold equalSem
  rw [if_pos (show wfKeysS (V := ByteArray) m1 = true from h1.wf), if_pos (show wfKeysS (V := ByteArray) m2 = true from h2.wf), if_pos (show List.length (α := ByteArray × ByteArray) m1 ≤ 1099511627776 by omega), if_pos (show List.length (α := ByteArray × ByteArray) m2 ≤ 1099511627776 by omega)]
theorem sorted_at {n : Nat} {m : MM} (h : MI m) : slices_Sorted_45 n (((), ()), (((), ()), m, ())) = some (((), ()), (((), ()), m, sortS (keysM m), ())) := by
  show sortedSSem 51 9 .str false 45 _ = _
  have a := h.1
  unfold sortedSSem
  rw [if_pos (show wfKeysS (V := ByteArray) m = true from h.wf), if_pos (show List.length (α := ByteArray × ByteArray) m ≤ 1099511627776 by omega)]
theorem insS_perm (x : ByteArray) : ∀ l, (insS x l).Perm (x :: l)
  | [] => .refl _
  | y :: r => by
    unfold insS
    split
    · exact ((insS_perm x r).cons y).trans (.swap x y r)
    · exact .refl _
theorem sortS_perm : ∀ l : List ByteArray, (sortS l).Perm l
  | [] => .refl _
  | x :: l => by rw [sortS_cons]; exact (insS_perm x _).trans ((sortS_perm l).cons x)
/-- All records, as changes. -/
def dump (m : MM) : List ChT := (sortS (keysM m)).map fun k => (k, getM m k, false)
theorem dump_len (m : MM) : (dump m).length = m.length := by
  unfold dump
  rw [List.length_map, (sortS_perm _).length_eq, List.length_map]
theorem mfind_mem {k : ByteArray} : ∀ {m : MM} {v : ByteArray}, mfind ks k m = some v → (k, v) ∈ m
  | [], v, h => by cases h
  | p :: m, v, h => by
    unfold mfind at h
    by_cases e : ks k p.1 = true
    · rw [if_pos e] at h
      have := (keyS_true k p.1).1 e
      cases h
      rw [this]
      exact .head _
    · rw [if_neg e] at h
      exact .tail _ (mfind_mem h)
theorem dump_ok {m : MM} (h : MI m) : ∀ c ∈ dump m, c.1.size ≤ 40 ∧ c.2.1.size ≤ 32768 := by
  intro c hc
  unfold dump at hc
  obtain ⟨k, hk, rfl⟩ := List.mem_map.1 hc
  obtain ⟨p, hp, rfl⟩ := List.mem_map.1 ((sortS_perm _).mem_iff.1 hk)
  refine ⟨(h.2 p hp).1, ?_⟩
  show (getM m p.1).size ≤ _
  unfold getM
  cases e : mfind ks p.1 m with
  | none => exact Nat.zero_le _
  | some v => exact (h.2 _ (mfind_mem e)).2
/-- Which half comes next. -/
def nextH (h : Int) : Nat := if h = 0 then 1 else 0
theorem bounds_at {n : Nat} (hn : 2 ≤ n) {S : Nat} (hS : S ≤ 16384) {k : Nat} (hk : k ≤ 1) (c : Int) (f p : M) :
    jour_bounds n (((), (k : Int), ()), (((S : Int), (), (), c, 0, false, ()), f, p, ())) = some ((((((k * (S / 2) : Nat) : Int), ()), ((((k + 1) * (S / 2) : Nat) : Int), ()), ()), ()), (((S : Int), (), (), c, 0, false, ()), f, p, ())) := by
  obtain ⟨n, rfl⟩ : ∃ k, n = k + 2 := ⟨n - 2, by omega⟩
  have e0 : disk_Disk_Sectors (n + 1) (((), ()), (((S : Int), (), (), c, 0, false, ()), f, p, ())) = some (((S : Int), ()), (((S : Int), (), (), c, 0, false, ()), f, p, ())) := rfl
  simp only [jour_bounds, e0]
  rw [show IntKind.i64.wrap (Int.tdiv (S : Int) 2) = ((S / 2 : Nat) : Int) by rw [Int.tdiv_eq_ediv_of_nonneg (by omega), w64_id (by omega) (by omega)]; omega]
  have hk2 : k = 0 ∨ k = 1 := by omega
  rcases hk2 with rfl | rfl
  · rw [show IntKind.i64.wrap (((0 : Nat) : Int) * ((S / 2 : Nat) : Int)) = ((0 * (S / 2) : Nat) : Int) by rw [w64_id (by omega) (by omega)]; omega, show IntKind.i64.wrap (((0 : Nat) : Int) + 1) = 1 from rfl, show IntKind.i64.wrap (1 * ((S / 2 : Nat) : Int)) = (((0 + 1) * (S / 2) : Nat) : Int) by rw [w64_id (by omega) (by omega)]; omega]
  · rw [show IntKind.i64.wrap (((1 : Nat) : Int) * ((S / 2 : Nat) : Int)) = ((1 * (S / 2) : Nat) : Int) by rw [w64_id (by omega) (by omega)]; omega, show IntKind.i64.wrap (((1 : Nat) : Int) + 1) = 2 from rfl, show IntKind.i64.wrap (2 * ((S / 2 : Nat) : Int)) = (((1 + 1) * (S / 2) : Nat) : Int) by rw [w64_id (by omega) (by omega)]; omega]
/-- The disk behind a call's writing. -/
def wr (f : M) (at_ : Nat) (q : Int) (b : List Int) : M := mergeM f (wp at_ q b (secs b.length))
theorem all_at {n : Nat} (hn : 40000 < n) {S : Nat} (hS : S ≤ 16384) {c : Int} (hc : 0 ≤ c ∧ c < 100000000) {h e q : Int} (hq : 0 ≤ q ∧ q < 1000000000) {m m' : MM} (hm : MI m') {f : M} {L : Nat} (hf : Fl S f L) (hL : L ≤ 500000) :
    jour_Store_all n (((), (), ()), (((), (), h, e, q, ()), m', ((S : Int), (), (), c, 0, false, ()), m, f, [], ())) =
      if secs (by_ 0 (dump m')).length ≤ S / 2 then
        some (.inr (((ErrV.nil, ()), (((), (), (nextH h : Int), ((nextH h * (S / 2) + secs (by_ 0 (dump m')).length : Nat) : Int), q + 1, ()), m', ((S : Int), (), (), c + (secs (by_ 0 (dump m')).length : Int) + 1, 0, false, ()), m, wr f (nextH h * (S / 2)) (q + 1) (by_ 0 (dump m')), [], ()))))
      else some (.inl ((ErrV.sent 118, ()), (((), (), h, e, q, ()), m', ((S : Int), (), (), c, 0, false, ()), m, f, [], ()))) := by
  obtain ⟨n, rfl⟩ : ∃ k, n = k + 1 := ⟨n - 1, by omega⟩
  have hml := hm.1
  have hdl := dump_len m'
  have hok := dump_ok hm
  have hbl := by_len (kind := 0) hok
  have hsl : (sortS (keysM m')).length = m'.length := by rw [(sortS_perm _).length_eq, List.length_map]
  have hK : maps_Keys_map_string_string_string_string n (((), ()), (m', ())) = some (((), ()), (m', ((), ()), ())) := by
    obtain ⟨n, rfl⟩ : ∃ k, n = k + 1 := ⟨n - 1, by omega⟩
    rfl
  have hl3 := for_all (F := jour_Store_all_l3 n) (len := m'.length) (fun i => (((), (), (), (), (m'.length : Int), (i : Int), ()), (((), (), h, e, q, ()), m', ((S : Int), (), (), c, 0, false, ()), m, f, ([] : M), ((sortS (keysM m')).take i).map (fun k => ((k, getM m' k, false) : ChT)), sortS (keysM m'), ()))) (r := some (.inl (((), (), (), ()), (((), (), h, e, q, ()), m', ((S : Int), (), (), c, 0, false, ()), m, f, [], dump m', ())))) (fun i k hi => by
    simp only [jour_Store_all_l3]
    rw [if_pos (decide_eq_true (show (i : Int) < (m'.length : Int) by omega)), if_pos (show 0 ≤ (i : Int) ∧ (i : Int) < ((sortS (keysM m')).length : Int) from ⟨by omega, by omega⟩), rdT_nat, if_pos (by simp only [List.length_map, List.length_take, List.length_cons, List.length_nil]; omega), w64_up i (by omega), take_succ (sortS (keysM m')) i (by omega) (Ty.dflt .str), List.map_append]
    rfl) (fun k => by
    simp only [jour_Store_all_l3]
    rw [if_neg (by simp), ← hsl, List.take_length]
    rfl) (k := n) (by omega)
  simp only [List.take_zero, List.map_nil] at hl3
  have hB := bytes_at (n := n) (l := dump m') (by omega) (by omega) hok (kind := 0) ⟨by decide, by decide⟩
  generalize hb : by_ 0 (dump m') = b at hB hbl ⊢
  have hbl : b.length ≤ 9851420 := by rw [hdl] at hbl; omega
  have hc11 : jour_Store_all_c11 n (((), (), (), 0, ()), (((), (), h, e, q, ()), m', ((S : Int), (), (), c, 0, false, ()), m, f, [], b, ())) = some (.inl (((), (), (), (nextH h : Int), ()), (((), (), h, e, q, ()), m', ((S : Int), (), (), c, 0, false, ()), m, f, [], b, ()))) := by
    simp only [jour_Store_all_c11]
    unfold nextH
    by_cases h0 : h = 0
    · rw [if_pos (by simp [h0]), if_pos h0]; rfl
    · rw [if_neg (by simpa using h0), if_neg h0]; rfl
  have hnh : nextH h ≤ 1 := by unfold nextH; split <;> omega
  have hnm : nextH h = 0 ∨ nextH h = 1 := by omega
  have hD : disk_Disk_Down n (((), ()), (((S : Int), (), (), c, 0, false, ()), f, ([] : M), ())) = some ((false, ()), (((S : Int), (), (), c, 0, false, ()), f, [], ())) := by
    obtain ⟨n, rfl⟩ : ∃ k, n = k + 1 := ⟨n - 1, by omega⟩
    rfl
  simp only [jour_Store_all, hK, sorted_at hm]
  have e3 : jour_Store_all_l3 n n (((), (), (), (), ((sortS (keysM m')).length : Int), 0, ()), (((), (), h, e, q, ()), m', ((S : Int), (), (), c, 0, false, ()), m, f, [], [], sortS (keysM m'), ())) = some (.inl (((), (), (), ()), (((), (), h, e, q, ()), m', ((S : Int), (), (), c, 0, false, ()), m, f, [], dump m', ()))) := by
    rw [hsl]
    exact hl3
  rw [e3]
  simp only []
  rw [hB]
  simp only []
  rw [hc11]
  simp only []
  rw [bounds_at (by omega) hS hnh]
  simp only []
  rw [hD]
  simp only []
  rw [if_neg (by decide), sectors_at (by omega) b (by omega)]
  simp only []
  have hdif : IntKind.i64.wrap ((((nextH h + 1) * (S / 2) : Nat) : Int) - ((nextH h * (S / 2) : Nat) : Int)) = ((S / 2 : Nat) : Int) := by
    rcases hnm with e0 | e0 <;> rw [e0, w64_id (by omega) (by omega)] <;> omega
  rw [hdif]
  by_cases hr : secs b.length ≤ S / 2
  · rw [if_pos hr, if_neg (by simp; omega)]
    have hW := write_at (n := n) (by omega) (S := (S : Int)) (by omega) (at_ := nextH h * (S / 2)) b (by omega) (by rcases hnm with e0 | e0 <;> rw [e0] <;> omega) hc hq h e m hf hL
    rw [hW]
    simp only []
    rw [if_neg (by decide), sectors2_at (by omega) b (by omega)]
    simp only []
    rw [show IntKind.i64.wrap (((nextH h * (S / 2) : Nat) : Int) + (secs b.length : Int)) = ((nextH h * (S / 2) + secs b.length : Nat) : Int) by
      rcases hnm with e0 | e0 <;> rw [e0, w64_id (by omega) (by omega)] <;> omega]
    rfl
  · rw [if_neg hr, if_pos (decide_eq_true (show (secs b.length : Int) > ((S / 2 : Nat) : Int) by omega))]
/-- Where a store stands: nowhere yet, or in a half, up to an end. -/
def At (S : Nat) (h e : Int) : Prop := h = -1 ∨ ∃ k e' : Nat, k ≤ 1 ∧ h = (k : Int) ∧ e = (e' : Int) ∧ e' ≤ (k + 1) * (S / 2)
theorem commit_bad {n : Nat} (hn : 50000 < n) {S : Nat} {c h e q : Int} {m : MM} {f p : M} {l : List ChT} (hl : l.length ≤ 1000) {code : Nat} (hb : bad m l = some code) :
    jour_Store_Commit n (((), (), ()), (((), (), h, e, q, ()), l, ((S : Int), (), (), c, 0, false, ()), m, f, p, ())) = some (.inl ((ErrV.sent code, ()), (((), (), h, e, q, ()), l, ((S : Int), (), (), c, 0, false, ()), m, f, p, ()))) := by
  obtain ⟨n, rfl⟩ : ∃ k, n = k + 1 := ⟨n - 1, by omega⟩
  simp only [jour_Store_Commit, fits_at (n := n) l (by omega) (by omega), hb]
  rw [if_pos (by simp [errNil])]
theorem commit_same {n : Nat} (hn : 50000 < n) {S : Nat} {c h e q : Int} {m : MM} (hm : MI m) {f p : M} {l : List ChT} (hl : l.length ≤ 1000) (hb : bad m l = none) (he : equalM (appl m l) m = true) :
    jour_Store_Commit n (((), (), ()), (((), (), h, e, q, ()), l, ((S : Int), (), (), c, 0, false, ()), m, f, p, ())) = some (.inl ((ErrV.nil, ()), (((), (), h, e, q, ()), l, ((S : Int), (), (), c, 0, false, ()), m, f, p, ()))) := by
  obtain ⟨n, rfl⟩ : ∃ k, n = k + 1 := ⟨n - 1, by omega⟩
  simp only [jour_Store_Commit, fits_at (n := n) l (by omega) (by omega), hb]
  rw [if_neg (by decide), equal_at (hm.appl hb) hm, he]
  simp only []
  rw [if_pos trivial]
theorem commit_new {n : Nat} (hn : 50000 < n) {S : Nat} (hS : S ≤ 16384) {c : Int} (hc : 0 ≤ c ∧ c < 100000000) {h e q : Int} (hq : 0 ≤ q ∧ q < 1000000000) (hA : At S h e) {m : MM} (hm : MI m) {f : M} {L : Nat} (hf : Fl S f L) (hL : L ≤ 500000) {l : List ChT} (hl : l.length ≤ 1000) (hb : bad m l = none) (he : equalM (appl m l) m = false) :
    jour_Store_Commit n (((), (), ()), (((), (), h, e, q, ()), l, ((S : Int), (), (), c, 0, false, ()), m, f, [], ())) =
      if 0 ≤ h ∧ e + (secs (by_ 1 l).length : Int) ≤ (h + 1) * ((S / 2 : Nat) : Int) then
        some (.inr (((ErrV.nil, ()), (((), (), h, e + (secs (by_ 1 l).length : Int), q + 1, ()), l, ((S : Int), (), (), c + (secs (by_ 1 l).length : Int) + 1, 0, false, ()), m, wr f e.toNat (q + 1) (by_ 1 l), [], appl m l, ()))))
      else if secs (by_ 0 (dump (appl m l))).length ≤ S / 2 then
        some (.inr (((ErrV.nil, ()), (((), (), (nextH h : Int), ((nextH h * (S / 2) + secs (by_ 0 (dump (appl m l))).length : Nat) : Int), q + 1, ()), l, ((S : Int), (), (), c + (secs (by_ 0 (dump (appl m l))).length : Int) + 1, 0, false, ()), m, wr f (nextH h * (S / 2)) (q + 1) (by_ 0 (dump (appl m l))), [], appl m l, ()))))
      else some (.inl ((ErrV.sent 118, ()), (((), (), h, e, q, ()), l, ((S : Int), (), (), c, 0, false, ()), m, f, [], ()))) := by
  obtain ⟨n, rfl⟩ : ∃ k, n = k + 1 := ⟨n - 1, by omega⟩
  have hok := (bad_none hb).1
  have hok2 : ∀ c ∈ l, c.1.size ≤ 40 ∧ c.2.1.size ≤ 32768 := fun c hc => (hok c hc).2
  have hbl := by_len (kind := 1) hok2
  have hB := bytes_at (n := n) (l := l) (by omega) hl hok2 (kind := 1) ⟨by decide, by decide⟩
  have hall := all_at (n := n) (by omega) hS hc (h := h) (e := e) hq (m := m) (hm.appl hb) hf hL
  generalize hbe : by_ 1 l = b at hB hbl ⊢
  have hbl : b.length ≤ 32838020 := by omega
  generalize hB0 : by_ 0 (dump (appl m l)) = b0 at hall ⊢
  simp only [jour_Store_Commit, fits_at (n := n) l (by omega) (by omega), hb]
  rw [if_neg (by decide), equal_at (hm.appl hb) hm, he]
  simp only []
  rw [if_neg (by decide), hB]
  simp only []
  rcases hA with rfl | ⟨k, e', hk, rfl, rfl, he'⟩
  · rw [if_neg (by decide), if_neg (by omega), hall]
    by_cases hr : secs b0.length ≤ S / 2
    · rw [if_pos hr, if_pos hr]
    · rw [if_neg hr, if_neg hr]
  · rw [if_pos (decide_eq_true (show (k : Int) ≥ 0 by omega)), bounds_at (by omega) hS hk]
    simp only []
    rw [sectors_at (by omega) b (by omega)]
    simp only []
    have hkm : k = 0 ∨ k = 1 := by omega
    have hsz : S / 2 ≤ 8192 := by omega
    have hw : IntKind.i64.wrap ((((k + 1) * (S / 2) : Nat) : Int) - (e' : Int)) = (((k + 1) * (S / 2) : Nat) : Int) - (e' : Int) := by
      rcases hkm with rfl | rfl <;> exact w64_id (by omega) (by omega)
    have hcond : ((secs b.length : Int) ≤ (((k + 1) * (S / 2) : Nat) : Int) - (e' : Int)) ↔ (0 ≤ (k : Int) ∧ (e' : Int) + (secs b.length : Int) ≤ ((k : Int) + 1) * ((S / 2 : Nat) : Int)) := by
      rcases hkm with rfl | rfl <;> constructor <;> intro hh <;> omega
    rw [hw]
    by_cases hr : (secs b.length : Int) ≤ (((k + 1) * (S / 2) : Nat) : Int) - (e' : Int)
    · rw [if_pos (decide_eq_true hr), if_pos (hcond.1 hr)]
      have hroom : ((e' + secs b.length : Nat) : Int) ≤ (S : Int) := by rcases hkm with rfl | rfl <;> omega
      rw [write_at (n := n) (by omega) (S := (S : Int)) (by omega) (at_ := e') b (by omega) hroom hc hq (k : Int) (e' : Int) m hf hL]
      simp only []
      rw [if_neg (by decide), sectors2_at (by omega) b (by omega)]
      simp only []
      rw [w64_id (by omega) (by omega)]
      rfl
    · rw [if_neg (by simpa using hr), if_neg (fun hh => hr (hcond.2 hh)), hall]
      by_cases hr2 : secs b0.length ≤ S / 2
      · rw [if_pos hr2, if_pos hr2]
      · rw [if_neg hr2, if_neg hr2]
end Go.Proofs.YthliipenkikefaaGreatDoor.Pure

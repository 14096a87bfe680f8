/- JourMany, in plain words: as many records as may be, and one more. By this session. -/
import Derived.Test.YthliipenkikefaaGreatDoorJourManyO
namespace Go.Proofs.YthliipenkikefaaGreatDoor.Pure
open Go Go.Lib Go.Proofs.YthliipenkikefaaGreatDoor.Cm
open Classical
set_option linter.unusedVariables false
set_option linter.unusedSimpArgs false
set_option maxRecDepth 100000
theorem first_at {n : Nat} (hn : 200 ≤ n) : law4_first n ((), ()) = some ((true, ()), ()) := by
  obtain ⟨n, rfl⟩ : ∃ m, n = m + 120 := ⟨n - 120, by omega⟩
  kernel_rfl
theorem is_103 {n : Nat} (hn : 60 ≤ n) : pendulumsee_Is n ((ErrV.sent 103, 103, ()), ()) = some ((true, ()), ()) := by
  obtain ⟨n, rfl⟩ : ∃ m, n = m + 60 := ⟨n - 60, by omega⟩
  kernel_rfl
theorem Number_at {n : Nat} (hn : 1 ≤ n) (x : Int) {m : Int} (hm : 0 < m) (hm2 : m < 1000000000) : world_Number n ((x, m, ()), ()) = some ((num x m, ()), ()) := by
  obtain ⟨n, rfl⟩ : ∃ m, n = m + 1 := ⟨n - 1, by omega⟩
  have := tmod_b x m hm
  simp only [world_Number]
  rw [if_neg (show ¬ (m = 0) by omega)]
  unfold num
  by_cases h : Int.tmod x m < 0
  · rw [if_pos (decide_eq_true h), if_pos h, w64_id (by omega) (by omega)]
  · rw [if_neg (by simpa using h), if_neg h]
theorem Num_at {n : Nat} (hn : 1 ≤ n) {x : Int} (h0 : 0 ≤ x) (h1 : x ≤ 1000000) : world_Num n ((x, ()), ()) = some ((itoaS x, ()), ()) := by
  obtain ⟨n, rfl⟩ : ∃ m, n = m + 1 := ⟨n - 1, by omega⟩
  have e : strconv_Itoa n ((x, ()), ()) = some ((itoaS x, ()), ()) := by
    show itoaSem _ = _
    unfold itoaSem
    rw [if_pos (show -9223372036854775808 ≤ x ∧ x ≤ 9223372036854775807 from ⟨by omega, by omega⟩)]
  simp only [world_Num, e]
def kn (i : Nat) : ByteArray := (⟨#[107, 101, 121]⟩ : ByteArray) ++ itoaS (i : Int)
abbrev more : ByteArray := ⟨#[109, 111, 114, 101]⟩
def valK (s : ByteArray) : Nat := (s.data.toList.drop 3).foldl (fun a c => a * 10 + (c.toNat - 48)) 0
theorem rows : (List.range 300).all (fun i => decide ((itoaS (i : Int)).size ≤ 3) && Nat.beq (valK (kn i)) i && !strEq (kn i) more) = true := by kernel_rfl
theorem row {i : Nat} (hi : i < 300) : (itoaS (i : Int)).size ≤ 3 ∧ valK (kn i) = i ∧ kn i ≠ more := by
  have := all_range rows hi
  simp only [Bool.and_eq_true, decide_eq_true_eq, Bool.not_eq_true'] at this
  refine ⟨this.1.1, Nat.eq_of_beq_eq_true this.1.2, fun h => ?_⟩
  have h2 := this.2
  rw [strEq_iff, decide_eq_true h] at h2
  cases h2
theorem kn_size {i : Nat} (hi : i < 300) : 3 ≤ (kn i).size ∧ (kn i).size ≤ 6 := by
  have := (row hi).1
  unfold kn
  rw [ByteArray.size_append, show (⟨#[107, 101, 121]⟩ : ByteArray).size = 3 from rfl]
  omega
theorem kn_inj {i j : Nat} (hi : i < 300) (hj : j < 300) (h : kn i = kn j) : i = j := by rw [← (row hi).2.1, ← (row hj).2.1, h]
theorem kn0 : kn 0 = (⟨#[107, 101, 121, 48]⟩ : ByteArray) := by kernel_rfl
abbrev vv : ByteArray := ⟨#[118]⟩
def recs (i : Nat) : List ChT := (List.range i).map fun j => (kn j, (vv, false))
def mm (i : Nat) : MM := (List.range i).map fun j => (kn j, vv)
theorem mm_keys (i : Nat) : keys (mm i) = (List.range i).map kn := by simp [keys, mm, Function.comp_def]
theorem mm_len (i : Nat) : (mm i).length = i := by simp [mm]
theorem recs_len (i : Nat) : (recs i).length = i := by simp [recs]
theorem mm_nodup {i : Nat} (hi : i ≤ 300) : (keys (mm i)).Nodup := by
  rw [mm_keys, List.Nodup, List.pairwise_map]
  have h0 : (List.range i).Pairwise (fun a b => a < b) := List.pairwise_lt_range
  refine List.Pairwise.imp_of_mem (fun {a b} ha hb hab e => ?_) h0
  have := kn_inj (by have := List.mem_range.1 ha; omega) (by have := List.mem_range.1 hb; omega) e
  omega
theorem more_out {i : Nat} (hi : i ≤ 300) : more ∉ keys (mm i) := fun h => by
  rw [mm_keys] at h
  obtain ⟨j, hj, e⟩ := List.mem_map.1 h
  exact (row (by have := List.mem_range.1 hj; omega)).2.2 e
theorem appl_recs : ∀ i, i ≤ 300 → appl [] (recs i) = mm i
  | 0, _ => rfl
  | i + 1, hi => by
    have e : recs (i + 1) = recs i ++ [(kn i, (vv, false))] := by unfold recs; rw [List.range_succ, List.map_append]; rfl
    have e2 : mm (i + 1) = mm i ++ [(kn i, vv)] := by unfold mm; rw [List.range_succ, List.map_append]; rfl
    have ih := appl_recs i (by omega)
    rw [e, e2]
    unfold appl at ih ⊢
    rw [List.foldl_append, ih]
    show mset ks (kn i) vv (mm i) = _
    refine mset_new (fun h => ?_)
    rw [mm_keys] at h
    obtain ⟨j, hj, e⟩ := List.mem_map.1 h
    have hj := List.mem_range.1 hj
    have := kn_inj (by omega) (by omega) e
    omega
theorem mm_small {i : Nat} (hi : i ≤ 300) : ∀ p ∈ mm i, 3 ≤ p.1.size ∧ p.1.size ≤ 6 ∧ p.2.size = 1 := by
  intro p hp
  obtain ⟨j, hj, rfl⟩ := List.mem_map.1 hp
  have hj := List.mem_range.1 hj
  have := kn_size (i := j) (by omega)
  exact ⟨this.1, this.2, rfl⟩
theorem equal_len {m1 m2 : MM} (h : m1.length ≠ m2.length) : equalM m1 m2 = false := by
  unfold equalM
  rw [decide_eq_false h]
  rfl
theorem equal_out {m1 m2 : MM} {p : ByteArray × ByteArray} (hp : p ∈ m1) (h : p.1 ∉ keys m2) : equalM m1 m2 = false := by
  unfold equalM
  rw [Bool.and_eq_false_iff]
  right
  rw [List.all_eq_false]
  refine ⟨p, hp, ?_⟩
  rw [mfind_out h]
  simp
theorem mset_in (k v : ByteArray) : ∀ m : MM, (k, v) ∈ mset ks k v m
  | [] => .head _
  | p :: m => by
    unfold mset
    split
    · exact .head _
    · exact .tail _ (mset_in k v m)
theorem wr_fl {S : Nat} {f : M} {L : Nat} (hf : Fl (S : Int) f L) {at_ : Nat} {q : Int} {b : List Int} (hr : at_ + secs b.length ≤ S) : Fl (S : Int) (wr f at_ q b) (L + secs b.length) := by
  refine ⟨fun x hx => ?_, ?_⟩
  · rcases merge_keys hx with h | h
    · exact hf.k x h
    · have := wp_keys at_ q b _ x h
      omega
  · have h1 := merge_len f (wp at_ q b (secs b.length))
    have h2 := wp_len at_ q b (secs b.length)
    have h3 := hf.len
    show (mergeM _ _).length ≤ _
    omega
/-- A small Commit where there is room. -/
theorem small {n : Nat} (hn : 60000 < n) {e1 : Nat} (he1 : e1 ≤ 2000) {c : Int} (hc : 0 ≤ c ∧ c < 10000) {q : Int} (hq : 0 ≤ q ∧ q < 100) {m : MM} (hm : MI m) {f : M} {L : Nat} (hf : Fl ((8192 : Nat) : Int) f L) (hL : L ≤ 10000) {l : List ChT} (hl : l.length ≤ 2) (hb : bad m l = none) (he : equalM (appl m l) m = false) :
    ∃ (e2 : Nat) (c2 : Int) (f2 : M) (L2 : Nat), e2 ≤ e1 + 600 ∧ (0 ≤ c2 ∧ c2 ≤ c + 700) ∧ Fl ((8192 : Nat) : Int) f2 L2 ∧ L2 ≤ L + 600 ∧
      jour_Store_Commit n (((), (), ()), (((), (), 0, (e1 : Int), q, ()), l, (((8192 : Nat) : Int), (), (), c, 0, false, ()), m, f, [], ())) =
        some (.inr (((ErrV.nil, ()), (((), (), 0, (e2 : Int), q + 1, ()), l, (((8192 : Nat) : Int), (), (), c2, 0, false, ()), m, f2, [], appl m l, ())))) := by
  have hok := (bad_none hb).1
  have hbl := by_len (kind := 1) (l := l) (fun c hc => (hok c hc).2)
  have hs : secs (by_ 1 l).length ≤ 600 := by
    unfold secs
    omega
  have hC := commit_new (n := n) (by omega) (S := 8192) (by omega) (c := c) (by omega) (h := 0) (e := (e1 : Int)) (q := q) (by omega) (.inr ⟨0, e1, by omega, rfl, rfl, by omega⟩) hm hf (by omega) (l := l) (by omega) hb he
  rw [if_pos ⟨by omega, by omega⟩, show ((e1 : Int) + (secs (by_ 1 l).length : Int)) = ((e1 + secs (by_ 1 l).length : Nat) : Int) by omega, Int.toNat_natCast] at hC
  exact ⟨e1 + secs (by_ 1 l).length, c + (secs (by_ 1 l).length : Int) + 1, wr f e1 (q + 1) (by_ 1 l), L + secs (by_ 1 l).length, by omega, ⟨by omega, by omega⟩, wr_fl hf (by omega), by omega, hC⟩
abbrev cMore : List ChT := [(more, ((⟨#[]⟩ : ByteArray), false))]
abbrev cLast : List ChT := [((⟨#[107, 101, 121, 48]⟩ : ByteArray), ((⟨#[]⟩ : ByteArray), true)), (more, ((⟨#[119]⟩ : ByteArray), false))]
theorem mdel_head (n : Nat) (r : MM) : mdel ks (⟨#[107, 101, 121, 48]⟩ : ByteArray) (mm (n + 1) ++ r) = (mm (n + 1)).tail ++ r := by
  have e : mm (n + 1) = (kn 0, vv) :: (mm (n + 1)).tail := by
    unfold mm
    rw [List.range_succ_eq_map]
    rfl
  rw [e]
  show mdel ks _ ((kn 0, vv) :: ((mm (n + 1)).tail ++ r)) = _
  unfold mdel
  rw [if_pos ((kq _ _).2 kn0.symm)]
  rfl
theorem first_commit {n : Nat} (hn : 100000 ≤ n) {i : Nat} (hi : i < 256) (hbad : bad [] (recs (i + 1)) = none) : ∃ (e1 : Nat) (c1 : Int) (f1 : M) (L1 : Nat), e1 ≤ 100 ∧ (0 ≤ c1 ∧ c1 ≤ 200) ∧ Fl ((8192 : Nat) : Int) f1 L1 ∧ L1 ≤ 100 ∧
    jour_Store_Commit n (((), (), ()), (((), (), (-1), 0, 0, ()), recs (i + 1), (((8192 : Nat) : Int), (), (), 0, 0, false, ()), [], [], [], ())) = some (.inr (((ErrV.nil, ()), (((), (), 0, (e1 : Int), 1, ()), recs (i + 1), (((8192 : Nat) : Int), (), (), c1, 0, false, ()), [], f1, [], mm (i + 1), ())))) := by
  have hap := appl_recs (i + 1) (by omega)
  have hrl := recs_len (i + 1)
  have hml := mm_len (i + 1)
  have hMI0 : MI [] := ⟨by simp, by simp⟩
  have hC := commit_new (n := n) (by omega) (S := 8192) (by omega) (c := 0) (by omega) (h := -1) (e := 0) (q := 0) (by omega) (.inl rfl) hMI0 (f := []) (L := 0) ⟨by simp, by simp⟩ (by omega) (l := recs (i + 1)) (by omega) hbad (by rw [hap]; exact equal_len (by rw [hml]; simp))
  have hlen : secs (by_ 0 (dump (mm (i + 1)))).length ≤ 100 := by
    have k1 := (enc_len 0).2
    have k2 := (enc_len ((dump (mm (i + 1))).length : Int)).2
    have hd := dump_len (mm (i + 1))
    have h3 := flat_len chE 40 (dump (mm (i + 1))) (fun c hc => by
      unfold dump at hc
      obtain ⟨k, hk, rfl⟩ := List.mem_map.1 hc
      obtain ⟨p, hp, rfl⟩ := List.mem_map.1 ((sortS_perm _).mem_iff.1 hk)
      have t1 := txt_len p.1
      have t2 := txt_len (getM (mm (i + 1)) p.1)
      have z1 := mm_small (i := i + 1) (by omega) p hp
      have z2 : (getM (mm (i + 1)) p.1).size ≤ 1 := by
        unfold getM
        cases e : mfind ks p.1 (mm (i + 1)) with
        | none => exact Nat.zero_le _
        | some v => exact Nat.le_of_eq (mm_small (i := i + 1) (by omega) _ (mfind_mem e)).2.2
      show ((txt p.1 ++ enc 0) ++ txt (getM (mm (i + 1)) p.1)).length ≤ _
      simp only [List.length_append]
      omega)
    have : (by_ 0 (dump (mm (i + 1)))).length ≤ 20 + 40 * 256 := by
      simp only [by_, List.length_append]
      omega
    unfold secs
    omega
  rw [hap, if_neg (fun hh => absurd hh.1 (by decide)), if_pos (by omega)] at hC
  refine ⟨0 + secs (by_ 0 (dump (mm (i + 1)))).length, 0 + (secs (by_ 0 (dump (mm (i + 1)))).length : Int) + 1, wr [] 0 1 (by_ 0 (dump (mm (i + 1)))), 0 + secs (by_ 0 (dump (mm (i + 1)))).length, by omega, ⟨by omega, by omega⟩, wr_fl ⟨by simp, by simp⟩ (by omega), by omega, ?_⟩
  have e0 : nextH (-1) * (8192 / 2) + secs (by_ 0 (dump (mm (i + 1)))).length = 0 + secs (by_ 0 (dump (mm (i + 1)))).length := by rw [show nextH (-1) = 0 from rfl]
  rw [e0] at hC
  exact hC
theorem l10_at {n : Nat} (hn : 100000 ≤ n) {i : Nat} (hi : i < 300) : law4_JourMany_l10 n n ((((i + 1 : Nat) : Int), true, (), (), ((0 : Nat) : Int), ()), (((), (), (-1), 0, 0, ()), recs 0, (((8192 : Nat) : Int), (), (), 0, 0, false, ()), ([] : MM), ([] : M), ([] : M), ())) = some (.inl ((((i + 1 : Nat) : Int), true, (), (), ()), (((), (), (-1), 0, 0, ()), recs (i + 1), (((8192 : Nat) : Int), (), (), 0, 0, false, ()), [], [], [], ()))) := by
  have step : ∀ (j k : Nat), j < i + 1 → law4_JourMany_l10 n (k + 1) ((((i + 1 : Nat) : Int), true, (), (), (j : Int), ()), (((), (), (-1), 0, 0, ()), recs j, (((8192 : Nat) : Int), (), (), 0, 0, false, ()), ([] : MM), ([] : M), ([] : M), ())) = law4_JourMany_l10 n k ((((i + 1 : Nat) : Int), true, (), (), ((j + 1 : Nat) : Int), ()), (((), (), (-1), 0, 0, ()), recs (j + 1), (((8192 : Nat) : Int), (), (), 0, 0, false, ()), ([] : MM), ([] : M), ([] : M), ())) := fun j k hj => by
    have hs := (row (i := j) (by omega)).1
    have hsz : (⟨#[107, 101, 121]⟩ : ByteArray).size = 3 := rfl
    have hrl := recs_len j
    rw [law4_JourMany_l10, if_pos (decide_eq_true (show (j : Int) < ((i + 1 : Nat) : Int) by omega)), Num_at (x := (j : Int)) (by omega) (by omega) (by omega)]
    show (if (⟨#[107, 101, 121]⟩ : ByteArray).size + (itoaS (j : Int)).size ≤ 9223372036854775807 then _ else _) = _
    rw [if_pos (by rw [hsz]; omega), if_pos (by rw [hrl]; simp only [List.length_cons, List.length_nil]; omega), w64_up j (by omega)]
    have e : recs (j + 1) = recs j ++ [(kn j, (vv, false))] := by unfold recs; rw [List.range_succ, List.map_append]; rfl
    rw [e]
    rfl
  have last : ∀ k, law4_JourMany_l10 n (k + 1) ((((i + 1 : Nat) : Int), true, (), (), ((i + 1 : Nat) : Int), ()), (((), (), (-1), 0, 0, ()), recs (i + 1), (((8192 : Nat) : Int), (), (), 0, 0, false, ()), ([] : MM), ([] : M), ([] : M), ())) = some (.inl ((((i + 1 : Nat) : Int), true, (), (), ()), (((), (), (-1), 0, 0, ()), recs (i + 1), (((8192 : Nat) : Int), (), (), 0, 0, false, ()), [], [], [], ()))) := fun k => by
    rw [law4_JourMany_l10, if_neg (by simp)]
  exact for_all (F := law4_JourMany_l10 n) (len := i + 1) (fun j => ((((i + 1 : Nat) : Int), true, (), (), (j : Int), ()), (((), (), (-1), 0, 0, ()), recs j, (((8192 : Nat) : Int), (), (), 0, 0, false, ()), ([] : MM), ([] : M), ([] : M), ()))) step last (k := n) (by omega)
theorem JourMany : law4_JourMany.Pure := by
  intro x gx
  refine ⟨100000 + 1, ?_⟩
  generalize hn : (100000 : Nat) = n
  have hn : 100000 ≤ n := by omega
  obtain ⟨i, hi, hnum⟩ := num_nat x (m := 300) (by omega)
  have hNum : world_Number n ((x, 300, ()), ()) = some (((i : Int), ()), ()) := by rw [Number_at (by omega) x (by omega) (by omega), hnum]
  have hOp : law4_opened n ((8192, ()), ()) = _ := opened_at (n := n) (S := 8192) ⟨by omega, by omega⟩ (by omega)
  rw [law4_JourMany, first_at (n := n) (by omega), hNum, hOp]
  conv => lhs; whnf
  rw [w64_up i (by omega)]
  have hl10 := l10_at hn (i := i) (by omega)
  rw [show law4_JourMany_l10 n n ((((i + 1 : Nat) : Int), true, (), (), 0, ()), (((), (), (-1), 0, 0, ()), [], (((8192 : Nat) : Int), (), (), 0, 0, false, ()), [], [], [], ())) = _ from hl10]
  conv => lhs; whnf
  have hap := appl_recs (i + 1) (by omega)
  have hrl := recs_len (i + 1)
  have hml := mm_len (i + 1)
  have ha : (recs (i + 1)).all okK = true := by
    rw [List.all_eq_true]
    intro c hc
    obtain ⟨j, hj, rfl⟩ := List.mem_map.1 hc
    have := kn_size (i := j) (by have := List.mem_range.1 hj; omega)
    unfold okK
    rw [decide_eq_true (by show 1 ≤ (kn j).size; omega), decide_eq_true (by show (kn j).size ≤ 40; omega)]
    rfl
  have hb : (recs (i + 1)).all okV = true := by
    rw [List.all_eq_true]
    intro c hc
    obtain ⟨j, hj, rfl⟩ := List.mem_map.1 hc
    rfl
  have hMI0 : MI [] := ⟨by simp, by simp⟩
  by_cases hbig : 256 < i + 1
  · have hbad : bad [] (recs (i + 1)) = some 103 := by
      unfold bad
      rw [if_neg (by rw [ha]; decide), if_neg (by rw [hb]; decide), hap, hml, if_pos hbig]
    rw [commit_bad (n := n) (by omega) (S := 8192) (by omega) hbad]
    show (if decide (((i + 1 : Nat) : Int) > 256) = true then _ else _) = _
    rw [if_pos (decide_eq_true (show ((i + 1 : Nat) : Int) > 256 by omega))]
    conv => lhs; whnf
    rw [is_103 (by omega)]
    conv => lhs; whnf
    have hK : jour_Store_Keys n (((), ()), (((), (), (-1), 0, 0, ()), (((8192 : Nat) : Int), (), (), 0, 0, false, ()), ([] : MM), ([] : M), ([] : M), ())) = some (((), ()), (((), (), (-1), 0, 0, ()), (((8192 : Nat) : Int), (), (), 0, 0, false, ()), [], [], [], [], ())) := by
      obtain ⟨n, rfl⟩ : ∃ k, n = k + 2 := ⟨n - 2, by omega⟩
      have hK0 : maps_Keys_map_string_string_string_string (n + 1) (((), ()), (([] : MM), ())) = some (((), ()), ([], ((), ()), ())) := rfl
      simp only [jour_Store_Keys, hK0, sorted_at hMI0]
      rfl
    rw [hK]
    rfl
  · have hbad : bad [] (recs (i + 1)) = none := by
      unfold bad
      rw [if_neg (by rw [ha]; decide), if_neg (by rw [hb]; decide), hap, hml, if_neg hbig]
    have hMI : MI (mm (i + 1)) := ⟨by omega, fun p hp => by have := mm_small (i := i + 1) (by omega) p hp; omega⟩
    obtain ⟨e1, c1, f1, L1, b1, b2, b3, b4, hC1⟩ := first_commit hn (i := i) (by omega) hbad
    rw [hC1]
    show (if decide (((i + 1 : Nat) : Int) > 256) = true then _ else _) = _
    rw [if_neg (by simp; omega)]
    -- the second
    have hokM : cMore.all okK = true := rfl
    have hvM : cMore.all okV = true := rfl
    have hapM : appl (mm (i + 1)) cMore = mm (i + 1) ++ [(more, (⟨#[]⟩ : ByteArray))] := mset_new (more_out (by omega))
    have hokL : cLast.all okK = true := rfl
    have hvL : cLast.all okV = true := rfl
    have htl : (mm (i + 1)).tail.length = i := by rw [List.length_tail, hml]; rfl
    by_cases h256 : i + 1 = 256
    · have hbadM : bad (mm (i + 1)) cMore = some 103 := by
        unfold bad
        rw [if_neg (by rw [hokM]; decide), if_neg (by rw [hvM]; decide), hapM, if_pos (by rw [List.length_append, hml, h256]; decide)]
      rw [commit_bad (n := n) (by omega) (S := 8192) (by decide) hbadM]
      show (if (!(false == decide (((i + 1 : Nat) : Int) < 256))) = true then _ else _) = _
      rw [if_neg (by rw [h256]; decide)]
      conv => lhs; whnf
      have hapL : appl (mm (i + 1)) cLast = mset ks more (⟨#[119]⟩ : ByteArray) (mm (i + 1)).tail := by
        have := mdel_head i []
        rw [List.append_nil, List.append_nil] at this
        show mset ks more _ (mdel ks _ (mm (i + 1))) = _
        rw [this]
      have hout : more ∉ keys (mm (i + 1)).tail := fun h => more_out (i := i + 1) (by omega) (by
        obtain ⟨p, hp, e⟩ := List.mem_map.1 h
        exact List.mem_map.2 ⟨p, List.mem_of_mem_tail hp, e⟩)
      have hlenL : (appl (mm (i + 1)) cLast).length = i + 1 := by
        rw [hapL, show mset ks more (⟨#[119]⟩ : ByteArray) (mm (i + 1)).tail = _ from mset_new hout, List.length_append, htl]
        rfl
      have hbadL : bad (mm (i + 1)) cLast = none := by
        unfold bad
        rw [if_neg (by rw [hokL]; decide), if_neg (by rw [hvL]; decide), hlenL, if_neg hbig]
      have heL : equalM (appl (mm (i + 1)) cLast) (mm (i + 1)) = false := by
        rw [hapL]
        exact equal_out (mset_in more _ _) (more_out (by omega))
      obtain ⟨e2, c2, f2, L2, -, -, -, -, hC2⟩ := small (n := n) (by omega) (e1 := e1) (by omega) (c := c1) (by omega) (q := 1) (by omega) hMI b3 (by omega) (l := cLast) (by decide) hbadL heL
      rw [hC2]
      rfl
    · have hbadM : bad (mm (i + 1)) cMore = none := by
        unfold bad
        rw [if_neg (by rw [hokM]; decide), if_neg (by rw [hvM]; decide), hapM, if_neg (by rw [List.length_append, hml]; simp only [List.length_cons, List.length_nil]; omega)]
      have heM : equalM (appl (mm (i + 1)) cMore) (mm (i + 1)) = false := by
        rw [hapM]
        exact equal_len (by rw [List.length_append, hml]; simp)
      obtain ⟨e2, c2, f2, L2, d1, d2, d3, d4, hC2⟩ := small (n := n) (by omega) (e1 := e1) (by omega) (c := c1) (by omega) (q := 1) (by omega) hMI b3 (by omega) (l := cMore) (by decide) hbadM heM
      rw [hC2]
      show (if (!(true == decide (((i + 1 : Nat) : Int) < 256))) = true then _ else _) = _
      rw [if_neg (by rw [decide_eq_true (show ((i + 1 : Nat) : Int) < 256 by omega)]; decide)]
      conv => lhs; whnf
      rw [hapM]
      have hMI2 : MI (mm (i + 1) ++ [(more, (⟨#[]⟩ : ByteArray))]) := by rw [← hapM]; exact hMI.appl hbadM
      have hapL : appl (mm (i + 1) ++ [(more, (⟨#[]⟩ : ByteArray))]) cLast = mset ks more (⟨#[119]⟩ : ByteArray) ((mm (i + 1)).tail ++ [(more, (⟨#[]⟩ : ByteArray))]) := by
        show mset ks more _ (mdel ks _ (mm (i + 1) ++ _)) = _
        rw [mdel_head]
      have hlenL : (appl (mm (i + 1) ++ [(more, (⟨#[]⟩ : ByteArray))]) cLast).length = i + 1 := by
        have h0 : (keys (mset ks more (⟨#[119]⟩ : ByteArray) ((mm (i + 1)).tail ++ [(more, (⟨#[]⟩ : ByteArray))]))).length = i + 1 := by
          rw [mset_keys2, if_pos (by simp [keys])]
          simp only [keys, List.length_map, List.length_append, htl]
          rfl
        rw [hapL]
        simpa [keys] using h0
      have hbadL : bad (mm (i + 1) ++ [(more, (⟨#[]⟩ : ByteArray))]) cLast = none := by
        unfold bad
        rw [if_neg (by rw [hokL]; decide), if_neg (by rw [hvL]; decide), hlenL, if_neg hbig]
      have heL : equalM (appl (mm (i + 1) ++ [(more, (⟨#[]⟩ : ByteArray))]) cLast) (mm (i + 1) ++ [(more, (⟨#[]⟩ : ByteArray))]) = false := by
        refine equal_len ?_
        rw [hlenL, List.length_append, hml]
        simp
      obtain ⟨e3, c3, f3, L3, -, -, -, -, hC3⟩ := small (n := n) (by omega) (e1 := e2) (by omega) (c := c2) (by omega) (q := 1 + 1) (by omega) hMI2 d3 (by omega) (l := cLast) (by decide) hbadL heL
      rw [hC3]
      rfl
end Go.Proofs.YthliipenkikefaaGreatDoor.Pure

/- JourNothing, in plain words: what changes nothing, and what may not be, writes nothing. By this session. -/
import Derived.Test.YthliipenkikefaaGreatDoorJourNothingD
namespace Go.Proofs.YthliipenkikefaaGreatDoor.Pure
open Go Go.Lib Go.Proofs.YthliipenkikefaaGreatDoor.Cm
set_option linter.unusedVariables false
set_option linter.unusedSimpArgs false
set_option maxRecDepth 100000
theorem first_at {n : Nat} (hn : 200 ≤ n) : law4_first n ((), ()) = some ((true, ()), ()) := by
  obtain ⟨n, rfl⟩ : ∃ m, n = m + 120 := ⟨n - 120, by omega⟩
  kernel_rfl
theorem is_nil {n : Nat} (hn : 60 ≤ n) : pendulumsee_Is n ((ErrV.nil, 0, ()), ()) = some ((true, ()), ()) := by
  obtain ⟨n, rfl⟩ : ∃ m, n = m + 60 := ⟨n - 60, by omega⟩
  kernel_rfl
theorem is_104 {n : Nat} (hn : 60 ≤ n) : pendulumsee_Is n ((ErrV.sent 104, 104, ()), ()) = some ((true, ()), ()) := by
  obtain ⟨n, rfl⟩ : ∃ m, n = m + 60 := ⟨n - 60, by omega⟩
  kernel_rfl
theorem is_103 {n : Nat} (hn : 60 ≤ n) : pendulumsee_Is n ((ErrV.sent 103, 103, ()), ()) = some ((true, ()), ()) := by
  obtain ⟨n, rfl⟩ : ∃ m, n = m + 60 := ⟨n - 60, by omega⟩
  kernel_rfl
theorem Number_at {n : Nat} (hn : 1 ≤ n) (x : Int) {m : Int} (hm : 0 < m) (hm2 : m < 1000000000) : world_Number n ((x, m, ()), ()) = some ((num x m, ()), ()) := by
  obtain ⟨n, rfl⟩ : ∃ m, n = m + 1 := ⟨n - 1, by omega⟩
  have := tmod_b x m hm
  simp only [world_Number]
  rw [if_neg (show ¬ (m = 0) by omega)]
  unfold num
  by_cases h : Int.tmod x m < 0
  · rw [if_pos (decide_eq_true h), if_pos h, w64_id (by omega) (by omega)]
  · rw [if_neg (by simpa using h), if_neg h]
theorem ks_self (k : ByteArray) : ks k k = true := (keyS_true k k).2 rfl
theorem mfind_one (k v : ByteArray) : mfind ks k [(k, v)] = some v := by
  unfold mfind
  rw [if_pos (ks_self k)]
theorem strEq_self (x : ByteArray) : strEq x x = true := by rw [strEq_iff]; exact decide_eq_true rfl
theorem equal_one (k v : ByteArray) : equalM [(k, v)] [(k, v)] = true := by
  unfold equalM
  rw [List.all_cons, List.all_nil, show mfind (keyEq (.str : Ty)) (k, v).1 [(k, v)] = some v from mfind_one k v]
  simp [strEq_self]
/-- The store with one record. -/
theorem one_at {n : Nat} (hn : 60000 < n) {key value : ByteArray} (h1 : 1 ≤ key.size) (h2 : key.size ≤ 40) (h3 : value.size ≤ 300) :
    ∃ (e c : Int) (f : M), 0 ≤ c ∧ jour_Store_Commit n (((), (), ()), (((), (), (-1), 0, 0, ()), [(key, (value, false))], (300, (), (), 0, 0, false, ()), [], [], [], ())) = some (.inr (((ErrV.nil, ()), (((), (), 0, e, 1, ()), [(key, (value, false))], (300, (), (), c, 0, false, ()), [], f, [], [(key, value)], ())))) := by
  have hap : appl [] [(key, (value, false))] = [(key, value)] := rfl
  have hb : bad [] [(key, (value, false))] = none := by
    unfold bad
    rw [hap]
    have a : [(key, (value, false))].all okK = true := by simp [okK, h1, h2]
    have b : [(key, (value, false))].all okV = true := by simp [okV]; omega
    rw [if_neg (by rw [a]; decide), if_neg (by rw [b]; decide), if_neg (by simp)]
  have he : equalM (appl [] [(key, (value, false))]) [] = false := by rw [hap]; rfl
  have hd : dump [(key, value)] = [(key, (value, false))] := by
    show [(key, getM [(key, value)] key, false)] = _
    unfold getM
    rw [mfind_one]
    rfl
  have hlen : secs (by_ 0 (dump [(key, value)])).length ≤ 4 := by
    rw [hd]
    have k1 := (enc_len 0).2
    have k2 := (enc_len (([(key, (value, false))] : List ChT).length : Int)).2
    have t1 := txt_len key
    have t2 := txt_len value
    have : (by_ 0 [(key, (value, false))]).length ≤ 390 := by
      show ((enc 0 ++ enc _) ++ ([(key, (value, false))] : List ChT).flatMap chE).length ≤ _
      simp only [List.flatMap_cons, List.flatMap_nil, List.length_append, List.length_nil]
      have : (chE (key, (value, false))).length ≤ 370 := by
        show ((txt key ++ enc 0) ++ txt value).length ≤ _
        simp only [List.length_append]
        omega
      omega
    unfold secs
    omega
  have hC := commit_new (n := n) (by omega) (S := 300) (by omega) (c := 0) (by omega) (h := -1) (e := 0) (q := 0) (by omega) (.inl rfl) (m := []) ⟨by simp, by simp⟩ (f := []) (L := 0) ⟨by simp, by simp⟩ (by omega) (l := [(key, (value, false))]) (by simp) hb he
  rw [hap] at hC
  rw [if_neg (fun hh => absurd hh.1 (by decide)), if_pos (by omega)] at hC
  exact ⟨_, _, _, by omega, hC⟩
theorem ofNums_size (xs : List Int) : (strOfNums xs).size = xs.length := by
  unfold strOfNums
  simp [ByteArray.size]
theorem zeros_size : (strOfNums (List.replicate (32769 : Int).toNat 0)).size = 32769 := by
  rw [ofNums_size, List.length_replicate]
  rfl
theorem JourNothing : law4_JourNothing.Pure := by
  intro key value what gk gv gw
  refine ⟨100000 + 1, ?_⟩
  generalize hn : (100000 : Nat) = n
  have hn : 100000 ≤ n := by omega
  simp only [law4_JourNothing, first_at (n := n) (by omega)]
  rw [if_neg (by simp)]
  by_cases h1 : (key.size : Int) < 1
  · rw [if_pos (decide_eq_true h1)]
  rw [if_neg (by simpa using h1)]
  by_cases h2 : (key.size : Int) > 40
  · rw [if_pos (decide_eq_true h2)]
  rw [if_neg (by simpa using h2)]
  by_cases h3 : (value.size : Int) > 300
  · rw [if_pos (decide_eq_true h3)]
  rw [if_neg (by simpa using h3), if_neg (by simp)]
  rw [show law4_opened n ((300, ()), ()) = _ from opened_at (n := n) (S := 300) ⟨by omega, by omega⟩ (by omega)]
  simp only []
  obtain ⟨e, c, f, hc0, hone⟩ := one_at (n := n) (by omega) (key := key) (value := value) (by omega) (by omega) (by omega)
  have h9 : law4_JourNothing_c9 n ((key, value, what, (), (), ()), (((), (), (-1), 0, 0, ()), (300, (), (), 0, 0, false, ()), [], [], [], ())) = some (.inl ((key, value, what, (), (), ()), (((), (), 0, e, 1, ()), (300, (), (), c, 0, false, ()), [(key, value)], f, [], ()))) := by
    simp only [law4_JourNothing_c9]
    rw [hone]
    rfl
  rw [show law4_JourNothing_c9 n ((key, value, what, (), (), ()), (((), (), (-1), 0, 0, ()), (((300 : Nat) : Int), (), (), 0, 0, false, ()), [], [], [], ())) = _ from h9]
  simp only []
  have hcalls : ∀ (h e q S c : Int) (m : MM) (f p : M), disk_Disk_Calls n (((), ()), ((S, (), (), c, 0, false, ()), f, p, ())) = some ((c, ()), ((S, (), (), c, 0, false, ()), f, p, ())) := fun h e q S c m f p => by
    obtain ⟨n, rfl⟩ : ∃ k, n = k + 1 := ⟨n - 1, by omega⟩
    rfl
  rw [hcalls 0 0 0 _ _ []]
  simp only []
  have hMI : MI [(key, value)] := ⟨by simp, by simp; omega⟩
  -- the second one
  have second : ∃ (l : List ChT) (want : Int), law4_JourNothing_c25 n ((key, value, what, (), (), c, 0, (), ()), (((), (), 0, e, 1, ()), (300, (), (), c, 0, false, ()), [(key, value)], f, [], ())) = some (.inl ((key, value, (), (), c, want, (), ()), (((), (), 0, e, 1, ()), (300, (), (), c, 0, false, ()), l, [(key, value)], f, [], ()))) ∧
      ∃ er, jour_Store_Commit n (((), (), ()), (((), (), 0, e, 1, ()), l, (300, (), (), c, 0, false, ()), [(key, value)], f, [], ())) = some (.inl ((er, ()), (((), (), 0, e, 1, ()), l, (300, (), (), c, 0, false, ()), [(key, value)], f, [], ()))) ∧ pendulumsee_Is n ((er, want, ()), ()) = some ((true, ()), ()) := by
    have fine : ∀ l : List ChT, l.length ≤ 1000 → bad [(key, value)] l = none → appl [(key, value)] l = [(key, value)] → ∃ er, jour_Store_Commit n (((), (), ()), (((), (), 0, e, 1, ()), l, (300, (), (), c, 0, false, ()), [(key, value)], f, [], ())) = some (.inl ((er, ()), (((), (), 0, e, 1, ()), l, (300, (), (), c, 0, false, ()), [(key, value)], f, [], ()))) ∧ pendulumsee_Is n ((er, 0, ()), ()) = some ((true, ()), ()) := fun l hl hb ha =>
      ⟨_, commit_same (n := n) (by omega) (S := 300) hMI hl hb (by rw [ha]; exact equal_one key value), is_nil (by omega)⟩
    have bad4 : ∀ l : List ChT, l.length ≤ 1000 → bad [(key, value)] l = some 104 → ∃ er, jour_Store_Commit n (((), (), ()), (((), (), 0, e, 1, ()), l, (300, (), (), c, 0, false, ()), [(key, value)], f, [], ())) = some (.inl ((er, ()), (((), (), 0, e, 1, ()), l, (300, (), (), c, 0, false, ()), [(key, value)], f, [], ()))) ∧ pendulumsee_Is n ((er, 104, ()), ()) = some ((true, ()), ()) := fun l hl hb =>
      ⟨_, commit_bad (n := n) (by omega) (S := 300) hl hb, is_104 (by omega)⟩
    have bad3 : ∀ l : List ChT, l.length ≤ 1000 → bad [(key, value)] l = some 103 → ∃ er, jour_Store_Commit n (((), (), ()), (((), (), 0, e, 1, ()), l, (300, (), (), c, 0, false, ()), [(key, value)], f, [], ())) = some (.inl ((er, ()), (((), (), 0, e, 1, ()), l, (300, (), (), c, 0, false, ()), [(key, value)], f, [], ()))) ∧ pendulumsee_Is n ((er, 103, ()), ()) = some ((true, ()), ()) := fun l hl hb =>
      ⟨_, commit_bad (n := n) (by omega) (S := 300) hl hb, is_103 (by omega)⟩
    obtain ⟨i, hi, hnum⟩ := num_nat what (m := 5) (by omega)
    simp only [law4_JourNothing_c25]
    rw [Number_at (by omega) what (by omega) (by omega), hnum]
    simp only []
    have hx : (key ++ (⟨#[120]⟩ : ByteArray)).size = key.size + 1 := by rw [ByteArray.size_append]; rfl
    have hi5 : i = 0 ∨ i = 1 ∨ i = 2 ∨ i = 3 ∨ i = 4 := by omega
    rcases hi5 with rfl | rfl | rfl | rfl | rfl
    · rw [if_neg (by decide), if_neg (by decide), if_neg (by decide), if_neg (by decide)]
      exact ⟨_, _, rfl, fine [] (by simp) (by rfl) rfl⟩
    · rw [if_pos (by decide)]
      refine ⟨_, _, rfl, fine [(key, (value, false))] (by simp) ?_ ?_⟩
      · have ha : appl [(key, value)] [(key, (value, false))] = [(key, value)] := by
          show mset ks key value [(key, value)] = _
          unfold mset
          rw [if_pos (ks_self key)]
        unfold bad
        rw [ha]
        have a : [(key, (value, false))].all okK = true := by simp [okK]; omega
        have b : [(key, (value, false))].all okV = true := by simp [okV]; omega
        rw [if_neg (by rw [a]; decide), if_neg (by rw [b]; decide), if_neg (by simp)]
      · show mset ks key value [(key, value)] = _
        unfold mset
        rw [if_pos (ks_self key)]
    · rw [if_neg (by decide), if_pos (by decide), if_pos (by show key.size + 1 ≤ _; omega)]
      by_cases h40 : key.size = 40
      · rw [if_pos (by simp [h40])]
        refine ⟨_, _, rfl, bad4 _ (by simp) ?_⟩
        unfold bad
        have a : ([(key ++ (⟨#[120]⟩ : ByteArray), ((⟨#[]⟩ : ByteArray), true))] : List ChT).all okK = false := by
          simp only [List.all_cons, List.all_nil, okK, hx, h40]
          rfl
        rw [if_pos a]
      · rw [if_neg (by simp; omega)]
        have hne : ¬ ks (key ++ (⟨#[120]⟩ : ByteArray)) key = true := fun h => by
          have := (keyS_true _ _).1 h
          have h4 := congrArg ByteArray.size this
          rw [hx] at h4
          omega
        have ha : appl [(key, value)] [(key ++ (⟨#[120]⟩ : ByteArray), ((⟨#[]⟩ : ByteArray), true))] = [(key, value)] := by
          show mdel ks (key ++ (⟨#[120]⟩ : ByteArray)) [(key, value)] = _
          unfold mdel
          rw [if_neg hne]
          rfl
        refine ⟨_, _, rfl, fine _ (by simp) ?_ ha⟩
        unfold bad
        rw [ha]
        have a : ([(key ++ (⟨#[120]⟩ : ByteArray), ((⟨#[]⟩ : ByteArray), true))] : List ChT).all okK = true := by
          simp only [List.all_cons, List.all_nil, okK, hx, Bool.and_true]
          rw [decide_eq_true (by omega), decide_eq_true (by omega)]
          rfl
        have b : ([(key ++ (⟨#[120]⟩ : ByteArray), ((⟨#[]⟩ : ByteArray), true))] : List ChT).all okV = true := rfl
        rw [if_neg (by rw [a]; decide), if_neg (by rw [b]; decide), if_neg (by simp)]
    · rw [if_neg (by decide), if_neg (by decide), if_pos (by decide)]
      exact ⟨_, _, rfl, bad4 _ (by simp) rfl⟩
    · rw [if_neg (by decide), if_neg (by decide), if_neg (by decide), if_pos (by decide), if_pos ⟨by omega, by omega, by omega, by omega⟩]
      have hz := zeros_size
      generalize strOfNums (List.replicate (32769 : Int).toNat 0) = z at hz ⊢
      refine ⟨_, _, rfl, bad3 _ (by simp) ?_⟩
      unfold bad
      have a : ([((⟨#[97]⟩ : ByteArray), (z, false))] : List ChT).all okK = true := rfl
      have b : ([((⟨#[97]⟩ : ByteArray), (z, false))] : List ChT).all okV = false := by
        simp only [List.all_cons, List.all_nil, okV, hz]
        rfl
      rw [if_neg (by rw [a]; decide), if_pos b]
  obtain ⟨l, want, h25, er, hC, hIs⟩ := second
  rw [show law4_JourNothing_c25 n ((key, value, what, (), (), c, 0, (), ()), (((), (), 0, e, 1, ()), (300, (), (), c, 0, false, ()), [(key, value)], f, [], ())) = _ from h25]
  simp only []
  rw [hC]
  simp only []
  have hG : jour_Store_Get n (((), key, ()), (((), (), 0, e, 1, ()), (300, (), (), c, 0, false, ()), [(key, value)], f, ([] : M), ())) = some ((((value, ()), (true, ()), ()), ()), (((), (), 0, e, 1, ()), (300, (), (), c, 0, false, ()), [(key, value)], f, [], ())) := by
    obtain ⟨n, rfl⟩ : ∃ k, n = k + 1 := ⟨n - 1, by omega⟩
    simp only [jour_Store_Get]
    rw [show mfind (keyEq (.str : Ty)) key [(key, value)] = some value from mfind_one key value]
    rfl
  have hK : jour_Store_Keys n (((), ()), (((), (), 0, e, 1, ()), (300, (), (), c, 0, false, ()), [(key, value)], f, ([] : M), ())) = some (((), ()), (((), (), 0, e, 1, ()), (300, (), (), c, 0, false, ()), [(key, value)], f, [], [key], ())) := by
    obtain ⟨n, rfl⟩ : ∃ k, n = k + 2 := ⟨n - 2, by omega⟩
    have hK0 : maps_Keys_map_string_string_string_string (n + 1) (((), ()), ([(key, value)], ())) = some (((), ()), ([(key, value)], ((), ()), ())) := rfl
    simp only [jour_Store_Keys, hK0, sorted_at hMI]
    rfl
  rw [hG]
  simp only []
  rw [hIs]
  simp only []
  rw [if_pos trivial, hcalls 0 0 0 _ _ []]
  simp only []
  rw [if_pos (by simp), if_pos trivial, strEq_self, if_pos rfl, hK]
  rfl
end Go.Proofs.YthliipenkikefaaGreatDoor.Pure

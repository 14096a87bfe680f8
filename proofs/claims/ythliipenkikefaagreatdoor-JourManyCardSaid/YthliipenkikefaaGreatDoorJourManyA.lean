/- A store's sectors, written, in plain words. By this session. -/
import Derived.Test.YthliipenkikefaaGreatDoorJourManyW
namespace Go.Proofs.YthliipenkikefaaGreatDoor.Pure
open Go Go.Lib Go.Proofs.YthliipenkikefaaGreatDoor.Cm
set_option linter.unusedVariables false
set_option linter.unusedSimpArgs false
set_option maxRecDepth 100000
abbrev M := List (Int × List Int)
abbrev MM := List (ByteArray × ByteArray)
abbrev ki : Int → Int → Bool := keyEq (.int .i64)
/-- The lowest bytes of a number. -/
def numB (x : Int) (k : Nat) : List Int := (List.range k).map fun (i : Nat) => IntKind.u8.wrap (shrOp .i64 x (8 * (i : Int)))
theorem numB_len (x : Int) (k : Nat) : (numB x k).length = k := by simp [numB]
theorem number_at {n : Nat} (x : Int) (k : Nat) (hk : k ≤ 8) (hn : k + 2 ≤ n) (l : List Int) (hl : l.length < 1000000) : jour_number n (((), x, (k : Int), ()), (l, ())) = some (((), ()), ((), l ++ numB x k, ())) := by
  obtain ⟨n, rfl⟩ : ∃ m, n = m + 1 := ⟨n - 1, by omega⟩
  have h := for_all (F := jour_number_l2 n) (len := k) (fun i => (((), x, (k : Int), (i : Int), ()), ((), l ++ (List.range i).map (fun (i : Nat) => IntKind.u8.wrap (shrOp .i64 x (8 * (i : Int)))), ()))) (r := some (.inl (((), ()), ((), l ++ numB x k, ())))) (fun i q hi => by
    have hw : IntKind.i64.wrap (8 * (i : Int)) = 8 * (i : Int) := w64_id (by omega) (by omega)
    simp only [jour_number_l2]
    rw [if_pos (decide_eq_true (show (i : Int) < (k : Int) by omega)), hw, if_neg (show ¬ (8 * (i : Int) < 0) by omega), if_pos (by simp only [List.length_append, List.length_map, List.length_range, List.length_cons, List.length_nil]; omega), w64_up i (by omega), List.range_succ, List.map_append, List.append_assoc]
    rfl) (fun q => by
    simp only [jour_number_l2]
    rw [if_neg (by simp)]
    rfl) (k := n) (by omega)
  simp only [List.range_zero, List.map_nil, List.append_nil] at h
  simp only [jour_number]
  rw [show jour_number_l2 n n (((), x, (k : Int), 0, ()), ((), l, ())) = _ from h]
/-- How many sectors. -/
def secs (L : Nat) : Nat := (L + 115) / 116
theorem secs_at {L : Nat} (hL : L < 1000000000) : IntKind.i64.wrap (Int.tdiv (IntKind.i64.wrap (IntKind.i64.wrap ((L : Int) + 116) - 1)) 116) = (secs L : Int) := by
  rw [show IntKind.i64.wrap ((L : Int) + 116) = (L : Int) + 116 from w64_id (by omega) (by omega), show IntKind.i64.wrap ((L : Int) + 116 - 1) = ((L + 115 : Nat) : Int) by rw [w64_id (by omega) (by omega)]; omega]
  rw [Int.tdiv_eq_ediv_of_nonneg (by omega)]
  unfold secs
  rw [w64_id (by omega) (by omega)]
  omega
theorem sectors_at {n : Nat} (hn : 1 ≤ n) (b : List Int) (hb : b.length < 1000000000) : jour_sectors n (((), ()), (b, ())) = some (((secs b.length : Int), ()), (b, ())) := by
  obtain ⟨n, rfl⟩ : ∃ m, n = m + 1 := ⟨n - 1, by omega⟩
  simp only [jour_sectors]
  rw [secs_at hb]
theorem sectors2_at {n : Nat} (hn : 1 ≤ n) (b : List Int) (hb : b.length < 1000000000) : jour_sectors_2 n ((b, ()), ()) = some (((secs b.length : Int), ()), ()) := by
  obtain ⟨n, rfl⟩ : ∃ m, n = m + 1 := ⟨n - 1, by omega⟩
  simp only [jour_sectors_2]
  rw [secs_at hb]
/-- A sector as it is written. -/
def chunk (b : List Int) (i : Nat) : List Int := (b.take ((i + 1) * 116)).drop (i * 116)
def sect (q : Int) (b : List Int) (i : Nat) : List Int := ((numB q 8 ++ numB (i : Int) 2) ++ numB (secs b.length : Int) 2) ++ chunk b i
theorem chunk_len (b : List Int) (i : Nat) : (chunk b i).length ≤ 116 := by
  unfold chunk
  rw [List.length_drop, List.length_take, Nat.add_mul]
  omega
theorem sect_len (q : Int) (b : List Int) (i : Nat) : (sect q b i).length ≤ 128 := by
  have := chunk_len b i
  simp only [sect, List.length_append, numB_len]
  omega
theorem chunk_at (b : List Int) (hb : b.length < 1000000000) {i : Nat} (hi : i < secs b.length) : 0 ≤ IntKind.i64.wrap ((i : Int) * 116) ∧ IntKind.i64.wrap ((i : Int) * 116) ≤ mn (b.length : Int) (IntKind.i64.wrap (IntKind.i64.wrap ((i : Int) + 1) * 116)) ∧ mn (b.length : Int) (IntKind.i64.wrap (IntKind.i64.wrap ((i : Int) + 1) * 116)) ≤ (b.length : Int) ∧ cutL b (IntKind.i64.wrap ((i : Int) * 116)) (mn (b.length : Int) (IntKind.i64.wrap (IntKind.i64.wrap ((i : Int) + 1) * 116))) = chunk b i := by
  unfold secs at hi
  rw [w64_up i (by omega), show IntKind.i64.wrap ((i : Int) * 116) = ((i * 116 : Nat) : Int) by rw [w64_id (by omega) (by omega)]; omega, show IntKind.i64.wrap (((i + 1 : Nat) : Int) * 116) = (((i + 1) * 116 : Nat) : Int) by rw [w64_id (by omega) (by omega)]; omega]
  have hm : mn (b.length : Int) (((i + 1) * 116 : Nat) : Int) = ((min b.length ((i + 1) * 116) : Nat) : Int) := by
    unfold mn
    split <;> omega
  rw [hm]
  refine ⟨by omega, by omega, by omega, ?_⟩
  unfold cutL chunk
  rw [Int.toNat_natCast, Int.toNat_natCast]
  by_cases h : b.length ≤ (i + 1) * 116
  · rw [Nat.min_eq_left h, List.take_length, List.take_of_length_le h]
  · rw [Nat.min_eq_right (by omega)]
/-! ### the disk -/
abbrev DK (S c : Int) : Int × Unit × Unit × Int × Int × Bool × Unit := (S, (), (), c, 0, false, ())
theorem up_at {n : Nat} (hn : 1 ≤ n) (S c : Int) (f p : M) : disk_Disk_up n (((), ()), ((S, (), (), c, 0, false, ()), f, p, ())) = some ((true, ()), ((S, (), (), c, 0, false, ()), f, p, ())) := by
  obtain ⟨n, rfl⟩ : ∃ k, n = k + 1 := ⟨n - 1, by omega⟩
  rfl
theorem write1_at {n : Nat} (hn : 3 ≤ n) {S c i : Int} (h0 : 0 ≤ i) (h1 : i < S) (hc : 0 ≤ c ∧ c < 1000000000) {b : List Int} (hb : b.length ≤ 128) (f p : M) :
    disk_Disk_Write n (((), i, (), ()), ((S, (), (), c, 0, false, ()), b, f, p, ())) = some ((ErrV.nil, ()), ((S, (), (), c + 1, 0, false, ()), (), f, mset ki i b p, ())) := by
  obtain ⟨n, rfl⟩ : ∃ k, n = k + 1 := ⟨n - 1, by omega⟩
  simp only [disk_Disk_Write, up_at (n := n) (by omega)]
  rw [if_neg (by decide), if_neg (by simp; omega), if_neg (by simp; omega), if_neg (by simp; omega), clone_at (by omega) b (by omega)]
  simp only []
  rw [w64_id (by omega) (by omega)]
/-- The sectors that are pending, so far. -/
def wp (at_ : Nat) (q : Int) (b : List Int) : Nat → M
  | 0 => []
  | i + 1 => mset ki ((at_ + i : Nat) : Int) (sect q b i) (wp at_ q b i)
theorem mset_keys (k : Int) (v : List Int) : ∀ m : M, ∀ x ∈ (mset ki k v m).map Prod.fst, x = k ∨ x ∈ m.map Prod.fst
  | [], x, h => by simp [mset] at h; exact .inl h
  | p :: m, x, h => by
    unfold mset at h
    by_cases e : ki k p.1 = true
    · rw [if_pos e] at h
      simp only [List.map_cons, List.mem_cons] at h ⊢
      rcases h with h | h
      · exact .inl h
      · exact .inr (.inr h)
    · rw [if_neg e] at h
      simp only [List.map_cons, List.mem_cons] at h ⊢
      rcases h with h | h
      · exact .inr (.inl h)
      · rcases mset_keys k v m x h with h | h
        · exact .inl h
        · exact .inr (.inr h)
theorem mset_len (k : Int) (v : List Int) : ∀ m : M, (mset ki k v m).length ≤ m.length + 1
  | [] => by simp [mset]
  | p :: m => by
    unfold mset
    split
    · simp
    · have := mset_len k v m
      simp only [List.length_cons]
      omega
theorem wp_keys (at_ : Nat) (q : Int) (b : List Int) : ∀ i, ∀ x ∈ (wp at_ q b i).map Prod.fst, (at_ : Int) ≤ x ∧ x < (at_ + i : Nat)
  | 0, x, h => by simp [wp] at h
  | i + 1, x, h => by
    rcases mset_keys _ _ _ x h with h | h
    · omega
    · have := wp_keys at_ q b i x h
      omega
theorem wp_len (at_ : Nat) (q : Int) (b : List Int) : ∀ i, (wp at_ q b i).length ≤ i
  | 0 => by simp [wp]
  | i + 1 => by
    have h1 := mset_len ((at_ + i : Nat) : Int) (sect q b i) (wp at_ q b i)
    have h2 := wp_len at_ q b i
    show (mset ki _ _ _).length ≤ _
    omega
/-- What is flushed lies within the disk. -/
structure Fl (S : Int) (f : M) (L : Nat) : Prop where
  k : ∀ x ∈ f.map Prod.fst, 0 ≤ x ∧ x < S
  len : f.length ≤ L
theorem wf_of {f : M} (h : ∀ x ∈ f.map Prod.fst, 0 ≤ x ∧ x < 1000000) : wfKeys (V := List Int) f = true := by
  unfold wfKeys
  rw [List.all_eq_true]
  intro p hp
  have := h p.1 (List.mem_map.2 ⟨p, hp, rfl⟩)
  simp only [Lit.wf, IntKind.min, IntKind.max, IntKind.bits, IntKind.signed]
  simp
  omega
theorem merge_keys {f p : M} {x : Int} (h : x ∈ (mergeM f p).map Prod.fst) : x ∈ f.map Prod.fst ∨ x ∈ p.map Prod.fst := by
  unfold mergeM at h
  rw [List.map_append, List.mem_append] at h
  rcases h with h | h
  · exact .inl (((List.filter_sublist (l := f)).map Prod.fst).subset h)
  · exact .inr h
theorem merge_len (f p : M) : (mergeM f p).length ≤ f.length + p.length := by
  unfold mergeM
  rw [List.length_append]
  have := List.length_filter_le (fun q : Int × List Int => !p.any fun r => r.1 == q.1) f
  omega
theorem flush_at {n : Nat} (hn : 3 ≤ n) {S c : Int} (hS : S ≤ 16384) (hc : 0 ≤ c ∧ c < 1000000000) {f p : M} {L : Nat} (hf : Fl S f L) (hp : Fl S p L) (hL : L ≤ 1000000) :
    disk_Disk_Flush n (((), ()), ((S, (), (), c, 0, false, ()), f, p, ())) = some ((ErrV.nil, ()), ((S, (), (), c + 1, 0, false, ()), mergeM f p, [], ())) := by
  obtain ⟨n, rfl⟩ : ∃ k, n = k + 1 := ⟨n - 1, by omega⟩
  have h1 := hf.len
  have h2 := hp.len
  have e : maps_Copy_56 n (((), (), ()), (f, p, ())) = some (((), ()), (mergeM f p, p, ())) := by
    show copySem ty2 false _ = _
    unfold copySem
    rw [if_pos (show wfKeys (V := List Int) f = true from wf_of (fun x hx => by have := hf.k x hx; omega)), if_pos (show wfKeys (V := List Int) p = true from wf_of (fun x hx => by have := hp.k x hx; omega)), if_pos (show List.length (α := Int × List Int) f + List.length (α := Int × List Int) p ≤ 1099511627776 by omega)]
  simp only [disk_Disk_Flush, up_at (n := n) (by omega), e]
  rw [if_neg (by decide), w64_id (by omega) (by omega)]
theorem write_at {n : Nat} (hn : 20000 < n) {S c : Int} (hS : S ≤ 16384) {at_ : Nat} (b : List Int) (hb : b.length < 1000000000) (hroom : ((at_ + secs b.length : Nat) : Int) ≤ S) (hc : 0 ≤ c ∧ c < 100000000) {q : Int} (hq : 0 ≤ q ∧ q < 1000000000) (h e : Int) (m : MM) {f : M} {L : Nat} (hf : Fl S f L) (hL : L ≤ 500000) :
    jour_Store_write n (((), (at_ : Int), b, ()), (((), (), h, e, q, ()), (S, (), (), c, 0, false, ()), m, f, [], ())) = some ((ErrV.nil, ()), (((), (), h, e, q + 1, ()), (S, (), (), c + (secs b.length : Int) + 1, 0, false, ()), m, mergeM f (wp at_ (q + 1) b (secs b.length)), [], ())) := by
  obtain ⟨n, rfl⟩ : ∃ k, n = k + 1 := ⟨n - 1, by omega⟩
  have hloop := for_all (F := jour_Store_write_l4 n) (len := secs b.length) (fun i => (((), (at_ : Int), b, (secs b.length : Int), (secs b.length : Int), (i : Int), ()), (((), (), h, e, q + 1, ()), (S, (), (), c + (i : Int), 0, false, ()), m, f, wp at_ (q + 1) b i, ()))) (r := some (.inl (((), ()), (((), (), h, e, q + 1, ()), (S, (), (), c + (secs b.length : Int), 0, false, ()), m, f, wp at_ (q + 1) b (secs b.length), ())))) (fun i k hi => by
    obtain ⟨c0, c1, c2, c3⟩ := chunk_at b hb hi
    have hcl := chunk_len b i
    have hsl := sect_len (q + 1) b i
    have hat : IntKind.i64.wrap ((at_ : Int) + (i : Int)) = ((at_ + i : Nat) : Int) := by rw [w64_id (by omega) (by omega)]; omega
    simp only [jour_Store_write_l4]
    rw [if_pos (decide_eq_true (show (i : Int) < (secs b.length : Int) by omega)), show jour_number n (((), q + 1, 8, ()), ([], ())) = some (((), ()), ((), numB (q + 1) 8, ())) by
      have := number_at (n := n) (q + 1) 8 (by omega) (by omega) [] (by simp)
      simpa using this]
    simp only []
    rw [show jour_number n (((), (i : Int), 2, ()), (numB (q + 1) 8, ())) = _ from number_at (n := n) (i : Int) 2 (by omega) (by omega) (numB (q + 1) 8) (by rw [numB_len]; omega)]
    simp only []
    rw [show jour_number n (((), (secs b.length : Int), 2, ()), (numB (q + 1) 8 ++ numB (i : Int) 2, ())) = _ from number_at (n := n) (secs b.length : Int) 2 (by omega) (by omega) (numB (q + 1) 8 ++ numB (i : Int) 2) (by simp only [List.length_append, numB_len]; omega)]
    simp only []
    rw [if_pos ⟨c0, c1, c2⟩, c3, if_pos (by simp only [List.length_append, numB_len]; omega), hat]
    rw [show ((numB (q + 1) 8 ++ numB (i : Int) 2) ++ numB (secs b.length : Int) 2) ++ chunk b i = sect (q + 1) b i from rfl, write1_at (by omega) (by omega) (by omega) ⟨by omega, by omega⟩ hsl]
    simp only []
    rw [if_neg (by decide), w64_up i (by omega), show c + (i : Int) + 1 = c + ((i + 1 : Nat) : Int) by omega]
    rfl) (fun k => by
    simp only [jour_Store_write_l4]
    rw [if_neg (by simp)]) (k := n) (by omega)
  simp only [jour_Store_write, sectors2_at (n := n) (by omega) b hb]
  rw [w64_id (by omega) (by omega)]
  rw [show jour_Store_write_l4 n n (((), (at_ : Int), b, (secs b.length : Int), (secs b.length : Int), 0, ()), (((), (), h, e, q + 1, ()), (S, (), (), c, 0, false, ()), m, f, [], ())) = _ by
    have := hloop
    simp only [Int.natCast_zero, Int.add_zero] at this
    exact this]
  simp only []
  have hwl := wp_len at_ (q + 1) b (secs b.length)
  rw [flush_at (L := L + 16384) (by omega) hS ⟨by omega, by omega⟩ ⟨hf.k, by have := hf.len; omega⟩ ⟨fun x hx => by have := wp_keys at_ (q + 1) b _ x hx; omega, by omega⟩ (by omega)]
end Go.Proofs.YthliipenkikefaaGreatDoor.Pure

/- JourLast, in plain words: of several changes of one key the last counts. By this session. -/
import Derived.Test.YthliipenkikefaaGreatDoorJourLastO
namespace Go.Proofs.YthliipenkikefaaGreatDoor.Pure
open Go Go.Lib Go.Proofs.YthliipenkikefaaGreatDoor.Cm
open Classical
set_option linter.unusedVariables false
set_option linter.unusedSimpArgs false
set_option maxRecDepth 100000
theorem first_at {n : Nat} (hn : 200 ≤ n) : law4_first n ((), ()) = some ((true, ()), ()) := by
  obtain ⟨n, rfl⟩ : ∃ m, n = m + 120 := ⟨n - 120, by omega⟩
  kernel_rfl
theorem Number_at {n : Nat} (hn : 1 ≤ n) (x : Int) {m : Int} (hm : 0 < m) (hm2 : m < 1000000000) : world_Number n ((x, m, ()), ()) = some ((num x m, ()), ()) := by
  obtain ⟨n, rfl⟩ : ∃ m, n = m + 1 := ⟨n - 1, by omega⟩
  have := tmod_b x m hm
  simp only [world_Number]
  rw [if_neg (show ¬ (m = 0) by omega)]
  unfold num
  by_cases h : Int.tmod x m < 0
  · rw [if_pos (decide_eq_true h), if_pos h, w64_id (by omega) (by omega)]
  · rw [if_neg (by simpa using h), if_neg h]
theorem Num_at {n : Nat} (hn : 1 ≤ n) {x : Int} (h0 : 0 ≤ x) (h1 : x ≤ 1000000) : world_Num n ((x, ()), ()) = some ((itoaS x, ()), ()) := by
  obtain ⟨n, rfl⟩ : ∃ m, n = m + 1 := ⟨n - 1, by omega⟩
  have e : strconv_Itoa n ((x, ()), ()) = some ((itoaS x, ()), ()) := by
    show itoaSem _ = _
    unfold itoaSem
    rw [if_pos (show -9223372036854775808 ≤ x ∧ x ≤ 9223372036854775807 from ⟨by omega, by omega⟩)]
  simp only [world_Num, e]
def nm (k : Int) : ByteArray := (⟨#[107]⟩ : ByteArray) ++ itoaS k
theorem rows5 : (List.range 5).all (fun i => decide ((itoaS (i : Int)).size = 1) && (List.range i).all fun j => strLt (nm (j : Int)) (nm (i : Int))) = true := by kernel_rfl
theorem rows30 : (List.range 31).all (fun i => decide ((itoaS (i : Int)).size ≤ 2)) = true := by kernel_rfl
theorem it1 {k : Nat} (hk : k < 5) : (itoaS (k : Int)).size = 1 := by
  have := all_range rows5 hk
  simp only [Bool.and_eq_true, decide_eq_true_eq] at this
  exact this.1
theorem nm_lt {j k : Nat} (h : j < k) (hk : k < 5) : strLt (nm (j : Int)) (nm (k : Int)) = true := by
  have := all_range rows5 hk
  simp only [Bool.and_eq_true] at this
  exact all_range this.2 h
theorem it2 {k : Nat} (hk : k < 31) : (itoaS (k : Int)).size ≤ 2 := by simpa using all_range rows30 hk
theorem nm_size {k : Nat} (hk : k < 5) : (nm (k : Int)).size = 2 := by
  unfold nm
  rw [ByteArray.size_append, it1 hk]
  rfl
theorem nm_inj {j k : Nat} (hj : j < 5) (hk : k < 5) (h : nm (j : Int) = nm (k : Int)) : j = k := by
  rcases Nat.lt_trichotomy j k with hl | hl | hl
  · have := nm_lt hl hk
    rw [h, strLt_irr] at this
    cases this
  · exact hl
  · have := nm_lt hl hj
    rw [h, strLt_irr] at this
    cases this
theorem getD_set {l : List Int} {k j : Nat} (v : Int) (hk : k < l.length) : (l.set k v).getD j 0 = if j = k then v else l.getD j 0 := by
  rw [List.getD_eq_getElem?_getD, List.getElem?_set, List.getD_eq_getElem?_getD]
  by_cases h : j = k
  · subst h; rw [if_pos rfl, if_pos hk, if_pos rfl]; rfl
  · rw [if_neg (fun e => h e.symm), if_neg h]
/-- What is kept of each key, and what the store has. -/
structure Rel (H : List Int) (m : MM) : Prop where
  len : H.length = 5
  rng : ∀ k : Nat, k < 5 → 0 ≤ H.getD k 0 ∧ H.getD k 0 ≤ 30
  get : ∀ k : Nat, k < 5 → mfind ks (nm (k : Int)) m = if 0 < H.getD k 0 then some (itoaS (H.getD k 0 - 1)) else none
  nd : (keys m).Nodup
  sub : ∀ s ∈ keys m, ∃ k, k < 5 ∧ s = nm ((k : Nat) : Int)
theorem Rel.put {H : List Int} {m : MM} (R : Rel H m) {i k : Nat} (hi : i < 30) (hk : k < 5) : Rel (H.set k ((i + 1 : Nat) : Int)) (mset ks (nm (k : Int)) (itoaS (i : Int)) m) := by
  have hl := R.len
  refine ⟨by simpa using hl, fun j hj => ?_, fun j hj => ?_, mset_nodup R.nd, fun s hs => ?_⟩
  · rw [getD_set _ (by omega)]
    split
    · omega
    · exact R.rng j hj
  · rw [getD_set _ (by omega)]
    show mfind (keyEq (.str : Ty)) _ (mset (keyEq (.str : Ty)) _ _ _) = _
    rw [mfind_mset]
    by_cases h : j = k
    · subst h
      rw [if_pos rfl, if_pos rfl, if_pos (by omega), show ((i + 1 : Nat) : Int) - 1 = (i : Int) by omega]
    · rw [if_neg (fun e => h (nm_inj hj hk e)), if_neg h]
      exact R.get j hj
  · rw [mset_keys2] at hs
    split at hs
    · exact R.sub s hs
    · rcases List.mem_append.1 hs with hs | hs
      · exact R.sub s hs
      · exact ⟨k, hk, List.mem_singleton.1 hs⟩
theorem Rel.del {H : List Int} {m : MM} (R : Rel H m) {i k : Nat} (hk : k < 5) : Rel ((H.set k ((i + 1 : Nat) : Int)).set k 0) (mdel ks (nm (k : Int)) m) := by
  have hl := R.len
  refine ⟨by simpa using hl, fun j hj => ?_, fun j hj => ?_, mdel_nodup R.nd, fun s hs => R.sub s (((mdel_sub _ m).map Prod.fst).subset hs)⟩
  · rw [getD_set _ (by rw [List.length_set]; omega)]
    split
    · omega
    · rename_i h
      rw [getD_set _ (by omega), if_neg h]
      exact R.rng j hj
  · rw [getD_set _ (by rw [List.length_set]; omega), mfind_mdel R.nd]
    by_cases h : j = k
    · subst h
      rw [if_pos rfl, if_pos rfl, if_neg (by omega)]
    · rw [if_neg (fun e => h (nm_inj hj hk e)), if_neg h, getD_set _ (by omega), if_neg h]
      exact R.get j hj
/-- What is kept, and the changes, so far. -/
def gone (x : Int) : Bool := Int.tmod x 3 == 0
def chg (x : List Int) (i : Nat) : ChT := ((⟨#[107]⟩ : ByteArray) ++ itoaS (num (x.getD i (Ty.dflt (.int .i64))) 5), (itoaS (i : Int), gone (x.getD i (Ty.dflt (.int .i64)))))
def kept (x : List Int) : Nat → List Int
  | 0 => [0, 0, 0, 0, 0]
  | i + 1 => if gone (x.getD i (Ty.dflt (.int .i64))) then ((kept x i).set (num (x.getD i (Ty.dflt (.int .i64))) 5).toNat ((i + 1 : Nat) : Int)).set (num (x.getD i (Ty.dflt (.int .i64))) 5).toNat 0 else (kept x i).set (num (x.getD i (Ty.dflt (.int .i64))) 5).toNat ((i + 1 : Nat) : Int)
def chgs (x : List Int) (i : Nat) : List ChT := (List.range i).map (chg x)
theorem chgs_succ (x : List Int) (i : Nat) : chgs x (i + 1) = chgs x i ++ [chg x i] := by
  unfold chgs
  rw [List.range_succ, List.map_append]
  rfl
theorem appl_succ (x : List Int) (i : Nat) : appl [] (chgs x (i + 1)) = apC (appl [] (chgs x i)) (chg x i) := by
  rw [chgs_succ]
  unfold appl
  rw [List.foldl_append]
  rfl
theorem rel_at (x : List Int) : ∀ i, i ≤ 30 → Rel (kept x i) (appl [] (chgs x i))
  | 0, _ => by
    refine ⟨rfl, fun k hk => ?_, fun k hk => ?_, by simp [appl, chgs, keys], fun s hs => by simp [appl, chgs, keys] at hs⟩
    · have : k = 0 ∨ k = 1 ∨ k = 2 ∨ k = 3 ∨ k = 4 := by omega
      rcases this with rfl | rfl | rfl | rfl | rfl <;> exact ⟨Int.le_refl 0, show (0 : Int) ≤ 30 by decide⟩
    · have : k = 0 ∨ k = 1 ∨ k = 2 ∨ k = 3 ∨ k = 4 := by omega
      rcases this with rfl | rfl | rfl | rfl | rfl <;> rfl
  | i + 1, hi => by
    have R := rel_at x i (by omega)
    obtain ⟨k, hk, hnum⟩ := num_nat (x.getD i (Ty.dflt (.int .i64))) (m := 5) (by omega)
    rw [appl_succ]
    unfold kept apC chg
    simp only [hnum, Int.toNat_natCast]
    by_cases hg : gone (x.getD i (Ty.dflt (.int .i64))) = true
    · rw [if_pos hg, if_pos hg]
      exact R.del (by omega)
    · rw [if_neg hg, if_neg hg]
      exact R.put (by omega) (by omega)
theorem Rel.small {H : List Int} {m : MM} (R : Rel H m) : m.length ≤ 5 ∧ ∀ p ∈ m, p.1.size = 2 ∧ p.2.size ≤ 2 := by
  have h1 : (keys m).length ≤ ((List.range 5).map fun k : Nat => nm (k : Int)).length := nodup_len R.nd (fun s hs => by
    obtain ⟨k, hk, rfl⟩ := R.sub s hs
    exact List.mem_map.2 ⟨k, List.mem_range.2 hk, rfl⟩)
  refine ⟨by simpa [keys] using h1, fun p hp => ?_⟩
  obtain ⟨k, hk, e⟩ := R.sub p.1 (List.mem_map.2 ⟨p, hp, rfl⟩)
  refine ⟨by rw [e]; exact nm_size hk, ?_⟩
  have hf : mfind ks p.1 m = some p.2 := by
    have : ∀ {m : MM}, (keys m).Nodup → p ∈ m → mfind ks p.1 m = some p.2 := by
      intro m hnd hp
      induction m with
      | nil => cases hp
      | cons a m ih =>
        have hnd : (a.1 :: keys m).Nodup := hnd
        rw [List.nodup_cons] at hnd
        unfold mfind
        rcases List.mem_cons.1 hp with rfl | hp
        · rw [if_pos ((kq _ _).2 rfl)]
        · rw [if_neg (fun h => hnd.1 (by rw [← (kq _ _).1 h]; exact List.mem_map.2 ⟨p, hp, rfl⟩))]
          exact ih hnd.2 hp
    exact this R.nd hp
  have hg := R.get k hk
  rw [← e, hf] at hg
  have hr := R.rng k hk
  split at hg
  · rename_i hpos
    have e2 := Option.some.inj hg
    rw [e2]
    obtain ⟨i, hi⟩ := Int.eq_ofNat_of_zero_le (show 0 ≤ H.getD k 0 - 1 by omega)
    rw [hi]
    exact it2 (by omega)
  · cases hg
theorem Rel.MI {H : List Int} {m : MM} (R : Rel H m) : MI m := ⟨by have := R.small.1; omega, fun p hp => by have := R.small.2 p hp; omega⟩
theorem JourLast : law4_JourLast.Pure := by
  intro x gx
  refine ⟨100000 + 1, ?_⟩
  generalize hn : (100000 : Nat) = n
  have hn : 100000 ≤ n := by omega
  simp only [law4_JourLast, first_at (n := n) (by omega)]
  rw [if_neg (by simp)]
  by_cases hx : (List.length (α := Int) x : Int) > 30
  · rw [if_pos (decide_eq_true hx)]
  rw [if_neg (by simpa using hx), if_neg (by simp)]
  have hx : List.length (α := Int) x ≤ 30 := by omega
  rw [show law4_opened n ((400, ()), ()) = _ from opened_at (n := n) (S := 400) ⟨by omega, by omega⟩ (by omega)]
  simp only []
  rw [if_pos ⟨by omega, by omega, by omega, by omega⟩]
  have hl12 := for_all (F := law4_JourLast_l12 n) (len := List.length (α := Int) x) (fun i => ((x, (), (), (), (i : Int), ()), (((), (), (-1), 0, 0, ()), kept x i, chgs x i, (((400 : Nat) : Int), (), (), 0, 0, false, ()), ([] : MM), ([] : M), ([] : M), ()))) (r := some (.inl (((), (), (), ()), (((), (), (-1), 0, 0, ()), kept x (List.length (α := Int) x), chgs x (List.length (α := Int) x), (((400 : Nat) : Int), (), (), 0, 0, false, ()), [], [], [], ())))) (fun i k hi => by
    have R := rel_at x i (by omega)
    obtain ⟨j, hj, hnum⟩ := num_nat (x.getD i (Ty.dflt (.int .i64))) (m := 5) (by omega)
    have hs1 := it1 (k := j) (by omega)
    have hcl : (chgs x i).length = i := by simp [chgs]
    have hkl := R.len
    simp only [law4_JourLast_l12]
    rw [if_pos (decide_eq_true (show (i : Int) < (List.length (α := Int) x : Int) by omega)), if_pos (show 0 ≤ (i : Int) ∧ (i : Int) < (List.length (α := Int) x : Int) from ⟨by omega, by omega⟩), rdT_nat, Number_at (by omega) _ (by omega) (by omega), hnum]
    simp only []
    rw [if_pos (show 0 ≤ (i : Int) ∧ (i : Int) < (List.length (α := Int) x : Int) from ⟨by omega, by omega⟩), Num_at (x := (j : Int)) (by omega) (by omega) (by omega)]
    simp only []
    rw [if_pos (by rw [hs1]; decide), Num_at (x := (i : Int)) (by omega) (by omega) (by omega)]
    simp only []
    rw [if_pos (by rw [hcl]; simp only [List.length_cons, List.length_nil]; omega), if_pos (show 0 ≤ (j : Int) ∧ (j : Int) < ((kept x i).length : Int) from ⟨by omega, by omega⟩), chgs_succ]
    have hch : chg x i = ((⟨#[107]⟩ : ByteArray) ++ itoaS (j : Int), (itoaS (i : Int), Int.tmod (x.getD i (Ty.dflt (.int .i64))) 3 == 0)) := by
      unfold chg
      rw [hnum]
      rfl
    rw [hch]
    have hk1 : kept x (i + 1) = if gone (x.getD i (Ty.dflt (.int .i64))) then ((kept x i).set j ((i + 1 : Nat) : Int)).set j 0 else (kept x i).set j ((i + 1 : Nat) : Int) := by
      conv => lhs; unfold kept
      rw [hnum]
      rfl
    rw [hk1]
    by_cases hg : gone (x.getD i (Ty.dflt (.int .i64))) = true
    · rw [if_pos hg, if_pos (show (Int.tmod (x.getD i (Ty.dflt (.int .i64))) 3 == 0) = true from hg), if_pos (show 0 ≤ (j : Int) ∧ (j : Int) < ((List.set (kept x i) (j : Int).toNat (IntKind.i64.wrap ((i : Int) + 1))).length : Int) from by rw [List.length_set]; exact ⟨by omega, by omega⟩), w64_up i (by omega)]
      rfl
    · rw [if_neg hg, if_neg (show ¬ (Int.tmod (x.getD i (Ty.dflt (.int .i64))) 3 == 0) = true from hg), w64_up i (by omega)]
      rfl) (fun k => by
    simp only [law4_JourLast_l12]
    rw [if_neg (by simp)]) (k := n) (by omega)
  have R := rel_at x (List.length (α := Int) x) hx
  have hcl : (chgs x (List.length (α := Int) x)).length = List.length (α := Int) x := by simp [chgs]
  have hcs : ∀ c ∈ chgs x (List.length (α := Int) x), c.1.size = 2 ∧ c.2.1.size ≤ 2 := by
    intro c hc
    obtain ⟨i, hi, rfl⟩ := List.mem_map.1 hc
    have hi := List.mem_range.1 hi
    obtain ⟨j, hj, hnum⟩ := num_nat (x.getD i (Ty.dflt (.int .i64))) (m := 5) (by omega)
    unfold chg
    rw [hnum]
    exact ⟨nm_size (by omega), it2 (by omega)⟩
  rw [show law4_JourLast_l12 n n ((x, (), (), (), 0, ()), (((), (), (-1), 0, 0, ()), List.replicate (5 : Int).toNat 0, [], (((400 : Nat) : Int), (), (), 0, 0, false, ()), [], [], [], ())) = _ from hl12]
  simp only []
  generalize kept x (List.length (α := Int) x) = H at R ⊢
  generalize chgs x (List.length (α := Int) x) = cs at R hcl hcs ⊢
  have hbad : bad [] cs = none := by
    unfold bad
    have a : cs.all okK = true := by
      rw [List.all_eq_true]
      intro c hc
      have := (hcs c hc).1
      unfold okK
      rw [this]
      rfl
    have b : cs.all okV = true := by
      rw [List.all_eq_true]
      intro c hc
      have := (hcs c hc).2
      unfold okV
      exact decide_eq_true (by omega)
    have := R.small.1
    rw [if_neg (by rw [a]; decide), if_neg (by rw [b]; decide), if_neg (by omega)]
  have hMI0 : MI [] := ⟨by simp, by simp⟩
  generalize hm : appl [] cs = m at R
  have hc22 : ∃ (h e q c : Int) (f : M), law4_JourLast_c22 n (((), (), (), ()), (((), (), (-1), 0, 0, ()), H, cs, (((400 : Nat) : Int), (), (), 0, 0, false, ()), [], [], [], ())) = some (.inl (((), (), ()), (((), (), h, e, q, ()), H, (((400 : Nat) : Int), (), (), c, 0, false, ()), m, f, [], ()))) := by
    cases he : equalM m [] with
    | true =>
      have hC := commit_same (n := n) (by omega) (S := 400) (c := 0) (h := -1) (e := 0) (q := 0) hMI0 (f := []) (p := []) (l := cs) (by omega) hbad (by rw [hm]; exact he)
      have hm0 : m = [] := by
        unfold equalM at he
        simp only [Bool.and_eq_true, decide_eq_true_eq] at he
        exact List.eq_nil_of_length_eq_zero he.1
      refine ⟨-1, 0, 0, 0, [], ?_⟩
      simp only [law4_JourLast_c22]
      rw [hC]
      simp only []
      rw [if_neg (by decide), hm0]
    | false =>
      have hC := commit_new (n := n) (by omega) (S := 400) (by omega) (c := 0) (by omega) (h := -1) (e := 0) (q := 0) (by omega) (.inl rfl) hMI0 (f := []) (L := 0) ⟨by simp, by simp⟩ (by omega) (l := cs) (by omega) hbad (by rw [hm]; exact he)
      have hlen : secs (by_ 0 (dump m)).length ≤ 200 := by
        have k1 := (enc_len 0).2
        have k2 := (enc_len ((dump m).length : Int)).2
        have hd := dump_len m
        have hs := R.small
        have h3 := flat_len chE 40 (dump m) (fun c hc => by
          unfold dump at hc
          obtain ⟨k, hk, rfl⟩ := List.mem_map.1 hc
          obtain ⟨p, hp, rfl⟩ := List.mem_map.1 ((sortS_perm _).mem_iff.1 hk)
          have t1 := txt_len p.1
          have t2 := txt_len (getM m p.1)
          have z1 := (hs.2 p hp).1
          have z2 : (getM m p.1).size ≤ 2 := by
            unfold getM
            cases e : mfind ks p.1 m with
            | none => exact Nat.zero_le _
            | some v => exact (hs.2 _ (mfind_mem e)).2
          show ((txt p.1 ++ enc 0) ++ txt (getM m p.1)).length ≤ _
          simp only [List.length_append]
          omega)
        have : (by_ 0 (dump m)).length ≤ 220 := by
          simp only [by_, List.length_append]
          omega
        unfold secs
        omega
      rw [hm, if_neg (fun hh => absurd hh.1 (by decide)), if_pos (by omega)] at hC
      have key : ∀ (h e q c : Int) (f : M), jour_Store_Commit n (((), (), ()), (((), (), (-1), 0, 0, ()), cs, (((400 : Nat) : Int), (), (), 0, 0, false, ()), [], [], [], ())) = some (.inr (((ErrV.nil, ()), (((), (), h, e, q, ()), cs, (((400 : Nat) : Int), (), (), c, 0, false, ()), [], f, [], m, ())))) →
          law4_JourLast_c22 n (((), (), (), ()), (((), (), (-1), 0, 0, ()), H, cs, (((400 : Nat) : Int), (), (), 0, 0, false, ()), [], [], [], ())) = some (.inl (((), (), ()), (((), (), h, e, q, ()), H, (((400 : Nat) : Int), (), (), c, 0, false, ()), m, f, [], ()))) := fun h e q c f hC => by
        simp only [law4_JourLast_c22]
        rw [hC]
        simp only []
        rw [if_neg (by decide)]
      exact ⟨_, _, _, _, _, key _ _ _ _ _ hC⟩
  obtain ⟨h, e, q, c, f, hc22⟩ := hc22
  rw [hc22]
  simp only []
  have hl24 := for_all (F := law4_JourLast_l24 n) (len := 5) (fun k => (((), (), (), (k : Int), ()), (((), (), h, e, q, ()), H, ((List.range k).filter fun j => decide (0 < H.getD j 0)).map (fun j : Nat => nm (j : Int)), (((400 : Nat) : Int), (), (), c, 0, false, ()), m, f, ([] : M), ()))) (r := some (.inl (((), (), ()), (((), (), h, e, q, ()), ((List.range 5).filter fun j => decide (0 < H.getD j 0)).map (fun j : Nat => nm (j : Int)), (((400 : Nat) : Int), (), (), c, 0, false, ()), m, f, [], ())))) (fun k g hk => by
    have hs1 := it1 hk
    have hlen : (((List.range k).filter fun j => decide (0 < H.getD j 0)).map (fun j : Nat => nm (j : Int))).length ≤ 5 := by
      rw [List.length_map]
      have := List.length_filter_le (fun j => decide (0 < H.getD j 0)) (List.range k)
      rw [List.length_range] at this
      omega
    have hkl := R.len
    have hr := R.rng k hk
    have hget := R.get k hk
    have hG : jour_Store_Get n (((), (⟨#[107]⟩ : ByteArray) ++ itoaS (k : Int), ()), (((), (), h, e, q, ()), (((400 : Nat) : Int), (), (), c, 0, false, ()), m, f, ([] : M), ())) = some (((((mfind ks (nm (k : Int)) m).getD (⟨#[]⟩ : ByteArray), ()), ((mfind ks (nm (k : Int)) m).isSome, ()), ()), ()), (((), (), h, e, q, ()), (((400 : Nat) : Int), (), (), c, 0, false, ()), m, f, [], ())) := by
      obtain ⟨n, rfl⟩ : ∃ k, n = k + 1 := ⟨n - 1, by omega⟩
      rfl
    have hrd : rdT ((.int .i64) : Ty) H (k : Int) = H.getD k 0 := rfl
    have hflt : ((List.range (k + 1)).filter fun j => decide (0 < H.getD j 0)).map (fun j : Nat => nm (j : Int)) = ((List.range k).filter fun j => decide (0 < H.getD j 0)).map (fun j : Nat => nm (j : Int)) ++ (if 0 < H.getD k 0 then [nm (k : Int)] else []) := by
      rw [List.range_succ, List.filter_append, List.map_append]
      congr 1
      by_cases hp : 0 < H.getD k 0
      · rw [if_pos hp, List.filter_cons, if_pos (decide_eq_true hp)]
        rfl
      · rw [if_neg hp, List.filter_cons, if_neg (by simpa using hp)]
        rfl
    simp only [law4_JourLast_l24]
    rw [if_pos (decide_eq_true (show (k : Int) < 5 by omega)), Num_at (by omega) (by omega) (by omega)]
    simp only []
    rw [if_pos (by rw [hs1]; decide), hG]
    simp only []
    rw [hflt, hget]
    by_cases hp : 0 < H.getD k 0
    · rw [if_pos hp, if_pos hp]
      simp only [Option.getD_some, Option.isSome_some]
      have hc29 : law4_JourLast_c29 n (((), (), (), (k : Int), itoaS (H.getD k 0 - 1), true, ()), (((), (), h, e, q, ()), H, ((List.range k).filter fun j => decide (0 < H.getD j 0)).map (fun j : Nat => nm (j : Int)), (((400 : Nat) : Int), (), (), c, 0, false, ()), m, f, ([] : M), ())) = some (.inl (((), (), (), (k : Int), true, ()), (((), (), h, e, q, ()), H, ((List.range k).filter fun j => decide (0 < H.getD j 0)).map (fun j : Nat => nm (j : Int)), (((400 : Nat) : Int), (), (), c, 0, false, ()), m, f, [], ()))) := by
        simp only [law4_JourLast_c29]
        rw [if_pos (show 0 ≤ (k : Int) ∧ (k : Int) < (H.length : Int) from ⟨by omega, by omega⟩), hrd, decide_eq_true (show H.getD k 0 > 0 from hp), if_neg (by decide), if_pos trivial, if_pos (show 0 ≤ (k : Int) ∧ (k : Int) < (H.length : Int) from ⟨by omega, by omega⟩), w64_id (by omega) (by omega), Num_at (x := H.getD k 0 - 1) (by omega) (by omega) (by omega)]
        simp only []
        rw [strEq_iff, decide_eq_true rfl, if_neg (by decide)]
      rw [hc29]
      simp only []
      rw [if_pos trivial, Num_at (by omega) (by omega) (by omega)]
      simp only []
      rw [if_pos (by rw [hs1]; decide), if_pos (by simp only [List.length_cons, List.length_nil]; omega), w64_up k (by omega)]
      rfl
    · rw [if_neg hp, if_neg hp, List.append_nil]
      simp only [Option.getD_none, Option.isSome_none]
      have hc29 : law4_JourLast_c29 n (((), (), (), (k : Int), (⟨#[]⟩ : ByteArray), false, ()), (((), (), h, e, q, ()), H, ((List.range k).filter fun j => decide (0 < H.getD j 0)).map (fun j : Nat => nm (j : Int)), (((400 : Nat) : Int), (), (), c, 0, false, ()), m, f, ([] : M), ())) = some (.inl (((), (), (), (k : Int), false, ()), (((), (), h, e, q, ()), H, ((List.range k).filter fun j => decide (0 < H.getD j 0)).map (fun j : Nat => nm (j : Int)), (((400 : Nat) : Int), (), (), c, 0, false, ()), m, f, [], ()))) := by
        simp only [law4_JourLast_c29]
        rw [if_pos (show 0 ≤ (k : Int) ∧ (k : Int) < (H.length : Int) from ⟨by omega, by omega⟩), hrd, decide_eq_false (show ¬ H.getD k 0 > 0 from hp), if_neg (by decide), if_neg (by decide)]
      rw [hc29]
      simp only []
      rw [if_neg (by simp), w64_up k (by omega)]) (fun g => by
    simp only [law4_JourLast_l24]
    rw [if_neg (by simp)]) (k := n) (by omega)
  rw [show law4_JourLast_l24 n n (((), (), (), 0, ()), (((), (), h, e, q, ()), H, [], (((400 : Nat) : Int), (), (), c, 0, false, ()), m, f, [], ())) = _ from hl24]
  simp only []
  have hK : jour_Store_Keys n (((), ()), (((), (), h, e, q, ()), (((400 : Nat) : Int), (), (), c, 0, false, ()), m, f, ([] : M), ())) = some (((), ()), (((), (), h, e, q, ()), (((400 : Nat) : Int), (), (), c, 0, false, ()), m, f, [], sortS (keysM m), ())) := by
    obtain ⟨n, rfl⟩ : ∃ k, n = k + 2 := ⟨n - 2, by omega⟩
    have hK0 : maps_Keys_map_string_string_string_string (n + 1) (((), ()), (m, ())) = some (((), ()), (m, ((), ()), ())) := rfl
    simp only [jour_Store_Keys, hK0, sorted_at R.MI]
  rw [hK]
  simp only []
  have hsl : (sortS (keysM m)).length ≤ 5 := by
    have := R.small.1
    rw [(sortS_perm _).length_eq, List.length_map]
    exact this
  have heq : sortS (keysM m) = ((List.range 5).filter fun j => decide (0 < H.getD j 0)).map (fun j : Nat => nm (j : Int)) := by
    refine rising_eq (sortS_rising R.nd) ?_ (fun s => ?_)
    · show List.Pairwise _ _
      rw [List.pairwise_map]
      have h0 : ((List.range 5).filter fun j => decide (0 < H.getD j 0)).Pairwise (fun a b => a < b ∧ b < 5) := by
        refine List.Pairwise.filter _ ?_
        decide
      exact h0.imp (fun {a b} hab => nm_lt hab.1 hab.2)
    · rw [(sortS_perm _).mem_iff]
      constructor
      · intro hs
        obtain ⟨k, hk, rfl⟩ := R.sub s hs
        have hin := mfind_in.2 hs
        have hg := R.get k hk
        refine List.mem_map.2 ⟨k, List.mem_filter.2 ⟨List.mem_range.2 hk, ?_⟩, rfl⟩
        by_cases hp : 0 < H.getD k 0
        · exact decide_eq_true hp
        · rw [if_neg hp] at hg
          rw [show mfind (keyEq (.str : Ty)) (nm (k : Int)) m = none from hg] at hin
          cases hin
      · intro hs
        obtain ⟨k, hk, rfl⟩ := List.mem_map.1 hs
        obtain ⟨hk1, hk2⟩ := List.mem_filter.1 hk
        have hk1 := List.mem_range.1 hk1
        have hg := R.get k hk1
        rw [if_pos (of_decide_eq_true hk2)] at hg
        exact mfind_in.1 (by rw [show mfind (keyEq (.str : Ty)) (nm (k : Int)) m = _ from hg]; rfl)
  rw [SameTexts_at _ _ (by omega) (by omega), decide_eq_true heq]
end Go.Proofs.YthliipenkikefaaGreatDoor.Pure

/- Code as plain functions: slices.Sort and slices.Compact of strings, brought over. By this session. -/
import Derived.Test.YtnajjhjbkanigaaDoorCmW
import Derived.Shelf.Slices.CompactS
import Derived.Sort.OwnSorted
import Derived.Sort.Grow
namespace Go.Proofs.YtnajjhjbkanigaaDoor.Cm
open Go Go.RowKit Go.Sort
set_option linter.unusedVariables false
/-! ### strings in order -/
def insS (x : ByteArray) : List ByteArray → List ByteArray
  | [] => [x]
  | y :: r => if strLt y x then y :: insS x r else x :: y :: r
def sortS (l : List ByteArray) : List ByteArray := l.foldr insS []
def compS (l : List ByteArray) : List ByteArray := (Lib.compact (l.map (fun q : ByteArray => q.data.toList))).map fun b => ⟨b.toArray⟩
theorem less_eq : ∀ x y : List UInt8, Op.bytesLess x y = decide (x < y)
  | [], [] => by simp [Op.bytesLess]
  | _ :: _, [] => by simp [Op.bytesLess]
  | [], _ :: _ => by simp [Op.bytesLess]
  | a :: x, b :: y => by
    rw [Op.bytesLess, less_eq x y]
    simp only [List.cons_lt_cons_iff]
    by_cases h1 : a < b <;> by_cases h2 : a = b <;> by_cases h3 : x < y <;> simp [h1, h2, h3]
def insL (x : List UInt8) : List (List UInt8) → List (List UInt8)
  | [] => [x]
  | y :: r => if Op.bytesLess y x then y :: insL x r else x :: y :: r
theorem insS_map (x : ByteArray) : ∀ l : List ByteArray, (insS x l).map (fun q : ByteArray => q.data.toList) = insL x.data.toList (l.map (fun q : ByteArray => q.data.toList))
  | [] => rfl
  | y :: r => by
    have e : strLt y x = Op.bytesLess y.data.toList x.data.toList := rfl
    cases h : Op.bytesLess y.data.toList x.data.toList with
    | true => rw [insS, e, if_pos h, List.map_cons, insS_map x r, List.map_cons, insL, if_pos h]
    | false => rw [insS, e, if_neg (by simp [h]), List.map_cons, List.map_cons, insL, if_neg (by simp [h])]
theorem insL_perm (x : List UInt8) : ∀ l, (insL x l).Perm (x :: l)
  | [] => .refl _
  | y :: r => by
    rw [insL]
    split
    · exact ((insL_perm x r).cons y).trans (.swap x y r)
    · exact .refl _
theorem insL_mem {x z : List UInt8} {l : List (List UInt8)} (h : z ∈ insL x l) : z = x ∨ z ∈ l := by
  have := (insL_perm x l).mem_iff.1 h
  simpa using this
theorem insL_sorted (x : List UInt8) : ∀ l : List (List UInt8), l.Pairwise (· ≤ ·) → (insL x l).Pairwise (· ≤ ·)
  | [], _ => by simp [insL]
  | y :: r, h => by
    rw [List.pairwise_cons] at h
    rw [insL, less_eq]
    split
    · rename_i hlt
      have hlt : y < x := by simpa using hlt
      refine List.pairwise_cons.2 ⟨fun z hz => ?_, insL_sorted x r h.2⟩
      rcases insL_mem hz with rfl | hz
      · exact List.le_of_lt hlt
      · exact h.1 z hz
    · rename_i hlt
      have hle : x ≤ y := List.not_lt.1 (by simpa using hlt)
      refine List.pairwise_cons.2 ⟨fun z hz => ?_, List.pairwise_cons.2 h⟩
      rcases List.mem_cons.1 hz with rfl | hz
      · exact hle
      · exact List.le_trans hle (h.1 z hz)
theorem sortS_cons (x : ByteArray) (l : List ByteArray) : sortS (x :: l) = insS x (sortS l) := rfl
theorem sortS_spec : ∀ l : List ByteArray, ((sortS l).map (fun q : ByteArray => q.data.toList)).Perm (l.map (fun q : ByteArray => q.data.toList)) ∧ ((sortS l).map (fun q : ByteArray => q.data.toList)).Pairwise (· ≤ ·)
  | [] => ⟨.refl _, .nil⟩
  | x :: l => by
    obtain ⟨h1, h2⟩ := sortS_spec l
    rw [sortS_cons, insS_map]
    exact ⟨(insL_perm _ _).trans (h1.cons _), insL_sorted _ _ h2⟩
theorem sortS_eq (l : List ByteArray) : (sortS l).map (fun q : ByteArray => q.data.toList) = (l.map (fun q : ByteArray => q.data.toList)).mergeSort fun x y => decide (x ≤ y) := by
  obtain ⟨h1, h2⟩ := sortS_spec l
  have h3 := List.pairwise_mergeSort (le := fun x y : List UInt8 => decide (x ≤ y)) (fun a b c h1 h2 => by simp only [decide_eq_true_eq] at *; exact List.le_trans h1 h2) (fun a b => by simp only [Bool.or_eq_true, decide_eq_true_eq]; exact List.le_total a b) (l.map (fun q : ByteArray => q.data.toList))
  refine List.Perm.eq_of_pairwise (le := fun x y : List UInt8 => x ≤ y) (fun a b _ _ ha hb => List.le_antisymm ha hb) h2 ?_ (h1.trans (List.mergeSort_perm _ _).symm)
  simpa using h3
theorem put_take {α : Type} [Inhabited α] (enc : α → Value) (off : Nat) (d : Array α) (cur : Array Value) (h : off + d.size ≤ cur.size) : ((putCells enc off d cur).toList.drop off).take d.size = d.toList.map enc := by
  apply List.ext_getElem?
  intro j
  by_cases hj : j < d.size
  · rw [List.getElem?_take_of_lt hj, List.getElem?_drop, Array.getElem?_toList]
    simp [putCells, hj, show off + j < cur.size by omega]
  · rw [List.getElem?_take_eq_none (by omega), List.getElem?_eq_none (by simp; omega)]
theorem put_take_le {α : Type} [Inhabited α] (enc : α → Value) (off : Nat) (d : Array α) (cur : Array Value) (h : off + d.size ≤ cur.size) (m : Nat) (hm : m ≤ d.size) : ((putCells enc off d cur).toList.drop off).take m = (d.toList.take m).map enc := by
  have := put_take enc off d cur h
  rw [List.map_take, ← this, List.take_take, Nat.min_eq_left hm]
section
variable {P : Program} {C : Cfg} {S : Nat → Addr} {f : FuncId} {w : World} {Fz : Nat → Prop} {gs : List Gh}
theorem heap_put {b off n : Nat} {cur : Array Value} {e : TypeId} (d : Array (List UInt8)) (hb : w.heap[b]? = some (.cells cur e (0, 0))) :
    (putRow encStr (Sort.ahead w n) b off d).heap[b]? = some (.cells (putCells encStr off d cur) e (0, 0)) := by
  simp [putRow, mapBlock, Sort.ahead, Array.getElem?_modify, hb, onCells]
theorem heap_put_ne {b off n k : Nat} (d : Array (List UInt8)) (h : b ≠ k) : (putRow encStr (Sort.ahead w n) b off d).heap[k]? = w.heap[k]? := by
  simp [putRow, mapBlock, Sort.ahead, Array.getElem?_modify, h]
theorem size_put {b off n : Nat} (d : Array (List UInt8)) : (putRow encStr (Sort.ahead w n) b off d).heap.size = w.heap.size := by
  simp [putRow, mapBlock, Sort.ahead]
theorem reps_strs : ∀ {l : List ByteArray} {xs : List Value}, Reps (RepT C S w Fz .str) l xs → xs = l.map Value.string
  | [], xs, h => h
  | a :: l, xs, ⟨c, r, h1, h2, h3⟩ => by rw [h1, show c = [Value.string a] from h2, reps_strs h3]; rfl
theorem strs_reps : ∀ (l : List ByteArray), Reps (RepT C S w Fz .str) l (l.map Value.string)
  | [] => rfl
  | a :: l => ⟨[.string a], l.map Value.string, rfl, rfl, strs_reps l⟩
theorem enc_back (l : List ByteArray) : (l.map (fun q : ByteArray => q.data.toList)).map encStr = l.map Value.string := by
  rw [List.map_map]
  refine List.map_congr_left fun a _ => ?_
  cases a
  rfl
theorem holds_arr {b off : Nat} {cur : Array Value} {e : TypeId} {l : List ByteArray} (hb : w.heap[b]? = some (.cells cur e (0, 0))) (hx : (cur.toList.drop off).take l.length = l.map Value.string) : Holds encStr w b off (l.map (fun q : ByteArray => q.data.toList)).toArray := by
  intro j hj
  have hj' : j < l.length := by simpa using hj
  have h1 : cur.toList[off + j]? = some (Value.string l[j]) := by
    have := congrArg (fun q => q[j]?) hx
    simp only [List.getElem?_take_of_lt hj', List.getElem?_drop, List.getElem?_map, List.getElem?_eq_getElem hj', Option.map_some] at this
    exact this
  have h2 : cur[off + j]? = some (Value.string l[j]) := by rw [← Array.getElem?_toList]; exact h1
  refine ⟨?_, ?_⟩
  · have : (encStr (l.map (fun q : ByteArray => q.data.toList)).toArray[j]!) = Value.string l[j] := by
      simp [hj', encStr]
    rw [this]
    simp [World.cell?, hb, h2]
  · simp [World.frozen?, hb]
def sortSem (e : TypeId) (x : (⟨[.one (.arr 0)], [.arr e .str]⟩ : Sh).T) : Option (⟨[.tup []], [.arr e .str]⟩ : Sh).T :=
  if (show List ByteArray from x.2.1).length ≤ 140737488355328 then some (((), ()), (sortS x.2.1, ())) else none
def compSem (e : TypeId) (x : (⟨[.one (.arr 0)], [.arr e .str]⟩ : Sh).T) : Option (⟨[.one (.arr 1)], [.dead, .arr e .str]⟩ : Sh).T :=
  if (show List ByteArray from x.2.1).length ≤ 140737488355328 then some (((), ()), ((), compS x.2.1, ())) else none
theorem sort_spec {e : TypeId} (hf : ∃ fn, P.funcs[f]? = some fn ∧ fn.body.isSome = true ∧ (fn.name == "runtime.NumGoroutine") = false)
    (h1 : ∀ (p : Option Addr) (cap : Nat) (w : World), Calls P f #[.slice p 0 cap] w fun e w' => e = .returned (.tuple #[]) ∧ w' = w)
    (h2 : ∀ (blk off cap : Nat) (ss : List (List UInt8)) (w : World) (hH : Holds encStr w blk off ss.toArray) (hblk : blk < w.heap.size) (hsz : ss.length < 4611686018427387904),
      Calls P f #[.slice (some ⟨blk, off, none⟩) ss.length cap] w fun e w' => e = .returned (.tuple #[]) ∧ ∃ n os, w' = grow (putRow encStr (Sort.ahead w n) blk off (ss.mergeSort fun x y => decide (x ≤ y)).toArray) os) :
    SpecOk P C S f ⟨⟨[.one (.arr 0)], [.arr e .str]⟩, [⟨[.tup []], [.arr e .str]⟩], sortSem e⟩ := by
  refine ⟨hf, fun w Fz gs vs x y rel hr hy => ?_⟩
  obtain ⟨⟨⟨⟩, ⟨⟩⟩, ⟨l, ⟨⟩⟩⟩ := x
  simp only [sortSem] at hy
  split at hy
  · rename_i hlen
    obtain rfl := Option.some.inj hy
    obtain ⟨l, rfl⟩ : ∃ m : List ByteArray, m = l := ⟨l, rfl⟩
    have hlen : l.length ≤ 140737488355328 := hlen
    obtain ⟨v, vs, rfl, hv, rfl⟩ := hr
    obtain ⟨g, a, n, c, hg, hgv, rfl⟩ := hv
    obtain ⟨a1, cap, xs, q1, q2, q3, q4, q5⟩ := rel.slot 0 (.arr e .str l) g rfl hg
    rw [hgv] at q1
    obtain ⟨rfl, rfl, rfl⟩ := Value.slice.inj q1
    obtain rfl := reps_strs q4
    have hpl : (sortS l).length = l.length := by
      have := congrArg List.length (sortS_eq l)
      simpa using this
    rcases q5 with ⟨k1, rfl, k3⟩ | ⟨b, off, cur, k1, rfl, k3, k4, k5⟩
    · refine (h1 a c w).mono fun ev w' ⟨j1, j2⟩ => ?_
      subst j2
      exact ⟨_, Fz, gs, .tup [], j1, rel, rfl, ⟨[], rfl, rfl⟩, Step.refl _ _ _ _⟩
    · have hH := holds_arr k3 (by simpa [Ty.size] using k5)
      have hblk : b < w.heap.size := (Array.getElem?_eq_some_iff.1 k3).1
      have hc := h2 b off c (l.map (fun q : ByteArray => q.data.toList)) w hH hblk (by simp; omega)
      rw [List.length_map] at hc
      refine hc.mono fun ev w' ⟨j1, m, os, j2⟩ => ?_
      subst j2
      rw [← sortS_eq l]
      have hsz : off + ((sortS l).map (fun q : ByteArray => q.data.toList)).toArray.size ≤ cur.size := by simp [Ty.size] at k4 ⊢; omega
      obtain ⟨r1, s1⟩ := rel.upd (w' := putRow encStr (Sort.ahead w m) b off ((sortS l).map (fun q : ByteArray => q.data.toList)).toArray) (Fz' := Fz) 1 hg (.arr e .str (sortS l)) g rfl (.inr rfl) rfl rfl rfl (size_put _) (fun k hk => heap_put_ne _ (fun e => hk (by rw [k1, e]))) (fun _ h => h) (fun _ h => .inl h)
        ⟨some ⟨b, off, none⟩, c, (sortS l).map Value.string, by rw [hgv, hpl], by omega, q3, strs_reps _, .inr ⟨b, off, _, k1, rfl, heap_put _ k3, by simpa [putCells] using k4, by
          have := put_take encStr off ((sortS l).map (fun q : ByteArray => q.data.toList)).toArray cur hsz
          rw [List.toList_toArray, enc_back] at this
          simpa [Ty.size] using this⟩⟩
      obtain ⟨r2, s2⟩ := r1.more (w' := grow (putRow encStr (Sort.ahead w m) b off ((sortS l).map (fun q : ByteArray => q.data.toList)).toArray) os) ⟨rfl, rfl, rfl, by simp [grow], fun k hk => by simp only [grow]; exact Array.getElem?_append_left hk⟩ 1
      exact ⟨_, Fz, _, .tup [], j1, r2, rfl, ⟨[], rfl, rfl⟩, s1.trans s2⟩
  · cases hy
theorem comp_spec {e : TypeId} (hf : ∃ fn, P.funcs[f]? = some fn ∧ fn.body.isSome = true ∧ (fn.name == "runtime.NumGoroutine") = false)
    (h1 : ∀ (a : Option Addr) (cap : Nat) (w : World), Calls P f #[.slice a 0 cap] w fun e w' => e = .returned (.slice a 0 cap) ∧ w' = w)
    (h2 : ∀ (blk off cap : Nat) (zs : List (List UInt8)) (w : World) (hH : Holds encStr w blk off zs.toArray) (hsz : zs.length ≤ 9223372036854775807) (hcap : zs.length ≤ cap),
      Calls P f #[.slice (some ⟨blk, off, none⟩) zs.length cap] w fun e w' => e = .returned (.slice (some ⟨blk, off, none⟩) (Lib.compact zs).length cap) ∧ ∃ q, w' = putRow encStr (Sort.ahead w q) blk off (Lib.compact zs ++ List.replicate (zs.length - (Lib.compact zs).length) []).toArray) :
    SpecOk P C S f ⟨⟨[.one (.arr 0)], [.arr e .str]⟩, [⟨[.one (.arr 1)], [.dead, .arr e .str]⟩], compSem e⟩ := by
  refine ⟨hf, fun w Fz gs vs x y rel hr hy => ?_⟩
  obtain ⟨⟨⟨⟩, ⟨⟩⟩, ⟨l, ⟨⟩⟩⟩ := x
  simp only [compSem] at hy
  split at hy
  · rename_i hlen
    obtain rfl := Option.some.inj hy
    obtain ⟨l, rfl⟩ : ∃ m : List ByteArray, m = l := ⟨l, rfl⟩
    have hlen : l.length ≤ 140737488355328 := hlen
    obtain ⟨v, vs, rfl, hv, rfl⟩ := hr
    obtain ⟨g, a, n, c, hg, hgv, rfl⟩ := hv
    obtain ⟨a1, cap, xs, q1, q2, q3, q4, q5⟩ := rel.slot 0 (.arr e .str l) g rfl hg
    rw [hgv] at q1
    obtain ⟨rfl, rfl, rfl⟩ := Value.slice.inj q1
    obtain rfl := reps_strs q4
    have hgl : gs.length = 1 := rel.len
    have hcl : (Lib.compact (l.map (fun q : ByteArray => q.data.toList))).length ≤ l.length := by
      unfold Lib.compact Lib.compactUpTo
      rw [List.length_map]
      have := List.length_filter_le (Lib.keeps (l.map fun q : ByteArray => q.data.toList).toArray) (List.range (l.map fun q : ByteArray => q.data.toList).length)
      simpa using this
    have hcm : (compS l).map (fun q : ByteArray => q.data.toList) = Lib.compact (l.map (fun q : ByteArray => q.data.toList)) := by
      unfold compS
      rw [List.map_map]
      conv => rhs; rw [← List.map_id (Lib.compact _)]
      exact List.map_congr_left fun a _ => by simp
    have hcs : (compS l).length = (Lib.compact (l.map (fun q : ByteArray => q.data.toList))).length := by simp [compS]
    have fin : ∀ (w' : World) (g' : Gh), gs.set 0 ⟨g.v, none⟩ ++ [g'] = [⟨g.v, none⟩, g'] := fun w' g' => by
      match gs, hgl, hg with
      | [g0], _, hg => rfl
    rcases q5 with ⟨k1, rfl, k3⟩ | ⟨b, off, cur, k1, rfl, k3, k4, k5⟩
    · refine (h1 a c w).mono fun ev w' ⟨j1, j2⟩ => ?_
      subst j2
      obtain ⟨r1, s1⟩ := rel.app (w' := w') 1 hg (.arr e .str []) ⟨.slice a 0 c, none⟩ rfl rfl rfl (Nat.le_refl _) (fun _ _ _ => rfl) (fun b h => by cases h) ⟨a, c, [], rfl, Nat.zero_le _, q3, rfl, .inl ⟨rfl, rfl, k3⟩⟩
      refine ⟨_, Fz, _, .one (.arr 1), j1, r1, rfl, ⟨⟨.slice a 0 c, none⟩, a, 0, c, ?_, rfl, rfl⟩, s1⟩
      rw [fin w' _]; rfl
    · have hH := holds_arr k3 (by simpa [Ty.size] using k5)
      have hc := h2 b off c (l.map (fun q : ByteArray => q.data.toList)) w hH (by simp; omega) (by simp; omega)
      rw [List.length_map] at hc
      refine hc.mono fun ev w' ⟨j1, m, j2⟩ => ?_
      subst j2
      have hds : (Lib.compact (l.map (fun q : ByteArray => q.data.toList)) ++ List.replicate (l.length - (Lib.compact (l.map (fun q : ByteArray => q.data.toList))).length) []).toArray.size = l.length := by
        simp only [List.size_toArray, List.length_append, List.length_replicate]; omega
      obtain ⟨r1, s1⟩ := rel.app (w' := putRow encStr (Sort.ahead w m) b off (Lib.compact (l.map (fun q : ByteArray => q.data.toList)) ++ List.replicate (l.length - (Lib.compact (l.map (fun q : ByteArray => q.data.toList))).length) []).toArray) 1 hg (.arr e .str (compS l)) ⟨.slice (some ⟨b, off, none⟩) (compS l).length c, some b⟩ rfl rfl rfl (by rw [size_put]; exact Nat.le_refl _) (fun k _ hk => heap_put_ne _ (fun e => hk (by rw [k1, e]))) (fun k h => by obtain rfl := Option.some.inj h; exact .inl k1)
        ⟨some ⟨b, off, none⟩, c, (compS l).map Value.string, rfl, by omega, q3, strs_reps _, .inr ⟨b, off, _, rfl, rfl, heap_put _ k3, by simpa [putCells] using k4, by
          have h0 := put_take_le encStr off (Lib.compact (l.map (fun q : ByteArray => q.data.toList)) ++ List.replicate (l.length - (Lib.compact (l.map (fun q : ByteArray => q.data.toList))).length) []).toArray cur (by rw [hds]; simp [Ty.size] at k4; omega) (compS l).length (by rw [hds]; omega)
          have hZ : (Lib.compact (l.map (fun q : ByteArray => q.data.toList))).map encStr = (compS l).map Value.string := by rw [← hcm, enc_back]
          rw [List.toList_toArray, hcs, List.take_left, hZ] at h0
          simp only [Ty.size, Nat.mul_one, hcs]
          exact h0⟩⟩
      refine ⟨_, Fz, _, .one (.arr 1), j1, r1, rfl, ⟨⟨.slice (some ⟨b, off, none⟩) (compS l).length c, some b⟩, some ⟨b, off, none⟩, (compS l).length, c, ?_, rfl, by rw [hcs]⟩, s1⟩
      rw [fin w _]; rfl
  · cases hy
end
end Go.Proofs.YtnajjhjbkanigaaDoor.Cm

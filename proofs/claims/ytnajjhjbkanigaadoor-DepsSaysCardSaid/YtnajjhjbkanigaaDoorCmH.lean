/- Code as plain functions: append, stores, parts of slices. By this session. -/
import Derived.Test.YtnajjhjbkanigaaDoorCmG
import Derived.Laws.CopyRow
namespace Go.Proofs.YtnajjhjbkanigaaDoor.Cm
open Go
set_option linter.unusedVariables false
set_option linter.unusedSimpArgs false
section
variable {P : Program} {C : Cfg} {S : Nat → Addr} {w : World} {Fz : Nat → Prop} {gs : List Gh} {tbl : List Slot} {R : Type}
theorem run_app_room (t u ty e : TypeId) (d : TypeDesc) (i : TypeInfo) (ht : P.underlying t = some (.slice e)) (hu : P.underlying u = some d) (hd : notInt d = true) (hi : P.info? e = some i)
    (a : Option Addr) (sLen sCap n : Nat) (x : Value) (hl : Builtin.lenOf x = pure n) (news : Array Value) (hx : (Builtin.firstCells i.size n x).run P w = .ok news w) (w' : World)
    (hst : (match a with | some a => storeCells (a.add (sLen * i.size)) news.toList | none => pure ()).run P w = .ok () w') (hroom : sLen + n ≤ sCap) :
    (Builtin.append_ #[t, u] ty #[.slice a sLen sCap, x]).run P w = .ok (.slice a (sLen + n) sCap) w' := by
  have hd2 : (∃ q, d = .slice q) ∨ d = .string := by
    unfold notInt at hd
    split at hd
    · exact .inl ⟨_, rfl⟩
    · exact .inr rfl
    · cases hd
  cases a with
  | none =>
    simp only [Sem.run_pure, Result.ok.injEq, true_and] at hst
    subst hst
    rcases hd2 with ⟨q, rfl⟩ | rfl <;> simp [Builtin.append_, run_underlying ht, run_underlying hu, sizeOf, typeInfo, hi, hl, hroom, hx]
  | some a =>
    rcases hd2 with ⟨q, rfl⟩ | rfl <;> simp [Builtin.append_, run_underlying ht, run_underlying hu, sizeOf, typeInfo, hi, hl, hroom, hx, hst]
theorem run_app_grow (t u ty e : TypeId) (d : TypeDesc) (i : TypeInfo) (z : Value) (ht : P.underlying t = some (.slice e)) (hu : P.underlying u = some d) (hd : notInt d = true) (hi : P.info? e = some i) (hz : i.zero = some z)
    (a : Option Addr) (sLen sCap n : Nat) (x : Value) (hl : Builtin.lenOf x = pure n) (olds news : Array Value) (ho : (Builtin.firstCells i.size sLen (.slice a sLen sCap)).run P w.drew = .ok olds w.drew) (hx : (Builtin.firstCells i.size n x).run P w.drew = .ok news w.drew)
    (hg : sCap < sLen + n) (h63 : ((sLen + n : Nat) : Int) ≤ 9223372036854775807) (hfit : Builtin.nextslicecap (sLen + n) sCap * i.bytes ≤ 281474976710656) :
    (Builtin.append_ #[t, u] ty #[.slice a sLen sCap, x]).run P w =
      .ok (.slice (some ⟨w.heap.size, 0, none⟩) (sLen + n) (grownCap w (sLen + n) sCap e))
        (w.drew.alloc (.cells (olds ++ news ++ Builtin.zeroCells z.cells (grownCap w (sLen + n) sCap e - (sLen + n))) e)) := by
  have hn : ¬ (sLen + n ≤ sCap) := by omega
  have h63' : ¬ (9223372036854775807 < ((sLen : Int) + (n : Int))) := by omega
  have h48' : ¬ (281474976710656 < Builtin.nextslicecap (sLen + n) sCap * i.bytes) := by omega
  have hd2 : (∃ q, d = .slice q) ∨ d = .string := by
    unfold notInt at hd
    split at hd
    · exact .inl ⟨_, rfl⟩
    · exact .inr rfl
    · cases hd
  rcases hd2 with ⟨q, rfl⟩ | rfl <;> simp [Builtin.append_, run_underlying ht, run_underlying hu, sizeOf, typeInfo, zeroValue, hi, hz, hl, hn, h63', h48', Question.forced, hx, ho, newRow, grownCap]
theorem Reps.one {α : Type} {R : α → List Value → Prop} (h : ∀ a c, R a c → ∀ u ∈ c, u.oneCell' = true) : ∀ {l : List α} {xs : List Value}, Reps R l xs → ∀ u ∈ xs, u.oneCell' = true
  | [], xs, r => by rw [show xs = [] from r]; simp
  | a :: l, xs, ⟨c, q, h1, h2, h3⟩ => by
    rw [h1]
    intro u hu
    exact (List.mem_append.1 hu).elim (h a c h2 u) (Reps.one h h3 u)
/-- What may be appended. -/
def Src (P : Program) (C : Cfg) (S : Nat → Addr) (w : World) (Fz : Nat → Prop) (t : Ty) (x : Value) (l : List t.T) : Prop :=
  Builtin.lenOf x = pure l.length ∧ ∃ xs : List Value, Reps (RepT C S w Fz t) l xs ∧ ∀ w', More w w' → (Builtin.firstCells t.size l.length x).run P w' = .ok xs.toArray w'
theorem src_ok (rel : Rel C S w Fz gs tbl) {t : Ty} {l : Lf} {v : Value} {x : List t.T} (hr : RepL C S w Fz gs l v) (h : listOf t l tbl = some x) : Src P C S w Fz t v x := by
  by_cases hs : ∃ s, l = .val .str s
  · obtain ⟨s, rfl⟩ := hs
    obtain rfl : v = .string s := by simpa [RepL, RepT] using hr
    unfold listOf at h
    simp only at h
    split at h
    · obtain rfl := Option.some.inj h
      have hl : (bytesL s).length = s.size := by rw [bytesL, List.length_map, Array.length_toList]; rfl
      refine ⟨by rw [hl]; rfl, (bytesL s).map (Value.int .u8), ?_, fun w' _ => ?_⟩
      · generalize bytesL s = l
        induction l with
        | nil => rfl
        | cons a l ih => exact ⟨[.int .u8 a], l.map (Value.int .u8), rfl, rfl, ih⟩
      · rw [hl]
        simp only [Builtin.firstCells, Sem.run_pure]
        congr 1
        have : s.extract 0 s.size = s := by simp
        rw [this]
        apply Array.ext'
        simp [bytesL, List.map_map, Function.comp_def]
    · cases h
  · obtain ⟨a, cap, xs, rfl, h1, h2, h3⟩ := listOf_ok rel hr (fun s e => hs ⟨s, e⟩) h
    refine ⟨rfl, xs, h2, fun w' hm => ?_⟩
    have hl := Reps.length (fun _ _ q => RepT.size q) h2
    rcases h3 with h3 | ⟨ad, rfl, _, h4⟩
    · subst h3
      cases a with
      | none => rfl
      | some ad => exact run_firstCells_some w' t.size x.length ad x.length cap [] hl (by simp)
    · refine run_firstCells_some w' t.size x.length ad x.length cap xs hl (fun j u hj => ?_)
      have hc := h4 j u hj
      have := World.block_lt_of_cell? w _ hc
      rw [World.cell?_of_block (hm.heap _ this)]
      exact hc
theorem drew_more (w : World) : More w w.drew := More.drew w
/-- One's own slice, or none with room, with something appended. -/
theorem append_core (rel : Rel C S w Fz gs tbl) {t u ty e : TypeId} {d : TypeDesc} {i : TypeInfo} {z : Value} (ht : P.underlying t = some (.slice e)) (hu : P.underlying u = some d) (hd : notInt d = true) (hi : P.info? e = some i) (hz : i.zero = some z)
    {k : Ty} (hsz : i.size = k.size) (hzs : z.cells.size = k.size) (hpos : 0 < k.size) (hby : 0 < i.bytes) {l l' : List k.T} {a : Option Addr} {cap : Nat} {xs : List Value} {own : Option Nat}
    (hc : l.length ≤ cap) (hcm : cap ≤ maxLen) (hr : Reps (RepT C S w Fz k) l xs)
    (hown : (own = none ∧ l = [] ∧ cap = 0) ∨ ∃ b off cur, own = some b ∧ a = some ⟨b, off, none⟩ ∧ w.heap[b]? = some (.cells cur e (0, 0)) ∧ off + cap * k.size ≤ cur.size ∧ (cur.toList.drop off).take (l.length * k.size) = xs)
    {x : Value} (hsrc : Src P C S w Fz k x l') (hfit : (l.length + l'.length) * i.bytes ≤ 140737488355328) :
    ∃ (a' : Option Addr) (cap' : Nat) (w' : World) (ys : List Value) (own' : Option Nat), (Builtin.append_ #[t, u] ty #[.slice a l.length cap, x]).run P w = .ok (.slice a' (l ++ l').length cap') w' ∧ (l ++ l').length ≤ cap' ∧ cap' ≤ maxLen ∧
      w'.os = w.os ∧ w'.tape = w.tape ∧ w'.output = w.output ∧ w.heap.size ≤ w'.heap.size ∧ (∀ b, b < w.heap.size → own ≠ some b → w'.heap[b]? = w.heap[b]?) ∧ Reps (RepT C S w Fz k) (l ++ l') ys ∧ (∀ b, own' = some b → own = some b ∨ (w.heap.size ≤ b ∧ b < w'.heap.size)) ∧
      ((own' = none ∧ l ++ l' = [] ∧ cap' = 0) ∨ ∃ b off cur, own' = some b ∧ a' = some ⟨b, off, none⟩ ∧ w'.heap[b]? = some (.cells cur e (0, 0)) ∧ off + cap' * k.size ≤ cur.size ∧ (cur.toList.drop off).take ((l ++ l').length * k.size) = ys) := by
  obtain ⟨hlen, news, hn1, hn2⟩ := hsrc
  have hnl := Reps.length (fun _ _ q => RepT.size q) hn1
  have hxl := Reps.length (fun _ _ q => RepT.size q) hr
  have hsmall : l.length + l'.length ≤ maxLen := by
    have := Nat.le_mul_of_pos_right (l.length + l'.length) hby
    simp only [maxLen]
    omega
  have hrep : Reps (RepT C S w Fz k) (l ++ l') (xs ++ news) := hr.append hn1
  have hone : ∀ q ∈ news, q.oneCell' = true := Reps.one (fun _ _ q => RepT.one q) hn1
  by_cases hroom : l.length + l'.length ≤ cap
  · rcases hown with ⟨h1, h2, h3⟩ | ⟨b, off, cur, h1, h2, h3, h4, h5⟩
    · subst h2; subst h3
      have h0 : l' = [] := List.eq_nil_of_length_eq_zero (by simp only [List.length_nil] at hroom; omega)
      subst h0
      rw [show news = [] from hn1] at hn2
      have hrun := run_app_room (w := w) t u ty e d i ht hu hd hi a 0 0 0 x hlen #[] (by rw [hsz]; exact hn2 w (More.refl w)) w (by cases a <;> rfl) (Nat.le_refl _)
      exact ⟨a, 0, w, [], none, hrun, Nat.le_refl _, by simp [maxLen], rfl, rfl, rfl, Nat.le_refl _, fun _ _ _ => rfl, rfl, by simp, .inl ⟨rfl, rfl, rfl⟩⟩
    · subst h2
      have hmul : (l.length + l'.length) * k.size ≤ cap * k.size := Nat.mul_le_mul_right _ hroom
      rw [Nat.add_mul] at hmul
      have hst := run_storeCells_at P b (off + l.length * i.size) e news 0 cur w h3 (by rw [hsz]; omega) hone
      simp only [Nat.add_zero] at hst
      have hrun := run_app_room (w := w) t u ty e d i ht hu hd hi (some ⟨b, off, none⟩) l.length cap l'.length x hlen news.toArray (by rw [hsz]; exact hn2 w (More.refl w)) _ (by show (storeCells ((⟨b, off, none⟩ : Addr).add (l.length * i.size)) news).run P w = _; rw [Addr.add_lit]; exact hst) hroom
      refine ⟨some ⟨b, off, none⟩, cap, w.setRow b (cur.toList.take (off + l.length * i.size) ++ news ++ cur.toList.drop (off + l.length * i.size + news.length)).toArray, xs ++ news, some b, by rw [List.length_append]; exact hrun, by rw [List.length_append]; exact hroom, hcm, rfl, rfl, rfl, by simp, fun q hq hne => setRow_other w b q _ (fun e => hne (by rw [h1, e])), hrep, fun q hq => .inl (h1.trans hq), .inr ⟨b, off, _, rfl, rfl, setRow_heap w b cur _ e _ h3, ?_, ?_⟩⟩
      · simp only [List.size_toArray, List.length_append, List.length_take, List.length_drop, Array.length_toList, hsz]
        omega
      · rw [List.length_append, Nat.add_mul, ← hnl, ← hxl]
        have e1 : (cur.toList.take (off + l.length * i.size)).length = off + l.length * i.size := by
          rw [List.length_take, show cur.toList.length = cur.size from Array.length_toList, hsz]
          omega
        have e2 : (cur.toList.take (off + l.length * i.size)).drop off = xs := by
          rw [List.drop_take, hsz, ← h5]
          congr 1
          omega
        have e3 : ∀ (q : List Value), (cur.toList.take (off + l.length * i.size) ++ news ++ q).drop off = xs ++ news ++ q := by
          intro q
          rw [List.append_assoc, List.drop_append_of_le_length (by rw [e1]; omega), e2, List.append_assoc]
        rw [e3, ← List.length_append, List.take_left]
  · have hg : cap < l.length + l'.length := by omega
    have hold : ∃ olds : Array Value, (Builtin.firstCells i.size l.length (.slice a l.length cap)).run P w.drew = .ok olds w.drew ∧ olds.toList = xs := by
      rcases hown with ⟨h1, h2, h3⟩ | ⟨b, off, cur, h1, h2, h3, h4, h5⟩
      · subst h2
        rw [show xs = [] from hr]
        cases a with
        | none => exact ⟨#[], rfl, rfl⟩
        | some ad => exact ⟨#[], run_firstCells_some w.drew i.size 0 ad 0 cap [] (by simp) (by simp), rfl⟩
      · subst h2
        refine ⟨xs.toArray, run_firstCells_some w.drew i.size l.length ⟨b, off, none⟩ l.length cap xs (by rw [hsz]; exact hxl) (fun j q hj => ?_), rfl⟩
        rcases arr_lies (Fz := fun _ => True) (e := e) (t := k) (n := 0) h3 h5 trivial with q | ⟨ad, q1, q2, q3, q4⟩
        · rw [q] at hj; simp at hj
        · obtain rfl := Option.some.inj q1
          exact q4 j _ hj
    obtain ⟨olds, ho1, ho2⟩ := hold
    have hrun := run_app_grow (w := w) t u ty e d i z ht hu hd hi hz a l.length cap l'.length x hlen olds news.toArray ho1 (by rw [hsz]; exact hn2 w.drew (drew_more w)) hg (by simp only [maxLen] at hsmall; omega) (growslice_fits hg hfit)
    have hge := grownCap_ge w (l.length + l'.length) cap e
    have hle := grownCap_le_maxLen w (l.length + l'.length) cap e hsmall
    have hol : olds.size = l.length * k.size := by rw [← Array.length_toList, ho2, hxl]
    refine ⟨some ⟨w.heap.size, 0, none⟩, grownCap w (l.length + l'.length) cap e, w.drew.alloc (.cells (olds ++ news.toArray ++ Builtin.zeroCells z.cells (grownCap w (l.length + l'.length) cap e - (l.length + l'.length))) e), xs ++ news, some w.heap.size, by rw [List.length_append]; exact hrun, by rw [List.length_append]; exact hge, hle, rfl, rfl, rfl, by simp, fun q hq _ => (MapKept.heap_alloc w.drew _).2 _ hq, hrep, fun q hq => .inr (by obtain rfl := Option.some.inj hq; simp), .inr ⟨w.heap.size, 0, _, rfl, rfl, heap_alloc_new w.drew _, ?_, ?_⟩⟩
    · simp only [Array.size_append, List.size_toArray, size_zeroCells, hzs, hol, hnl, Nat.zero_add, ← Nat.add_mul]
      rw [show l.length + l'.length + (grownCap w (l.length + l'.length) cap e - (l.length + l'.length)) = grownCap w (l.length + l'.length) cap e by omega]
      exact Nat.le_refl _
    · simp only [List.drop_zero, Array.toList_append, ho2]
      rw [List.length_append, Nat.add_mul, ← hnl, ← hxl, ← List.length_append, List.take_left]
/-- One's own slice, or none with room, with something appended; what was there is there. -/
theorem append_core2 (rel : Rel C S w Fz gs tbl) {t u ty e : TypeId} {d : TypeDesc} {i : TypeInfo} {z : Value} (ht : P.underlying t = some (.slice e)) (hu : P.underlying u = some d) (hd : notInt d = true) (hi : P.info? e = some i) (hz : i.zero = some z)
    {k : Ty} (hsz : i.size = k.size) (hzs : z.cells.size = k.size) (hpos : 0 < k.size) (hby : 0 < i.bytes) {l l' : List k.T} {a : Option Addr} {cap : Nat} {xs : List Value} {own : Option Nat}
    (hc : l.length ≤ cap) (hcm : cap ≤ maxLen) (hr : Reps (RepT C S w Fz k) l xs)
    (hown : (own = none ∧ l = [] ∧ cap = 0) ∨ ∃ b off cur, own = some b ∧ a = some ⟨b, off, none⟩ ∧ w.heap[b]? = some (.cells cur e (0, 0)) ∧ off + cap * k.size ≤ cur.size ∧ (cur.toList.drop off).take (l.length * k.size) = xs)
    {x : Value} (hsrc : Src P C S w Fz k x l') (hfit : (l.length + l'.length) * i.bytes ≤ 140737488355328) :
    ∃ (a' : Option Addr) (cap' : Nat) (w' : World) (ys : List Value) (own' : Option Nat), (Builtin.append_ #[t, u] ty #[.slice a l.length cap, x]).run P w = .ok (.slice a' (l ++ l').length cap') w' ∧ (l ++ l').length ≤ cap' ∧ cap' ≤ maxLen ∧
      w'.os = w.os ∧ w'.tape = w.tape ∧ w'.output = w.output ∧ w.heap.size ≤ w'.heap.size ∧ (∀ b, b < w.heap.size → own ≠ some b → w'.heap[b]? = w.heap[b]?) ∧ Reps (RepT C S w Fz k) (l ++ l') ys ∧ (∀ b, own' = some b → own = some b ∨ (w.heap.size ≤ b ∧ b < w'.heap.size)) ∧
      ((own' = none ∧ l ++ l' = [] ∧ cap' = 0) ∨ ∃ b off cur, own' = some b ∧ a' = some ⟨b, off, none⟩ ∧ w'.heap[b]? = some (.cells cur e (0, 0)) ∧ off + cap' * k.size ≤ cur.size ∧ (cur.toList.drop off).take ((l ++ l').length * k.size) = ys) ∧
      (∀ b off, own = some b → a = some ⟨b, off, none⟩ → ∃ cur', w'.heap[b]? = some (.cells cur' e (0, 0)) ∧ (cur'.toList.drop off).take (l.length * k.size) = xs) := by
  obtain ⟨hlen, news, hn1, hn2⟩ := hsrc
  have hnl := Reps.length (fun _ _ q => RepT.size q) hn1
  have hxl := Reps.length (fun _ _ q => RepT.size q) hr
  have hsmall : l.length + l'.length ≤ maxLen := by
    have := Nat.le_mul_of_pos_right (l.length + l'.length) hby
    simp only [maxLen]
    omega
  have hrep : Reps (RepT C S w Fz k) (l ++ l') (xs ++ news) := hr.append hn1
  have hone : ∀ q ∈ news, q.oneCell' = true := Reps.one (fun _ _ q => RepT.one q) hn1
  by_cases hroom : l.length + l'.length ≤ cap
  · rcases hown with ⟨h1, h2, h3⟩ | ⟨b, off, cur, h1, h2, h3, h4, h5⟩
    · subst h2; subst h3
      have h0 : l' = [] := List.eq_nil_of_length_eq_zero (by simp only [List.length_nil] at hroom; omega)
      subst h0
      rw [show news = [] from hn1] at hn2
      have hrun := run_app_room (w := w) t u ty e d i ht hu hd hi a 0 0 0 x hlen #[] (by rw [hsz]; exact hn2 w (More.refl w)) w (by cases a <;> rfl) (Nat.le_refl _)
      exact ⟨a, 0, w, [], none, hrun, Nat.le_refl _, by simp [maxLen], rfl, rfl, rfl, Nat.le_refl _, fun _ _ _ => rfl, rfl, by simp, .inl ⟨rfl, rfl, rfl⟩, fun b off hb => by rw [h1] at hb; cases hb⟩
    · subst h2
      have hmul : (l.length + l'.length) * k.size ≤ cap * k.size := Nat.mul_le_mul_right _ hroom
      rw [Nat.add_mul] at hmul
      have hst := run_storeCells_at P b (off + l.length * i.size) e news 0 cur w h3 (by rw [hsz]; omega) hone
      simp only [Nat.add_zero] at hst
      have hrun := run_app_room (w := w) t u ty e d i ht hu hd hi (some ⟨b, off, none⟩) l.length cap l'.length x hlen news.toArray (by rw [hsz]; exact hn2 w (More.refl w)) _ (by show (storeCells ((⟨b, off, none⟩ : Addr).add (l.length * i.size)) news).run P w = _; rw [Addr.add_lit]; exact hst) hroom
      refine ⟨some ⟨b, off, none⟩, cap, w.setRow b (cur.toList.take (off + l.length * i.size) ++ news ++ cur.toList.drop (off + l.length * i.size + news.length)).toArray, xs ++ news, some b, by rw [List.length_append]; exact hrun, by rw [List.length_append]; exact hroom, hcm, rfl, rfl, rfl, by simp, fun q hq hne => setRow_other w b q _ (fun e => hne (by rw [h1, e])), hrep, fun q hq => .inl (h1.trans hq), .inr ⟨b, off, _, rfl, rfl, setRow_heap w b cur _ e _ h3, ?_, ?_⟩, fun b2 off2 hb2 ha2 => ?_⟩
      · simp only [List.size_toArray, List.length_append, List.length_take, List.length_drop, Array.length_toList, hsz]
        omega
      · rw [List.length_append, Nat.add_mul, ← hnl, ← hxl]
        have e1 : (cur.toList.take (off + l.length * i.size)).length = off + l.length * i.size := by
          rw [List.length_take, show cur.toList.length = cur.size from Array.length_toList, hsz]
          omega
        have e2 : (cur.toList.take (off + l.length * i.size)).drop off = xs := by
          rw [List.drop_take, hsz, ← h5]
          congr 1
          omega
        have e3 : ∀ (q : List Value), (cur.toList.take (off + l.length * i.size) ++ news ++ q).drop off = xs ++ news ++ q := by
          intro q
          rw [List.append_assoc, List.drop_append_of_le_length (by rw [e1]; omega), e2, List.append_assoc]
        rw [e3, ← List.length_append, List.take_left]
      · rw [h1] at hb2
        obtain rfl := Option.some.inj hb2
        simp only [Option.some.injEq, Addr.mk.injEq, true_and, and_true] at ha2
        subst ha2
        refine ⟨_, setRow_heap w b cur _ e _ h3, ?_⟩
        have e1 : (cur.toList.take (off + l.length * i.size)).length = off + l.length * i.size := by
          rw [List.length_take, show cur.toList.length = cur.size from Array.length_toList, hsz]
          omega
        have e2 : (cur.toList.take (off + l.length * i.size)).drop off = xs := by
          rw [List.drop_take, hsz, ← h5]
          congr 1
          omega
        show ((cur.toList.take (off + l.length * i.size) ++ news ++ cur.toList.drop (off + l.length * i.size + news.length)).drop off).take (l.length * k.size) = xs
        rw [List.append_assoc, List.drop_append_of_le_length (by rw [e1]; omega), e2, ← hxl, List.take_left]
  · have hg : cap < l.length + l'.length := by omega
    have hold : ∃ olds : Array Value, (Builtin.firstCells i.size l.length (.slice a l.length cap)).run P w.drew = .ok olds w.drew ∧ olds.toList = xs := by
      rcases hown with ⟨h1, h2, h3⟩ | ⟨b, off, cur, h1, h2, h3, h4, h5⟩
      · subst h2
        rw [show xs = [] from hr]
        cases a with
        | none => exact ⟨#[], rfl, rfl⟩
        | some ad => exact ⟨#[], run_firstCells_some w.drew i.size 0 ad 0 cap [] (by simp) (by simp), rfl⟩
      · subst h2
        refine ⟨xs.toArray, run_firstCells_some w.drew i.size l.length ⟨b, off, none⟩ l.length cap xs (by rw [hsz]; exact hxl) (fun j q hj => ?_), rfl⟩
        rcases arr_lies (Fz := fun _ => True) (e := e) (t := k) (n := 0) h3 h5 trivial with q | ⟨ad, q1, q2, q3, q4⟩
        · rw [q] at hj; simp at hj
        · obtain rfl := Option.some.inj q1
          exact q4 j _ hj
    obtain ⟨olds, ho1, ho2⟩ := hold
    have hrun := run_app_grow (w := w) t u ty e d i z ht hu hd hi hz a l.length cap l'.length x hlen olds news.toArray ho1 (by rw [hsz]; exact hn2 w.drew (drew_more w)) hg (by simp only [maxLen] at hsmall; omega) (growslice_fits hg hfit)
    have hge := grownCap_ge w (l.length + l'.length) cap e
    have hle := grownCap_le_maxLen w (l.length + l'.length) cap e hsmall
    have hol : olds.size = l.length * k.size := by rw [← Array.length_toList, ho2, hxl]
    refine ⟨some ⟨w.heap.size, 0, none⟩, grownCap w (l.length + l'.length) cap e, w.drew.alloc (.cells (olds ++ news.toArray ++ Builtin.zeroCells z.cells (grownCap w (l.length + l'.length) cap e - (l.length + l'.length))) e), xs ++ news, some w.heap.size, by rw [List.length_append]; exact hrun, by rw [List.length_append]; exact hge, hle, rfl, rfl, rfl, by simp, fun q hq _ => (MapKept.heap_alloc w.drew _).2 _ hq, hrep, fun q hq => .inr (by obtain rfl := Option.some.inj hq; simp), .inr ⟨w.heap.size, 0, _, rfl, rfl, heap_alloc_new w.drew _, ?_, ?_⟩, fun b2 off2 hb2 ha2 => ?_⟩
    · simp only [Array.size_append, List.size_toArray, size_zeroCells, hzs, hol, hnl, Nat.zero_add, ← Nat.add_mul]
      rw [show l.length + l'.length + (grownCap w (l.length + l'.length) cap e - (l.length + l'.length)) = grownCap w (l.length + l'.length) cap e by omega]
      exact Nat.le_refl _
    · simp only [List.drop_zero, Array.toList_append, ho2]
      rw [List.length_append, Nat.add_mul, ← hnl, ← hxl, ← List.length_append, List.take_left]
    · rcases hown with ⟨h1, _, _⟩ | ⟨b, off, cur, h1, h2, h3, h4, h5⟩
      · rw [h1] at hb2; cases hb2
      · rw [h1] at hb2
        obtain rfl := Option.some.inj hb2
        rw [h2] at ha2
        simp only [Option.some.injEq, Addr.mk.injEq, true_and, and_true] at ha2
        subst ha2
        exact ⟨cur, ((MapKept.heap_alloc w.drew _).2 _ (Array.getElem?_eq_some_iff.1 h3).1).trans h3, h5⟩
/-- A slice without room, plain data, with something appended. -/
theorem append_full (rel : Rel C S w Fz gs tbl) {t u ty e : TypeId} {d : TypeDesc} {i : TypeInfo} {z : Value} (ht : P.underlying t = some (.slice e)) (hu : P.underlying u = some d) (hd : notInt d = true) (hi : P.info? e = some i) (hz : i.zero = some z)
    {k : Ty} (hsz : i.size = k.size) (hzs : z.cells.size = k.size) (hpos : 0 < k.size) (hby : 0 < i.bytes) {l l' : List k.T} {a : Option Addr} {xs : List Value}
    (hr : Reps (RepT C S w Fz k) l xs) (hlie : Lies w Fz a xs)
    {x : Value} (hsrc : Src P C S w Fz k x l') (hne : 0 < l'.length) (hfit : (l.length + l'.length) * i.bytes ≤ 140737488355328) :
    ∃ (a' : Option Addr) (cap' : Nat) (w' : World) (ys : List Value) (own' : Option Nat), (Builtin.append_ #[t, u] ty #[.slice a l.length l.length, x]).run P w = .ok (.slice a' (l ++ l').length cap') w' ∧ (l ++ l').length ≤ cap' ∧ cap' ≤ maxLen ∧
      More w w' ∧ Reps (RepT C S w Fz k) (l ++ l') ys ∧ (∀ b, own' = some b → w.heap.size ≤ b ∧ b < w'.heap.size) ∧
      ((own' = none ∧ l ++ l' = [] ∧ cap' = 0) ∨ ∃ b off cur, own' = some b ∧ a' = some ⟨b, off, none⟩ ∧ w'.heap[b]? = some (.cells cur e (0, 0)) ∧ off + cap' * k.size ≤ cur.size ∧ (cur.toList.drop off).take ((l ++ l').length * k.size) = ys) := by
  obtain ⟨hlen, news, hn1, hn2⟩ := hsrc
  have hnl := Reps.length (fun _ _ q => RepT.size q) hn1
  have hxl := Reps.length (fun _ _ q => RepT.size q) hr
  have hsmall : l.length + l'.length ≤ maxLen := by
    have := Nat.le_mul_of_pos_right (l.length + l'.length) hby
    simp only [maxLen]
    omega
  have hrep : Reps (RepT C S w Fz k) (l ++ l') (xs ++ news) := hr.append hn1
  have hg : l.length < l.length + l'.length := by omega
  have hold : ∃ olds : Array Value, (Builtin.firstCells i.size l.length (.slice a l.length l.length)).run P w.drew = .ok olds w.drew ∧ olds.toList = xs := by
    rcases hlie with h | ⟨ad, rfl, h2, h3, h4⟩
    · subst h
      have h0 : l.length = 0 := by
        rcases Nat.eq_zero_or_pos l.length with h | h
        · exact h
        · exfalso
          have := Nat.mul_pos h hpos
          rw [← hxl] at this
          simp at this
      rw [h0]
      cases a with
      | none => exact ⟨#[], rfl, rfl⟩
      | some ad => exact ⟨#[], run_firstCells_some w.drew i.size 0 ad 0 0 [] (by simp) (by simp), rfl⟩
    · exact ⟨xs.toArray, run_firstCells_some w.drew i.size l.length ad l.length l.length xs (by rw [hsz]; exact hxl) (fun j q hj => h4 j q hj), rfl⟩
  obtain ⟨olds, ho1, ho2⟩ := hold
  have hrun := run_app_grow (w := w) t u ty e d i z ht hu hd hi hz a l.length l.length l'.length x hlen olds news.toArray ho1 (by rw [hsz]; exact hn2 w.drew (drew_more w)) hg (by simp only [maxLen] at hsmall; omega) (growslice_fits hg hfit)
  have hge := grownCap_ge w (l.length + l'.length) l.length e
  have hle := grownCap_le_maxLen w (l.length + l'.length) l.length e hsmall
  have hol : olds.size = l.length * k.size := by rw [← Array.length_toList, ho2, hxl]
  refine ⟨some ⟨w.heap.size, 0, none⟩, grownCap w (l.length + l'.length) l.length e, w.drew.alloc (.cells (olds ++ news.toArray ++ Builtin.zeroCells z.cells (grownCap w (l.length + l'.length) l.length e - (l.length + l'.length))) e), xs ++ news, some w.heap.size, by rw [List.length_append]; exact hrun, by rw [List.length_append]; exact hge, hle, ⟨rfl, rfl, rfl, by simp, fun q hq => (MapKept.heap_alloc w.drew _).2 _ hq⟩, hrep, fun q hq => by obtain rfl := Option.some.inj hq; simp, .inr ⟨w.heap.size, 0, _, rfl, rfl, heap_alloc_new w.drew _, ?_, ?_⟩⟩
  · simp only [Array.size_append, List.size_toArray, size_zeroCells, hzs, hol, hnl, Nat.zero_add, ← Nat.add_mul]
    rw [show l.length + l'.length + (grownCap w (l.length + l'.length) l.length e - (l.length + l'.length)) = grownCap w (l.length + l'.length) l.length e by omega]
    exact Nat.le_refl _
  · simp only [List.drop_zero, Array.toList_append, ho2]
    rw [List.length_append, Nat.add_mul, ← hnl, ← hxl, ← List.length_append, List.take_left]
end
end Go.Proofs.YtnajjhjbkanigaaDoor.Cm

/- A law's arguments, opened: what a reading of any type by its kinds says, part by part; and the sentinels out of what a row lists. By this session. -/
import Derived.SizedLaws
import Derived.ChangeSlices
import Derived.ChangeArms
import Derived.LaidLaws
import Derived.LaidSub
import Derived.ProofKit
import Derived.Test.YtjccbolnjnefiaaDoorWWords
namespace Go.Proofs.YtjccbolnjnefiaaDoor.Rd
open Go.ChangeShapes Go.WideShapes Go.RowKit Go.Proofs.YtjccbolnjnefiaaDoorW.PrintWords
set_option linter.unusedVariables false

/-- What reads as a value of type t is cells of kind d, and good. -/
def Rd {α : Type} (P : Program) (W : World) (t : TypeId) (d : Kd α) (good : α → Prop) : Prop :=
  ∀ {H : Type} {enc : TypeId × Value → H} {base : Nat} {sp : Nat → Bool} {held : Bool} {fuel : Nat} {cs : List Value} {x : DataW H × List MemPlace},
    DataW.trod enc P W base sp held fuel t cs = some x → (DataW.weights P t x.1).all (· ≤ reachBytes) = true → ∃ a : α, d.K W a cs ∧ good a

variable {P : Program} {W : World}

theorem rd_int {t : TypeId} {k : IntKind} (ht : P.underlying t = some (.int k)) : Rd P W t (Kd.int k) (fun n => (Lit.int k n).wf = true) := by
  intro H enc base sp held fuel cs x h _
  obtain ⟨n, rfl, _, hw⟩ := DataW.trod_int ht h
  exact ⟨n, rfl, hw⟩
theorem rd_bool {t : TypeId} (ht : P.underlying t = some .bool) : Rd P W t Kd.bool (fun _ => True) := by
  intro H enc base sp held fuel cs x h _
  obtain ⟨b, rfl, _⟩ := DataW.trod_bool ht h
  exact ⟨b, rfl, trivial⟩
theorem rd_string {t : TypeId} (ht : P.underlying t = some .string) : Rd P W t Kd.string (fun s => s.size ≤ 140737488351232) := by
  intro H enc base sp held fuel cs x h hz
  obtain ⟨s, rfl, rfl, _⟩ := DataW.trod_string ht h
  refine ⟨s, rfl, ?_⟩
  simp only [DataW.weights, List.all_cons, List.all_nil, Bool.and_true] at hz
  have hz := of_decide_eq_true hz
  rw [Array.length_toList] at hz
  exact hz

theorem weightsAll_mem {H : Type} (e : TypeId) : ∀ {l : List (DataW H)}, (DataW.weightsAll P e l).all (· ≤ reachBytes) = true → ∀ d ∈ l, (DataW.weights P e d).all (· ≤ reachBytes) = true
  | [], _, d, hd => by cases hd
  | a :: r, h, d, hd => by
    simp only [DataW.weightsAll, List.all_append, Bool.and_eq_true] at h
    rcases List.mem_cons.1 hd with rfl | hd
    · exact h.1
    · exact weightsAll_mem e h.2 d hd
theorem weightsEach_get {H : Type} : ∀ {ts : List TypeId} {l : List (DataW H)}, (DataW.weightsEach P ts l).all (· ≤ reachBytes) = true → ∀ (i : Nat) t d, ts[i]? = some t → l[i]? = some d → (DataW.weights P t d).all (· ≤ reachBytes) = true
  | [], l, h, i, t, d, ht, hd => by simp at ht
  | t0 :: ts, [], h, i, t, d, ht, hd => by simp at hd
  | t0 :: ts, a :: r, h, i, t, d, ht, hd => by
    simp only [DataW.weightsEach, List.all_append, Bool.and_eq_true] at h
    cases i with
    | zero =>
      simp only [List.getElem?_cons_zero, Option.some.injEq] at ht hd
      subst ht; subst hd
      exact h.1
    | succ i =>
      simp only [List.getElem?_cons_succ] at ht hd
      exact weightsEach_get h.2 i t d ht hd

/-- A row of cells, each element read: one list for all. -/
theorem row_of {α : Type} {d : Kd α} {good : α → Prop} {ad : Addr} (n m : Nat) (hm : n ≤ m)
    (h : ∀ i, i < n → ∃ (cs : List Value) (a : α), (∀ j u, cs[j]? = some u → W.cell? (ad.add (i * d.sz + j)) = some u) ∧ d.K W a cs ∧ good a) :
    ∃ xs : List α, xs.length = n ∧ (∀ i (hi : i < n), ∃ (cs : List Value) (a : α), xs[i]? = some a ∧ (∀ j u, cs[j]? = some u → W.cell? (ad.add (i * d.sz + j)) = some u) ∧ d.K W a cs) ∧ ∀ x ∈ xs, good x := by
  induction n with
  | zero => exact ⟨[], rfl, fun i hi => absurd hi (by omega), fun x hx => by cases hx⟩
  | succ n ih =>
    obtain ⟨xs, hl, hx, hg⟩ := ih (by omega) (fun i hi => h i (by omega))
    obtain ⟨cs, a, hc, hk, hgood⟩ := h n (by omega)
    refine ⟨xs ++ [a], by simp [hl], fun i hi => ?_, fun x hx' => ?_⟩
    · rcases Nat.lt_or_ge i n with hlt | hge
      · obtain ⟨cs', a', h1, h2, h3⟩ := hx i hlt
        exact ⟨cs', a', by rw [List.getElem?_append_left (by omega)]; exact h1, h2, h3⟩
      · have : i = n := by omega
        subst this
        exact ⟨cs, a, by rw [← hl]; simp, hc, hk⟩
    · rcases List.mem_append.1 hx' with hx' | hx'
      · exact hg x hx'
      · rw [List.mem_singleton.1 hx']; exact hgood

theorem rd_slice {α : Type} {t e : TypeId} {d : Kd α} {good : α → Prop} {B : Nat} (ht : P.underlying t = some (.slice e)) (hc : P.cellsOf e = d.sz) (hB : P.bytesOf e = B) (he : Rd P W e d good) :
    Rd P W t (Kd.slice e d) (fun xs => xs.length * B ≤ 140737488351232 ∧ ∀ x ∈ xs, good x) := by
  intro H enc base sp held fuel cs x h hz
  rcases DataW.trod_slice ht h with ⟨rfl, _⟩ | ⟨a, len, cap, elems, rest, n, _, rfl, rfl, hb, hl, hm, hlen, hel, hsp, hns⟩
  · exact ⟨[], ⟨none, 0, rfl, Nat.le_refl _, rfl, Nat.zero_le _, fun h => absurd h (Nat.lt_irrefl 0)⟩, by simp, fun x hx => by cases hx⟩
  · simp only [DataW.weights, ht, List.all_cons, List.all_append, Bool.and_eq_true, List.length_map, hB] at hz
    obtain ⟨hz1, hz2, _⟩ := hz
    have hz1 : (elems.length + rest.length) * B ≤ 140737488351232 := of_decide_eq_true hz1
    obtain ⟨xs, hxl, hx, hg⟩ := row_of (W := W) (d := d) (good := good) (ad := a) len len (Nat.le_refl _) (fun i hi => by
      have h1 := hel i hi
      obtain ⟨y, hy⟩ : ∃ y, elems[i]? = some y := ⟨_, List.getElem?_eq_getElem (by omega)⟩
      rw [hy, Option.bind_eq_some_iff] at h1
      obtain ⟨cs', hcs, hy'⟩ := h1
      obtain ⟨q, hk, hgq⟩ := he hy' (weightsAll_mem e hz2 y.1 (List.mem_map.2 ⟨y, List.mem_of_getElem? hy, rfl⟩))
      rw [hc] at hcs
      obtain ⟨_, hcl, hat⟩ := World.cells?_some hcs
      refine ⟨cs', q, fun j u hj => ?_, hk, hgq⟩
      have hjl : j < d.sz := by
        have := (List.getElem?_eq_some_iff.1 hj).1
        omega
      have h2 := hat j hjl
      rw [add_add] at h2
      rw [h2]
      exact hj)
    refine ⟨xs, ⟨some a, cap, by rw [hxl], by omega, hxl.symm ▸ rfl, by simp only [maxLen] at hm; omega, fun _ => ⟨a, rfl, fun j p hp => ?_⟩⟩, ?_, hg⟩
    · have hj : j < len := by
        have := (List.getElem?_eq_some_iff.1 hp).1
        omega
      obtain ⟨cs', q, hq, h1, h2⟩ := hx j hj
      obtain rfl : q = p := Option.some.inj (hq.symm.trans hp)
      exact ⟨cs', d.K_len h2, h2, h1⟩
    · have : xs.length * B ≤ (elems.length + rest.length) * B := Nat.mul_le_mul_right _ (by omega)
      omega

/-- The fields from one on. -/
def RdFs {α : Type} (P : Program) (W : World) (fs : List Field) (off : Nat) (d : Kd α) (good : α → Prop) : Prop :=
  ∀ {H : Type} {enc : TypeId × Value → H} {base : Nat} {sp : Nat → Bool} {held : Bool} {fuel : Nat} {cs : List Value} (xs : List (DataW H × List MemPlace)), xs.length = fs.length →
    (∀ (i : Nat) (f : Field), fs[i]? = some f → DataW.trod enc P W base sp held fuel f.type ((cs.drop f.offset).take (P.cellsOf f.type)) = xs[i]?) →
    (DataW.weightsEach P (fs.map (·.type)) (xs.map (·.1))).all (· ≤ reachBytes) = true → cs.length = off + d.sz → ∃ a : α, d.K W a (cs.drop off) ∧ good a
theorem rdfs_one {α : Type} {f : Field} {off : Nat} {d : Kd α} {good : α → Prop} (ho : f.offset = off) (hc : P.cellsOf f.type = d.sz) (h : Rd P W f.type d good) : RdFs P W [f] off d good := by
  intro H enc base sp held fuel cs xs hl hx hz hcs
  have h1 := hx 0 f rfl
  rw [ho, hc, List.take_of_length_le (by simp; omega)] at h1
  match xs, hl with
  | [y], _ =>
    refine h h1 ?_
    simpa [DataW.weightsEach] using hz
theorem rdfs_cons {α β : Type} {f : Field} {fs : List Field} {off : Nat} {a : Kd α} {b : Kd β} {g1 : α → Prop} {g2 : β → Prop} (ho : f.offset = off) (hc : P.cellsOf f.type = a.sz) (h : Rd P W f.type a g1) (hs : RdFs P W fs (off + a.sz) b g2) :
    RdFs P W (f :: fs) off (Kd.pair a b) (fun x => g1 x.1 ∧ g2 x.2) := by
  intro H enc base sp held fuel cs xs hl hx hz hcs
  have h1 := hx 0 f rfl
  rw [ho, hc] at h1
  have hsz : (Kd.pair a b).sz = a.sz + b.sz := rfl
  match xs, hl with
  | y :: ys, hl =>
    simp only [List.map_cons, DataW.weightsEach, List.all_append, Bool.and_eq_true] at hz
    obtain ⟨p, hp, gp⟩ := h h1 hz.1
    obtain ⟨q, hq, gq⟩ := hs (cs := cs) ys (by simpa using hl) (fun i f' hf => by simpa using hx (i + 1) f' (by simpa using hf)) hz.2 (by omega)
    exact ⟨(p, q), ⟨_, _, by rw [← List.drop_drop, List.take_append_drop], hp, hq⟩, gp, gq⟩
theorem rd_struct {α : Type} {t : TypeId} {fs : Array Field} {d : Kd α} {good : α → Prop} (ht : P.underlying t = some (.struct fs)) (hc : P.cellsOf t = d.sz) (h : RdFs P W fs.toList 0 d good) : Rd P W t d good := by
  intro H enc base sp held fuel cs x hx hz
  obtain ⟨xs, n, _, rfl, hl, hlen, hf⟩ := DataW.trod_struct ht hx
  simp only [DataW.weights, ht] at hz
  obtain ⟨a, hk, hg⟩ := h (cs := cs) xs (by simpa using hlen) (fun i f hi => hf i f (by simpa using hi)) hz (by omega)
  exact ⟨a, by simpa using hk, hg⟩
theorem rd_iso {α β : Type} {t : TypeId} {d : Kd α} {good : α → Prop} (f : β → α) (g : α → β) (hfg : ∀ a, f (g a) = a) (h : Rd P W t d good) : Rd P W t (Kd.iso d f) (fun b => good (f b)) := by
  intro H enc base sp held fuel cs x hx hz
  obtain ⟨a, hk, hg⟩ := h hx hz
  exact ⟨g a, by show d.K W (f (g a)) cs; rw [hfg]; exact hk, by show good (f (g a)); rw [hfg]; exact hg⟩

/-! #### an argument -/
section
variable {H : Type} {enc : TypeId × Value → H} {base b0 : Nat} {sp : Nat → Bool} {held : Bool} {v : Value} {x : DataW H} {ps : List MemPlace} {t e : TypeId}
theorem arg_slice {α : Type} {d : Kd α} {good : α → Prop} {B : Nat} (ht : P.underlying t = some (.slice e)) (hc : P.cellsOf e = d.sz) (hB : P.bytesOf e = B) (he : Rd P W e d good) (hval : Value.okWide P W .any b0 t v)
    (h : DataW.Trod enc P W base sp held t v x ps) (hz : (DataW.weights P t x).all (· ≤ reachBytes) = true) :
    ∃ (A : Option Addr) (c : Nat) (l : List α), v = .slice A l.length c ∧ d.C W A l.length l ∧ l.length ≤ c ∧ l.length * B ≤ 140737488351232 ∧ ∀ y ∈ l, good y := by
  obtain ⟨a, len, cap, rfl⟩ := okWide_slice ht hval
  obtain ⟨fuel, hf⟩ := h
  obtain ⟨l, ⟨A, c, hcs, hl, hC⟩, hB', hg⟩ := rd_slice ht hc hB he hf hz
  simp only [Value.cells, List.cons.injEq, and_true] at hcs
  exact ⟨A, c, l, hcs, hC, hl, hB', hg⟩
theorem arg_string (ht : P.underlying t = some .string) (hval : Value.okWide P W .any b0 t v) (h : DataW.Trod enc P W base sp held t v x ps) (hz : (DataW.weights P t x).all (· ≤ reachBytes) = true) : ∃ s : ByteArray, v = .string s ∧ s.size ≤ 140737488351232 := by
  obtain ⟨s, rfl⟩ := okWide_string ht hval
  obtain ⟨fuel, hf⟩ := h
  obtain ⟨s', hk, hg⟩ := rd_string ht hf hz
  have hk' : [Value.string s] = [.string s'] := hk
  simp only [List.cons.injEq, Value.string.injEq, and_true] at hk'
  exact ⟨s', by rw [hk'], hg⟩
theorem arg_int {k : IntKind} (ht : P.underlying t = some (.int k)) (hval : Value.okWide P W .any b0 t v) (h : DataW.Trod enc P W base sp held t v x ps) : ∃ n, v = .int k n ∧ (Lit.int k n).wf = true := by
  obtain ⟨n, rfl, _, _, hw⟩ := open_int ht hval h
  exact ⟨n, rfl, hw⟩
theorem arg_bool (ht : P.underlying t = some .bool) (hval : Value.okWide P W .any b0 t v) (h : DataW.Trod enc P W base sp held t v x ps) : ∃ b, v = .bool b := by
  obtain ⟨b, rfl, _, _⟩ := open_bool ht hval h
  exact ⟨b, rfl⟩
theorem arg_struct {α : Type} {fs : Array Field} {d : Kd α} {good : α → Prop} (ht : P.underlying t = some (.struct fs)) (hr : Rd P W t d good) (hval : Value.okWide P W .any b0 t v) (h : DataW.Trod enc P W base sp held t v x ps) (hz : (DataW.weights P t x).all (· ≤ reachBytes) = true) :
    ∃ (a : α) (cs : List Value), v = .agg cs.toArray ∧ d.K W a cs ∧ good a := by
  obtain ⟨cs, rfl, _⟩ := okWide_struct ht hval
  obtain ⟨fuel, hf⟩ := h
  obtain ⟨a, hk, hg⟩ := hr hf hz
  exact ⟨a, cs.toList, rfl, hk, hg⟩
end

/-! #### the sentinels that a row lists -/
def isSent (nm : String) : DataW Unit → Bool
  | .iface n (.ptr (.agg [.lit (.string _)])) => n == nm
  | _ => false
theorem sent_rows {nm : String} {ti tp te ts : TypeId} {ms : Array (String × TypeId)} {f : Field} (hi : P.underlying ti = some (.interface ms)) (hrow : ∀ u, P.typeName? 3 u = some nm → u = tp)
    (hp : P.underlying tp = some (.pointer te)) (he : P.underlying te = some (.struct #[f])) (hft : f.type = ts) (hfo : f.offset = 0) (hs : P.underlying ts = some .string) (hc : P.cellsOf te = 1) (hcs : P.cellsOf ts = 1) :
    ∀ {laid : List (String × DataW Unit)} {ps : List MemPlace}, DataW.LaidVars P W laid ps → ps.Nodup →
      (∀ b off, MemPlace.cell b off ∈ ps → (∃ c t, W.heap[b]? = some (.cells c t (0, 0))) ∧ ∀ u v, W.cell? ⟨b, off, none⟩ = some (.iface u v) → Value.okWide P W .any 0 u v) →
      ∀ {sl : List (Int × Nat)}, laid.map (fun x => P.globalNamed x.1) = sl.map (fun c => some c.2) → (sl.all fun c => decide ((P.globals[c.2]?).map (·.type) = some ti)) = true → (laid.all fun x => isSent nm x.2) = true → (sl.map (·.1)).Nodup →
      ∃ S : Int → Addr, (∀ c ∈ sl, W.cell? ⟨c.2, 0, none⟩ = some (.iface tp (.pointer (some (S c.1)))) ∧ (∃ ca ta, W.heap[(S c.1).block]? = some (.cells ca ta (0, 0))) ∧ MemPlace.cell (S c.1).block (S c.1).off ∈ ps ∧ (S c.1).spot = none) ∧ ∀ c ∈ sl, ∀ d ∈ sl, S c.1 = S d.1 → c.1 = d.1
  | [], ps, h, hnd, hr, sl, hg, hty, hsent, hn => by
    cases sl with
    | nil => exact ⟨fun _ => default, (fun c hc => by cases hc), fun c hc => by cases hc⟩
    | cons c sl => simp at hg
  | (n, d) :: r, ps, h, hnd, hr, sl, hg, hty, hsent, hn => by
    cases sl with
    | nil => simp at hg
    | cons c0 sl =>
      obtain ⟨g, t, cs, fuel, p, q, hg0, ht0, hv0, hd0, hrest, rfl⟩ := h
      simp only [List.map_cons, List.cons.injEq] at hg
      simp only [List.all_cons, Bool.and_eq_true, decide_eq_true_eq] at hty hsent
      simp only [List.map_cons, List.nodup_cons] at hn
      obtain rfl : g = c0.2 := Option.some.inj (hg0.symm.trans hg.1)
      obtain rfl : ti = t := Option.some.inj (hty.1.symm.trans ht0)
      obtain ⟨text, rfl⟩ : ∃ text, d = .iface nm (.ptr (.agg [.lit (.string text)])) := by
        have h1 := hsent.1
        unfold isSent at h1
        split at h1
        · rename_i n' text
          exact ⟨text, by rw [of_decide_eq_true (by simpa using h1 : decide (n' = nm) = true)]⟩
        · cases h1
      obtain ⟨l0⟩ := cs
      have ok0 : ∀ u v, l0 = [.iface u v] → Value.okWide P W .any 0 u v := fun u v e => by
        subst e
        exact (hr c0.2 0 (by simp [MemPlace.row])).2 u v (by simpa using World.var?_cell hg0 hv0 0)
      obtain ⟨a0, s0, rfl, hc0, hs0, hz0, rfl⟩ := errorString_of_trod hi hrow hp he hft hfo hs hc hcs hd0 ok0
      have hnd' : (q : List MemPlace).Nodup := (List.nodup_append.1 hnd).2.1
      obtain ⟨S, hS, hinj⟩ := sent_rows hi hrow hp he hft hfo hs hc hcs hrest hnd' (fun b off hb => hr b off (List.mem_append_right _ hb)) hg.2 hty.2 hsent.2 hn.2
      have hspot : a0.spot = none := World.cell?_spot hc0
      have hin : MemPlace.cell a0.block a0.off ∈ MemPlace.row ⟨c0.2, 0, none⟩ (#[Value.iface tp (Value.pointer (some a0))] : Array Value).size ++ MemPlace.row a0 1 := List.mem_append_right _ (by simp [MemPlace.row])
      have hne : ∀ c ∈ sl, c.1 ≠ c0.1 := fun c hc e => hn.1 (by rw [← e]; exact List.mem_map.2 ⟨c, hc, rfl⟩)
      refine ⟨fun z => if z = c0.1 then a0 else S z, fun c hc => ?_, fun c hc d hd => ?_⟩ <;> dsimp only
      · rcases List.mem_cons.1 hc with rfl | hc
        · rw [if_pos rfl]
          exact ⟨by simpa using World.var?_cell hg0 hv0 0, (hr a0.block a0.off (List.mem_append_left _ hin)).1, List.mem_append_left _ hin, hspot⟩
        · rw [if_neg (hne c hc)]
          obtain ⟨h1, h2, h3, h4⟩ := hS c hc
          exact ⟨h1, h2, List.mem_append_right _ h3, h4⟩
      · have far : ∀ c ∈ sl, S c.1 ≠ a0 := fun c hc e => by
          obtain ⟨_, _, h3, _⟩ := hS c hc
          rw [e] at h3
          exact (List.nodup_append.1 hnd).2.2 _ hin _ h3 rfl
        rcases List.mem_cons.1 hc with ec | hc1 <;> rcases List.mem_cons.1 hd with ed | hd1
        · exact fun _ => by rw [ec, ed]
        · intro e
          rw [if_pos (by rw [ec]), if_neg (hne d hd1)] at e
          exact absurd e.symm (far d hd1)
        · intro e
          rw [if_pos (show d.1 = c0.1 by rw [ed]), if_neg (hne c hc1)] at e
          exact absurd e (far c hc1)
        · intro e
          rw [if_neg (hne c hc1), if_neg (hne d hd1)] at e
          exact hinj c hc1 d hd1 e
theorem sent_of_laid {nm : String} {ti tp te ts : TypeId} {ms : Array (String × TypeId)} {f : Field} (hi : P.underlying ti = some (.interface ms)) (hrow : ∀ u, P.typeName? 3 u = some nm → u = tp)
    (hp : P.underlying tp = some (.pointer te)) (he : P.underlying te = some (.struct #[f])) (hft : f.type = ts) (hfo : f.offset = 0) (hs : P.underlying ts = some .string) (hc : P.cellsOf te = 1) (hcs : P.cellsOf ts = 1)
    {laid : List (String × DataW Unit)} (h : laidMet P laid W) {sl : List (Int × Nat)} (hg : laid.map (fun x => P.globalNamed x.1) = sl.map (fun c => some c.2)) (hty : (sl.all fun c => decide ((P.globals[c.2]?).map (·.type) = some ti)) = true)
    (hsent : (laid.all fun x => isSent nm x.2) = true) (hn : (sl.map (·.1)).Nodup) :
    ∃ S : Int → Addr, (∀ c ∈ sl, W.cell? ⟨c.2, 0, none⟩ = some (.iface tp (.pointer (some (S c.1)))) ∧ ∃ ca ta, W.heap[(S c.1).block]? = some (.cells ca ta (0, 0))) ∧ ∀ c ∈ sl, ∀ d ∈ sl, S c.1 = S d.1 → c.1 = d.1 := by
  obtain ⟨ps, hl, hnd, hr⟩ := h
  obtain ⟨S, hS, hinj⟩ := sent_rows hi hrow hp he hft hfo hs hc hcs hl hnd hr hg hty hsent hn
  exact ⟨S, fun c hc => ⟨(hS c hc).1, (hS c hc).2.1⟩, hinj⟩

end Go.Proofs.YtjccbolnjnefiaaDoor.Rd

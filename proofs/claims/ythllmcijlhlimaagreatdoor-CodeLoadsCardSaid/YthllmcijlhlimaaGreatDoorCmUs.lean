/- lay.Uses: a map's keys, collected in whatever order and sorted: three parts of the code told by hand. By this session. -/
import Derived.Test.YthllmcijlhlimaaGreatDoorCmMs
import Derived.Test.YthllmcijlhlimaaGreatDoorShelf
import Derived.Sort.KeysCollected
import Derived.Maps.Range
namespace Go.Proofs.YthllmcijlhlimaaGreatDoor.Cm
open Go Go.RowKit Go.Sort Go.Maps
set_option linter.unusedVariables false
set_option linter.unusedSimpArgs false
set_option maxRecDepth 100000
noncomputable section
section
variable {C : Cfg} {S : Nat → Addr} {P : Program}
/-- A block that no slot owns, and that is not frozen. -/
def Aside (w : World) (Fz : Nat → Prop) (gs : List Gh) (b : Nat) : Prop := b < w.heap.size ∧ ¬ Fz b ∧ ∀ (i : Nat) (g : Gh), gs[i]? = some g → g.own ≠ some b
theorem Aside.step {n : Nat} {w w' : World} {Fz Fz' : Nat → Prop} {gs gs' : List Gh} {b : Nat} (h : Aside w Fz gs b) (s : Step n w Fz gs w' Fz' gs') : Aside w' Fz' gs' b ∧ w'.heap[b]? = w.heap[b]? := by
  obtain ⟨h1, h2, h3⟩ := h
  refine ⟨⟨Nat.lt_of_lt_of_le h1 s.size, fun hf => ?_, fun i g hg ho => ?_⟩, s.keep b h1 h3⟩
  · rcases s.fznew b hf with h | h | ⟨i, g, hi, ho⟩
    · exact h2 h
    · omega
    · exact h3 i g hi ho
  · rcases s.own i g b hg ho with h | ⟨j, g', hj, ho'⟩
    · omega
    · exact h3 j g' hj ho'
theorem wpOps_pure {ops : Array Oper} {i : Nat} {rest : List Nat} {a : Act} {w : World} {Q : Exit → Act → World → Prop} {o : Oper} (ho : ops[i]? = some o) (hg : o.guard = none) {dst : Option Tmp} (hd : o.dst = dst) {v : Value} (he : execOp a.eval o = pure (.value v))
    (k : wpOps P ops Q rest (a.put dst v) w) : wpOps P ops Q (i :: rest) a w := by
  simp only [wpOps, ho]
  rw [if_pos (by simp [Region.wanted, hg])]
  left
  unfold Oper.wp
  rw [he, ← hd] at *
  exact k
variable {nl : Nat} {w0 : World} {F0 : Nat → Prop} {g0 : List Gh}
/-- Such a block turns. -/
theorem Inv.aside {σ : St} {a : Act} {w w1 : World} {Fz : Nat → Prop} {gs : List Gh} (i : Inv C S nl w0 F0 g0 σ a w Fz gs) {b : Nat} (h0 : w0.heap.size ≤ b) (ho : Aside w Fz gs b) (hg : w.grownBy w1 (some b)) (hsz : w1.heap.size = w.heap.size) : Inv C S nl w0 F0 g0 σ a w1 Fz gs := by
  have hb : ∀ q, q < w.heap.size → q ≠ b → w1.heap[q]? = w.heap[q]? := fun q hq hn => hg.block q hq (by simpa using hn)
  have fx : Fix w Fz w1 Fz := ⟨fun _ h => h, fun q hq => hb q (i.rel.fz q hq) (fun e => ho.2.1 (e ▸ hq))⟩
  refine ⟨i.rel.gen fx (Ext.refl _) i.rel.len (fun j s g h1 h2 => .inl ⟨h1, h2, fun q hq => hb q (i.rel.own j g q h2 hq).1 (fun e => ho.2.2 j g h2 (e ▸ hq))⟩) i.rel.apart (fun j g q h1 h2 => ⟨by rw [hsz]; exact (i.rel.own j g q h1 h2).1, (i.rel.own j g q h1 h2).2⟩) (fun q hq => by rw [hsz]; exact i.rel.fz q hq), i.tmps.fix fx (Ext.refl _), i.defers, ?_, i.le⟩
  exact ⟨hg.os.trans i.step.os, hg.tape.trans i.step.tape, hg.output.trans i.step.output, by rw [hsz]; exact i.step.size, fun q hq hn => (hb q (Nat.lt_of_lt_of_le hq i.step.size) (fun e => by omega)).trans (i.step.keep q hq hn), i.step.fz, i.step.fznew, i.step.own, i.step.ext⟩
theorem op_at {ops : Array Oper} {i : Nat} {op : Op} {dst : Option Tmp} (h : (ops[i]?).map (fun o => (o.op, o.dst, o.guard)) = some (op, dst, none)) : ∃ o, ops[i]? = some o ∧ o.op = op ∧ o.dst = dst ∧ o.guard = none := by
  cases h2 : ops[i]? with
  | none => rw [h2] at h; cases h
  | some o =>
    rw [h2] at h
    simp only [Option.map_some, Option.some.injEq, Prod.mk.injEq] at h
    exact ⟨o, rfl, h.1, h.2.1, h.2.2⟩
theorem wpOps_value {ops : Array Oper} {i : Nat} {rest : List Nat} {a : Act} {w : World} {Q : Exit → Act → World → Prop} {o : Oper} (ho : ops[i]? = some o) (hg : o.guard = none) {dst : Option Tmp} (hd : o.dst = dst) {s : Sem Value} (he : execOp a.eval o = (do pure (.value (← s)))) {v : Value} {w' : World} (hr : s.run P w = .ok v w')
    (k : wpOps P ops Q rest (a.put dst v) w') : wpOps P ops Q (i :: rest) a w := by
  simp only [wpOps, ho]
  rw [if_pos (by simp [Region.wanted, hg])]
  left
  unfold Oper.wp
  rw [he]
  simp only [Sem.run_bind, hr, Result.andThen_ok, Sem.run_pure, Oper.upon_value]
  rw [hd]
  exact k
theorem put_at {a : Act} {d j : Nat} {v : Value} (h : j ≠ d) : (a.put (some d) v).tmps.getD j undef = a.tmps.getD j undef := by
  simp only [Act.put, Array.getD_eq_getD_getElem?]
  rw [Array.getElem?_setIfInBounds, if_neg (fun e => h e.symm)]
theorem put_self {a : Act} {d : Nat} {v : Value} (h : d < a.tmps.size) : (a.put (some d) v).tmps.getD d undef = v := by
  simp only [Act.put, Array.getD_eq_getD_getElem?]
  rw [Array.getElem?_setIfInBounds, if_pos rfl, if_pos h]
  rfl
/-- A temporary's value that nobody asks for. -/
theorem Inv.putU {σ : St} {a : Act} {w : World} {Fz : Nat → Prop} {gs : List Gh} (i : Inv C S nl w0 F0 g0 σ a w Fz gs) (d : Nat) (v : Value) : Inv C S nl w0 F0 g0 ⟨σ.t.set d (.one .undef), σ.s⟩ (a.put (some d) v) w Fz gs :=
  i.next (e := .one .undef) i.rel trivial (Step.refl _ _ _ _) (some d)
end
def opsAt (k : Nat) : Code → Option (Array Oper)
  | .region id ops _ => if id = k then some ops else none
  | .seq a b => (opsAt k a).or (opsAt k b)
  | .cond _ a b => (opsAt k a).or (opsAt k b)
  | .block _ c => opsAt k c
  | .loop c => opsAt k c
  | _ => none
def usBody : Code := bodyOf Tryz.f16
def us21 : Array Oper := (opsAt 21 usBody).getD #[]
def us22 : Array Oper := (opsAt 22 usBody).getD #[]
def us23 : Array Oper := (opsAt 23 usBody).getD #[]
def us24 : Array Oper := (opsAt 24 usBody).getD #[]
def us25 : Array Oper := (opsAt 25 usBody).getD #[]
def us26 : Array Oper := (opsAt 26 usBody).getD #[]
def usLoop : Code := .seq (.region 22 us22 false) (.seq (.cond (.tmp 72) .skip (.exit 4)) (.block 5 (.seq (.region 23 us23 false) (.region 24 us24 false))))
def usA : Code := .seq (.region 21 us21 false) (.block 4 (.loop usLoop))
abbrev usH : Sh := ⟨[(.one (.map 0)), (.one (.arr 1))], [(.map .str (.int .i64) false), (.arr 9 .str)]⟩
abbrev usO : List Out := [⟨.normal, [4, 5], ⟨[(.one (.arr 0)), (.one (.val .err))], [(.arr 9 .str)]⟩⟩]
def usSem (x : usH.T) : Option (OutT usO) :=
  match (show List ByteArray from x.2.2.1) with
  | [] =>
    if wfKeysS (V := Int) x.2.1 = true then
      if List.length (α := ByteArray × Int) x.2.1 ≤ 1099511627776 then some (.inl (((), ErrV.nil, ()), (sortS (List.map Prod.fst (show List (ByteArray × Int) from x.2.1)), ()))) else none
    else none
  | _ => none
abbrev usL : Sh := ⟨[(.one (.arr 0))], [(.arr 9 .str)]⟩
abbrev P0 : Program := Tryz.prog
def usN : Hints := ⟨[], fun _ => [], fun _ => none, fun _ => none, fun _ => none, fun _ => 0⟩
def usQ (ss : List ByteArray) : St := packAt 82 [15] usL (((), ()), (ss, ()))
theorem us_code : (handsOf usBody).any (fun p => false) = false := by kernel_rfl
theorem r21 : List.range us21.size = [0, 1] := by kernel_rfl
theorem r22 : List.range us22.size = [0, 1] := by kernel_rfl
theorem r23 : List.range us23.size = [0, 1, 2] := by kernel_rfl
def us24K (ex : Ex) (σ : St) : Option (usL.T × Ent) := match ex with | .normal => (match confAt 0 [15] usL σ with | some x => some (x, σ.t.getD 70 (.one .undef)) | none => none) | _ => none
def us24S (ss : List ByteArray) (x : ByteArray) (b : Nat) : St := ⟨((((((usQ ss).t.set 70 (.one (.glob b))).set 71 (.one .undef)).set 72 (.one .undef)).set 73 (.one .undef)).set 74 (.one .undef)).set 16 (.one (.val .str x)), (usQ ss).s⟩
theorem us24_eq (C : Cfg) (ss : List ByteArray) (x : ByteArray) (b : Nat) : interp P0 C (fun _ => []) 0 0 82 usN (.region 24 us24 false) (us24S ss x b) us24K = if (ss.length + [x].length) * 16 ≤ 140737488355328 then some ((((), ()), (ss ++ [x], ())), .one (.glob b)) else none := by kernel_rfl
abbrev sortI : Sh := ⟨[(.one (.arr 0))], [(.arr 9 .str)]⟩
abbrev sortO : List Sh := [⟨[(.tup [])], [(.arr 9 .str)]⟩]
def us25O : FuncId → List FSpec := asc [(37, ⟨sortI, sortO, sortSem 9⟩)]
def us26K (e : Ex) (σ : St) : Option (OutT usO) := encOut 0 usO e σ
def us25K (C : Cfg) (e : Ex) (σ : St) : Option (OutT usO) := match e with | .normal => interp P0 C (fun _ => []) 0 0 82 usN (.region 26 us26 false) σ us26K | _ => none
def us25S (ss : List ByteArray) (b : Nat) : St := ⟨(((usQ ss).t.set 70 (.one (.glob b))).set 71 (.one .undef)).set 72 (.one .undef), (usQ ss).s⟩
theorem us25_eq (C : Cfg) (ss : List ByteArray) (b : Nat) : interp P0 C us25O 0 0 82 usN (.region 25 us25 false) (us25S ss b) (us25K C) = match sortSem 9 (((), ()), (ss, ())) with | some (((), ()), (l, ())) => some (.inl (((), ErrV.nil, ()), (l, ()))) | none => none := by kernel_rfl
theorem us25_eq' (C : Cfg) (ss : List ByteArray) (b : Nat) (h : ss.length ≤ 140737488355328) : interp P0 C us25O 0 0 82 usN (.region 25 us25 false) (us25S ss b) (us25K C) = some (.inl (((), ErrV.nil, ()), (sortS ss, ()))) := by
  rw [us25_eq]
  unfold sortSem
  rw [if_pos (show (show List ByteArray from ss).length ≤ 140737488355328 from h)]
abbrev bsL (ss : List ByteArray) : List (List UInt8) := ss.map fun q : ByteArray => q.data.toList
theorem bsL_inj {a b : List ByteArray} (h : bsL a = bsL b) : a = b := by
  induction a generalizing b with
  | nil => cases b with
    | nil => rfl
    | cons _ _ => cases h
  | cons x a ih =>
    cases b with
    | nil => cases h
    | cons y b =>
      simp only [bsL, List.map_cons, List.cons.injEq] at h
      rw [ih h.2]
      congr 1
      cases x with | mk x => cases y with | mk y =>
      simp only [ByteArray.mk.injEq]
      exact Array.toList_inj.1 h.1
theorem sortS_perm {a b : List ByteArray} (h : (bsL a).Perm (bsL b)) : sortS a = sortS b := by
  refine bsL_inj ?_
  show (sortS a).map _ = (sortS b).map _
  rw [← mergeSort_sortS h, sortS_eq]
theorem ranges_of {H : Type} {P : Program} {k : TypeId} {R : Value → Option (DataW H × List MemPlace)} {w w' : World} {b r n : Nat} {D : DataW H} {left : Lit → Bool} {cnt : Nat} (h : w.ranges P k R b r n D left cnt) (hb : w'.heap[b]? = w.heap[b]?) (hr : w'.heap[r]? = w.heap[r]?) : w'.ranges P k R b r n D left cnt := by
  obtain ⟨es, clock, since, seen, c0, h1, h2, h3, h4, h5, h6⟩ := h
  exact ⟨es, clock, since, seen, c0, hb.trans h1, h2, h3, h4, hr.trans h5, h6⟩
section
variable {C : Cfg} {S : Nat → Addr} {w0 : World} {F0 : Nat → Prop} {g0 : List Gh}
/-- The loop's word. -/
def usJ (C : Cfg) (S : Nat → Addr) (w0 : World) (F0 : Nat → Prop) (g0 : List Gh) (b bm nn : Nat) (D : DataW Value) (k : Nat) (a : Act) (w : World) : Prop :=
  ∃ (ss : List ByteArray) (Fz : Nat → Prop) (gs : List Gh) (left : Lit → Bool), Inv C S 0 w0 F0 g0 (usQ ss) a w Fz gs ∧ a.tmps.size = 82 ∧ a.tmps.getD 70 undef = .pointer (some ⟨b, 0, none⟩) ∧ Aside w Fz gs b ∧ Aside w Fz gs bm ∧
    w.ranges P0 9 heldV bm b nn D left k ∧ Collected D left (bsL ss) ∧ ss.length + k ≤ nn
theorem us_round (ok : CfgOk P0 C S) {b bm nn : Nat} {D : DataW Value} (hb0 : w0.heap.size ≤ b) (hnn : nn ≤ 1099511627776) {Q : Exit → Act → World → Prop} (hQ : ∀ (ss : List ByteArray) (a : Act) (w : World) (Fz : Nat → Prop) (gs : List Gh), Inv C S 0 w0 F0 g0 (us25S ss b) a w Fz gs → a.tmps.size = 82 → (bsL ss).Perm (strKeys D) → ss.length ≤ nn → Q (.exit 4) a w)
    (k : Nat) (a : Act) (w : World) (hJ : usJ C S w0 F0 g0 b bm nn D k a w) : usLoop.wp P0 (Exit.then (fun a' w' => ∃ k', k' < k ∧ usJ C S w0 F0 g0 b bm nn D k' a' w') Q) a w := by
  obtain ⟨ss, Fz, gs, left, i, hsz, h70, hab, habm, hrg, hC, hle⟩ := hJ
  have hkey : P0.underlying 9 = some .string := by kernel_rfl
  have i70 : Inv C S 0 w0 F0 g0 ⟨(usQ ss).t.set 70 (.one (.glob b)), (usQ ss).s⟩ a w Fz gs := ⟨i.rel, i.tmps.tell 70 h70, i.defers, i.step, i.le⟩
  unfold usLoop
  obtain ⟨o0, ho0, hop0, hd0, hg0⟩ := op_at (ops := us22) (i := 0) (op := .next (.tmp 70) false) (dst := some 71) (by kernel_rfl)
  obtain ⟨o1, ho1, hop1, hd1, hg1⟩ := op_at (ops := us22) (i := 1) (op := .extract (.tmp 71) 0) (dst := some 72) (by kernel_rfl)
  have hev : a.eval (.tmp 70) = .pointer (some ⟨b, 0, none⟩) := h70
  rcases hrg.next (string_keyed hkey) o0.type with ⟨hk0, hl0, hrun⟩ | ⟨key, v, kl, y, w1, cnt', hkk, hlk, hv, hat, hrun, hrg1, hlt, hgr, hsz1, hent⟩
  · -- nothing is left
    refine wp_seq (wp_region ?_)
    rw [r22]
    refine wpOps_value ho0 hg0 hd0 (s := Instr.next (a.eval (.tmp 70)) false o0.type) (by unfold execOp; rw [hop0]) (by rw [hev]; exact hrun) ?_
    have e71 : (a.put (some 71) (.tuple #[.bool false])).eval (.tmp 71) = .tuple #[.bool false] := put_self (by rw [hsz]; decide)
    refine wpOps_value ho1 hg1 hd1 (s := Instr.extract ((a.put (some 71) (.tuple #[.bool false])).eval (.tmp 71)) 0) (by unfold execOp; rw [hop1]) (v := .bool false) (w' := w) (by rw [e71]; rfl) ?_
    show Exit.then _ _ .normal _ _
    refine wp_seq (wp_cond_false (put_self (by rw [put_size, hsz]; decide)) (wp_exit ?_))
    have i2 := (i70.putU 71 (.tuple #[.bool false])).putU 72 (.bool false)
    refine hQ ss _ w Fz gs i2 (by rw [put_size, put_size, hsz]) (hC.perm hrg.owns (string_keyed hkey) hkey hl0) (by omega)
  · -- one more key
    obtain ⟨x0, rfl, rfl, hx0⟩ := Maps.keyOf_str hkey hkk
    refine wp_seq (wp_region ?_)
    rw [r22]
    refine wpOps_value ho0 hg0 hd0 (s := Instr.next (a.eval (.tmp 70)) false o0.type) (by unfold execOp; rw [hop0]) (by rw [hev]; exact hrun) ?_
    have e71 : (a.put (some 71) (.tuple #[.bool true, encStr x0, v])).eval (.tmp 71) = .tuple #[.bool true, encStr x0, v] := put_self (by rw [hsz]; decide)
    refine wpOps_value ho1 hg1 hd1 (s := Instr.extract ((a.put (some 71) (.tuple #[.bool true, encStr x0, v])).eval (.tmp 71)) 0) (by unfold execOp; rw [hop1]) (v := .bool true) (w' := w1) (by rw [e71]; rfl) ?_
    show Exit.then _ _ .normal _ _
    refine wp_seq (wp_cond_true (put_self (by rw [put_size, hsz]; decide)) (wp_skip ?_))
    show Exit.then _ _ .normal _ _
    refine wp_block (wp_seq (wp_region ?_))
    rw [r23]
    obtain ⟨p0, hp0, hq0, hdp0, hgp0⟩ := op_at (ops := us23) (i := 0) (op := .entry (.tmp 70)) (dst := some 73) (by kernel_rfl)
    obtain ⟨p1, hp1, hq1, hdp1, hgp1⟩ := op_at (ops := us23) (i := 1) (op := .extract (.tmp 73) 0) (dst := some 74) (by kernel_rfl)
    obtain ⟨p2, hp2, hq2, hdp2, hgp2⟩ := op_at (ops := us23) (i := 2) (op := .assign (.tmp 74)) (dst := some 16) (by kernel_rfl)
    generalize ha2 : (a.put (some 71) (.tuple #[.bool true, encStr x0, v])).put (some 72) (.bool true) = a2
    have s2 : a2.tmps.size = 82 := by rw [← ha2, put_size, put_size, hsz]
    have ev2 : a2.eval (.tmp 70) = .pointer (some ⟨b, 0, none⟩) := by
      rw [← ha2]
      show (((a.put _ _).put (some 72) _).tmps.getD 70 undef) = _
      rw [put_at (by decide), put_at (by decide)]
      exact h70
    refine wpOps_value hp0 hgp0 hdp0 (s := Instr.entry (a2.eval (.tmp 70))) (by unfold execOp; rw [hq0]) (by rw [ev2]; exact hent) ?_
    have e73 : (a2.put (some 73) (.tuple #[encStr x0, v])).eval (.tmp 73) = .tuple #[encStr x0, v] := put_self (by rw [s2]; decide)
    refine wpOps_value hp1 hgp1 hdp1 (s := Instr.extract ((a2.put (some 73) (.tuple #[encStr x0, v])).eval (.tmp 73)) 0) (by unfold execOp; rw [hq1]) (v := encStr x0) (w' := w1) (by rw [e73]; rfl) ?_
    have e74 : ((a2.put (some 73) (.tuple #[encStr x0, v])).put (some 74) (encStr x0)).eval (.tmp 74) = encStr x0 := put_self (by rw [put_size, s2]; decide)
    refine wpOps_pure hp2 hgp2 hdp2 (v := encStr x0) (by unfold execOp; rw [hq2]; exact congrArg (fun z => pure (Next.value z)) e74) ?_
    show Exit.then _ _ .normal _ _
    have i1 := i70.aside hb0 hab hgr hsz1
    have i2 : Inv C S 0 w0 F0 g0 (us24S ss ⟨x0.toArray⟩ b) (((a2.put (some 73) (.tuple #[encStr x0, v])).put (some 74) (encStr x0)).put (some 16) (encStr x0)) w1 Fz gs := by
      have i3 := ((i1.putU 71 (.tuple #[.bool true, encStr x0, v])).putU 72 (.bool true))
      rw [ha2] at i3
      have i4 := (i3.putU 73 (.tuple #[encStr x0, v])).putU 74 (encStr x0)
      exact i4.next (e := .one (.val .str ⟨x0.toArray⟩)) i4.rel (show RepE C S w1 Fz gs (.one (.val .str (⟨x0.toArray⟩ : ByteArray))) (encStr x0) from rfl) (Step.refl _ _ _ _) (some 16)
    generalize ha3 : ((a2.put (some 73) (.tuple #[encStr x0, v])).put (some 74) (encStr x0)).put (some 16) (encStr x0) = a3 at i2 ⊢
    have s3 : a3.tmps.size = 82 := by rw [← ha3, put_size, put_size, put_size, s2]
    have hab1 : Aside w1 Fz gs b := ⟨by rw [hsz1]; exact hab.1, hab.2.1, hab.2.2⟩
    have habm1 : Aside w1 Fz gs bm := ⟨by rw [hsz1]; exact habm.1, habm.2.1, habm.2.2⟩
    have i5 : Inv C S 0 w1 Fz gs (us24S ss ⟨x0.toArray⟩ b) a3 w1 Fz gs := ⟨i2.rel, i2.tmps, i2.defers, Step.refl _ _ _ _, Nat.zero_le _⟩
    have heq := us24_eq C ss ⟨x0.toArray⟩ b
    rw [if_pos (by simp only [List.length_cons, List.length_nil]; omega)] at heq
    refine wp_mono (interp_ok ok (O := fun _ => []) (fun f sp h => by cases h) _ (by trivial) i5 s3 heq) ?_
    rintro e a4 w4 ⟨ex, σ4, F4, g4, he, i6, s4, hk⟩
    cases ex with
    | exit id => cases hk
    | ret => cases hk
    | normal =>
      subst he
      simp only [us24K] at hk
      split at hk
      · rename_i x4 hx4
        obtain ⟨hx, hy⟩ := Prod.mk.inj (Option.some.inj hk)
        subst hx
        obtain ⟨F5, g5, i7⟩ := confAt_ok i6 s4 hx4
        have h704 : a4.tmps.getD 70 undef = .pointer (some ⟨b, 0, none⟩) := by
          have := i6.tmps.at_ 70
          rw [hy] at this
          exact this
        obtain ⟨hab4, kb⟩ := hab1.step i7.step
        obtain ⟨habm4, kbm⟩ := habm1.step i7.step
        refine ⟨cnt', hlt, ss ++ [(⟨x0.toArray⟩ : ByteArray)], F5, g5, _, ⟨i7.rel, i7.tmps, i7.defers, i2.step.trans i7.step, Nat.zero_le _⟩, s4, h704, hab4, habm4, ranges_of hrg1 kbm kb, ?_, by simp only [List.length_append, List.length_cons, List.length_nil]; omega⟩
        have hst := hC.step hlk hat
        simpa [bsL] using hst
      · cases hk
end
theorem us_sort {C : Cfg} {S : Nat → Addr} : SpecOk P0 C S 37 ⟨sortI, sortO, sortSem 9⟩ :=
  sort_spec ⟨Tryz.f37, by kernel_rfl, by kernel_rfl, by kernel_rfl⟩ Tryz.slices_Sort_string_none Tryz.slices_Sort_string
/-- THE THREE PARTS: range, and the loop; the sort; the answer. -/
theorem us_hand {C : Cfg} (n : Nat) : HandOk P0 C n 0 82 ⟨[8, 15], usH, usO, fun _ => usSem⟩ usA (.region 25 us25 false) (.region 26 us26 false) := by
  intro S ok x y w0 F0 g0 act w Fz gs i hnt hy
  obtain ⟨⟨⟨⟩, ⟨⟩, ⟨⟩⟩, m, l0, ⟨⟩⟩ := x
  change List (ByteArray × Int) at m
  change List ByteArray at l0
  simp only [usSem] at hy
  cases l0 with
  | cons z l0 => cases hy
  | nil =>
    simp only at hy
    split at hy
    · rename_i hw
      split at hy
      · rename_i hlen
        have hlen : m.length ≤ 1099511627776 := hlen
        obtain rfl := Option.some.inj hy
        have hkey : P0.underlying 9 = some .string := by kernel_rfl
        have h8 : RepE C S w Fz gs (.one (.map 0)) (act.tmps.getD 8 undef) := i.tmps.at_ 8
        have h15 : RepE C S w Fz gs (.one (.arr 1)) (act.tmps.getD 15 undef) := i.tmps.at_ 15
        obtain ⟨gm, bm, hgm, hgvm, h8v⟩ := h8
        obtain ⟨ga, a1, n1, c1, hga, hgva, h15v⟩ := h15
        obtain ⟨b', es, clock, q1, q2, q3, q4, q5, q6⟩ := i.rel.slot 0 (.map .str (.int .i64) false m) gm rfl hgm
        rw [hgvm] at q1
        obtain rfl : bm = b' := by simpa using q1
        have hsl := i.rel.slot 1 (.arr 9 .str ([] : List ByteArray)) ga rfl hga
        have hmx : (1099511627776 : Nat) ≤ maxLen := by simp [maxLen]
        obtain ⟨l, ho, he, hnl⟩ := ownsS_of hkey q3 q4 q5 q6 hw (by omega)
        -- the list alone
        have one : ∀ (j : Nat) (g : Gh), ([ga] : List Gh)[j]? = some g → j = 0 ∧ g = ga := by
          intro j g h
          cases j with
          | zero => exact ⟨rfl, (Option.some.inj h).symm⟩
          | succ j => cases h
        have rel1 : Rel C S w Fz [ga] [.arr 9 .str ([] : List ByteArray)] := by
          refine ⟨rfl, fun j s g h1 h2 => ?_, fun j k gj gk q h1 h2 _ _ => by rw [(one j gj h1).1, (one k gk h2).1], fun j g q h1 h2 => by rw [(one j g h1).2] at h2; exact i.rel.own 1 ga q hga h2, i.rel.fz, i.rel.glob, i.rel.tab⟩
          obtain ⟨rfl, rfl⟩ := one j g h2
          obtain rfl := Option.some.inj h1
          exact hsl
        have st1 : Step 0 w0 F0 g0 w Fz [ga] := ⟨i.step.os, i.step.tape, i.step.output, i.step.size, i.step.keep, i.step.fz, i.step.fznew, fun j g q h1 h2 => by rw [(one j g h1).2] at h2; exact i.step.own 1 ga q hga h2, fun j g hj => absurd hj (Nat.not_lt_zero _)⟩
        have t0 : Tmps C S w Fz [ga] (List.replicate 82 (.one .undef)) act.tmps := by
          refine ⟨by simp [hnt], fun q e hq => ?_⟩
          have hlt : q < 82 := by have := (List.getElem?_eq_some_iff.1 hq).1; simpa using this
          rw [List.getElem?_replicate, if_pos hlt] at hq
          obtain rfl := Option.some.inj hq
          exact ⟨act.tmps[q]'(by omega), Array.getElem?_eq_getElem (by omega), trivial⟩
        have i0 : Inv C S 0 w0 F0 g0 (usQ []) act w Fz [ga] := ⟨rel1, t0.tell 15 (e := .one (.arr 0)) ⟨ga, a1, n1, c1, rfl, hgva, h15v⟩, i.defers, st1, Nat.zero_le _⟩
        have habm : Aside w Fz [ga] bm := ⟨(i.rel.own 0 gm bm hgm q2).1, (i.rel.own 0 gm bm hgm q2).2, fun j g h1 h2 => by
          rw [(one j g h1).2] at h2
          exact absurd (i.rel.apart 0 1 gm ga bm hgm hga q2 h2) (by decide)⟩
        -- range
        unfold usA
        refine wp_seq (wp_region ?_)
        rw [r21]
        obtain ⟨o0, ho0, hop0, hd0, hg0⟩ := op_at (ops := us21) (i := 0) (op := .move (.tmp 8)) (dst := some 69) (by kernel_rfl)
        obtain ⟨o1, ho1, hop1, hd1, hg1⟩ := op_at (ops := us21) (i := 1) (op := .range 83 (.tmp 69)) (dst := some 70) (by kernel_rfl)
        refine wpOps_pure ho0 hg0 hd0 (v := .map (some bm)) (by unfold execOp; rw [hop0]; exact congrArg (fun z => pure (Next.value z)) h8v) ?_
        obtain ⟨w1, hrun, hrg, hgr, hsz1⟩ := ho.range (string_keyed hkey) (t := 83) (e := 3) (by kernel_rfl)
        have e69 : (act.put (some 69) (.map (some bm))).eval (.tmp 69) = .map (some bm) := put_self (by rw [hnt]; decide)
        refine wpOps_value ho1 hg1 hd1 (s := Instr.range 83 ((act.put (some 69) (.map (some bm))).eval (.tmp 69))) (by unfold execOp; rw [hop1]) (by rw [e69]; exact hrun) ?_
        show Exit.then _ _ .normal _ _
        generalize ha2 : (act.put (some 69) (.map (some bm))).put (some 70) (.pointer (some ⟨w.heap.size, 0, none⟩)) = a2
        have s2 : a2.tmps.size = 82 := by rw [← ha2, put_size, put_size, hnt]
        have mr : More w w1 := ⟨hgr.os, hgr.tape, hgr.output, hgr.size, fun q hq => hgr.block q hq (by simp)⟩
        have i1 : Inv C S 0 w0 F0 g0 (usQ []) a2 w1 Fz [ga] := by
          obtain ⟨r1, s1⟩ := rel1.more mr 1
          have i3 := (i0.putU 69 (.map (some bm))).next (e := .one .undef) r1 trivial s1 (some 70) (v := .pointer (some ⟨w.heap.size, 0, none⟩))
          rw [ha2] at i3
          exact i3
        have h70 : a2.tmps.getD 70 undef = .pointer (some ⟨w.heap.size, 0, none⟩) := by rw [← ha2]; exact put_self (by rw [put_size, hnt]; decide)
        have hab : Aside w1 Fz [ga] w.heap.size := ⟨by rw [hsz1]; omega, fun hf => by have := rel1.fz _ hf; omega, fun j g h1 h2 => by have := (rel1.own j g _ h1 h2).1; omega⟩
        have habm1 : Aside w1 Fz [ga] bm := ⟨by have := habm.1; omega, habm.2.1, habm.2.2⟩
        have hb0 : w0.heap.size ≤ w.heap.size := i.step.size
        have hD : Maps.size (.map l : DataW Value) = m.length := hnl
        refine wp_block (wp_loop_k (usJ C S w0 F0 g0 w.heap.size bm m.length (.map l)) (us_round ok hb0 hlen ?_) (k := Maps.size (.map l : DataW Value)) ⟨[], Fz, [ga], _, i1, s2, h70, hab, habm1, hrg, Collected.start _, by rw [hD]; simp⟩)
        intro ss a w2 F2 g2 i2 s3 hp hsl2
        unfold Exit.inBlock
        simp only
        rw [if_pos trivial]
        show (Code.region 25 us25 false).wp P0 _ a w2
        obtain ⟨m', p1, e2⟩ := he
        have hperm : (bsL ss).Perm (bsL (m.map Prod.fst)) := by
          have hk1 : strKeys (.map l : DataW Value) = (m'.map Prod.fst).map fun q : ByteArray => q.data.toList := e2.keys
          rw [hk1] at hp
          exact hp.trans ((p1.map _).map _)
        have h25 := us25_eq' C ss w.heap.size (by omega)
        rw [sortS_perm hperm] at h25
        refine wp_mono (interp_ok ok (O := us25O) (asc_cons us_sort asc_nil) _ (by trivial) i2 s3 h25) ?_
        rintro e a4 w4 ⟨ex, σ4, F4, g4, he, i4, s4, hk⟩
        cases ex with
        | exit id => cases hk
        | ret => cases hk
        | normal =>
          subst he
          exact interp_ok ok (O := fun _ => []) (fun f sp h => by cases h) (n := 0) (H := usN) (.region 26 us26 false) (by trivial) i4 s4 hk
      · cases hy
    · cases hy
end
end Go.Proofs.YthllmcijlhlimaaGreatDoor.Cm

/- By a program of this session (kprint.py) over the printer: functions of the code as plain Lean functions, and the walks that say so. -/
import Derived.Test.YtpiafijccnbdbaaDoorProg
import Derived.Below
import Derived.Deep.Draws
import Derived.Deep.AppendLies
import Derived.Maps.AppendAt
import Derived.OwnWalk
import Derived.Laws.BytesArg
import Derived.Laws.MakeOwn
import Derived.Laws.OwnMore
import Derived.Deep.OwnRows
import Derived.Tactics
import Derived.Lib.ConvBytes
import Derived.Laws.Slices
import Derived.WalkKit
import Derived.KernelRfl
import Derived.RowKit3
import Derived.Deep.LoopGhost
import Derived.Deep.QuietTactic
import Derived.BigQuiet
import Derived.WideLaws
import Derived.Deep.DeepCutAuto
import Derived.Deep.CutBlock
import Derived.Deep.RegionHeld3
import Derived.Laws.Rows
import Derived.Lib.AppendStr
import Derived.ArgAppend
import Derived.Laws.IdiomCopy
import Derived.OrdersHeld
import Derived.Laws.BitsLemmas
import Derived.RowKit
import Derived.Deep.RegionWith
import Derived.LaidEql
import Derived.Laws.BitsAllLaws
import Derived.Lib.SliceRun
import Derived.Lib.Zigzag
import Derived.Lib.AppendIntMem
import Derived.Test.YtpiafijccnbdbaaDoorWWords
import Derived.Test.YtpiafijccnbdbaaDoorWLast
import Derived.Test.YtpiafijccnbdbaaDoorWTab
import Derived.Test.YtpiafijccnbdbaaDoorWFour
import Derived.Test.YtpiafijccnbdbaaDoorWQPut
import Derived.Test.YtpiafijccnbdbaaDoorWApart
import Derived.Test.YtpiafijccnbdbaaDoorWArr
import Derived.Test.YtpiafijccnbdbaaDoorWZeros
import Derived.Test.YtpiafijccnbdbaaDoorWFoot
import Derived.Test.YtpiafijccnbdbaaDoorWKept
import Derived.Test.YtpiafijccnbdbaaDoorWShare
import Derived.Test.YtpiafijccnbdbaaDoorWN
import Derived.Test.YtpiafijccnbdbaaDoorWFootNe
import Derived.Test.YtpiafijccnbdbaaDoorWAt
import Derived.Test.YtpiafijccnbdbaaDoorWEqStruct
import Derived.Test.YtpiafijccnbdbaaDoorWRepsOne
import Derived.Test.YtpiafijccnbdbaaDoorWInv
import Derived.Test.YtpiafijccnbdbaaDoorWInvWords
import Derived.Test.YtpiafijccnbdbaaDoorWGuard
import Derived.Test.YtpiafijccnbdbaaDoorWNEv
import Derived.Test.YtpiafijccnbdbaaDoorWMore
namespace Go.Proofs.YtpiafijccnbdbaaDoor.KTWireTwins
open Go.RowKit Go.Proofs.YtpiafijccnbdbaaDoorW.PrintWords Go.Proofs.YtpiafijccnbdbaaDoorW.PrintLast Go.Proofs.YtpiafijccnbdbaaDoorW.PrintMore
attribute [local go_sem] max2_int min2_int max_two min_two max_three min_three max_four min_four   -- for this text's walks alone
set_option linter.unusedVariables false
set_option linter.unusedSimpArgs false



/-- Where the sentinels lie. -/
class Sent where
  S : Int → Addr
def errW [Sent] : Option Int → Value
  | none => .nilIface
  | some c => .iface 69 (.pointer (some (Sent.S c)))
theorem errW_none [Sent] : errW none = .nilIface := rfl
theorem errW_some [Sent] (c : Int) : errW (some c) = .iface 69 (.pointer (some (Sent.S c))) := rfl
/-- The sentinels' numbers, and their variables. -/
def sentList : List (Int × Nat) := [(101, 1), (102, 2), (104, 0)]
/-- Each sentinel's variable holds it; each lies in a block of its own. -/
structure GlobW [Sent] (w : World) : Prop where
  cells : ∀ c ∈ sentList, w.cell? ⟨c.2, 0, none⟩ = some (.iface 69 (.pointer (some (Sent.S c.1)))) ∧ ∃ ca ta, w.heap[(Sent.S c.1).block]? = some (.cells ca ta (0, 0))
  inj : ∀ c ∈ sentList, ∀ d ∈ sentList, Sent.S c.1 = Sent.S d.1 → c.1 = d.1
  tab : True
theorem GlobW.below [Sent] {w w1 : World} (h : GlobW w) (hb : Below w.heap.size w w1) : GlobW w1 :=
  ⟨fun c hc => ⟨pw_cell_below hb (h.1 c hc).1, (h.1 c hc).2.elim fun ca hz => hz.elim fun ta z => ⟨ca, ta, (hb.block _ (blk_lt z)).trans z⟩⟩, h.2, trivial⟩
theorem GlobW.cell [Sent] {w w1 : World} (h : GlobW w) (hb : Below w.heap.size w w1) (c : Int × Nat) (hc : c ∈ sentList) : w1.cell? ⟨c.2, 0, none⟩ = some (.iface 69 (.pointer (some (Sent.S c.1)))) := ((h.below hb).1 c hc).1

theorem kw_makecap {α : Type} {P : Program} {ops : Array Oper} {rest : List Oper} {o : Oper} {a : Act} {Q : Exit → Act → World → Prop} (d : Kd α) {w0 W : World} (base e : Nat) (hgd : o.guard = none) {N : Tmp} (_hd : o.dst = some N)
    (t : TypeId) (x y : Operand) (ho : o.op = .makeSlice t x y) (n : Int) (hx : a.eval x = .int .i64 0) (hy : a.eval y = .int .i64 n)
    (ht : P.underlying t = some (.slice e)) (z : Value) (bytes : Nat) (hinfo : (P.info? e).map (fun i => (i.zero, i.size, i.bytes)) = some (some z, d.sz, bytes)) (hb0 : 0 < bytes)
    {ok : Nat → Prop} (hfresh : ok W.heap.size) (h0 : 0 ≤ n) (hl : n.toNat * bytes ≤ 281474976710656) (HB : Below base w0 W) (hbase : base ≤ W.heap.size)
    (h : ∀ v1 w1, d.R e w1 base ok v1 ([] : List α) → Below base w0 w1 → W.grownBy w1 none → (∃ b, v1.ownBlock = some b ∧ W.heap.size ≤ b) → wpList P ops Q rest (a.put o.dst v1) w1) : wpList P ops Q (o :: rest) a W := by
  obtain ⟨m, rfl⟩ := Int.eq_ofNat_of_zero_le h0
  simp only [Int.toNat_natCast] at hl
  obtain ⟨i0, hi, hzz⟩ := Option.map_eq_some_iff.1 hinfo
  simp only [Prod.mk.injEq] at hzz
  obtain ⟨hz0, hz1, hz2⟩ := hzz
  have hm : m ≤ 281474976710656 := Nat.le_trans (Nat.le_mul_of_pos_right _ hb0) hl
  refine wpList_make_own W hgd x y t ho base e i0 z d.sz ht hi hz0 hz1 .i64 .i64 (m : Int) m hx hy rfl (by rw [hz2, Nat.mul_comm]; exact hl) (by simp only [maxLen]; omega) hbase ?_
  intro w1 hown hg
  refine h _ _ ⟨fun k hk => ?_, [], hown, Reps.none _ _⟩ (pw_below_grown HB none hbase hg (fun k hk => by cases hk)) hg ⟨W.heap.size, by simp [Value.ownBlock], Nat.le_refl _⟩
  have : W.heap.size = k := by simpa [Value.ownBlock] using hk
  subst this
  exact hfresh
theorem kw_makecapS {α : Type} {P : Program} {ops : Array Oper} {rest : List Oper} {o : Oper} {a : Act} {Q : Exit → Act → World → Prop} (d : Kd α) {w0 W : World} (base e : Nat) (hgd : o.guard = none) {N : Tmp} (_hd : o.dst = some N)
    (t : TypeId) (x y : Operand) (ho : o.op = .makeSlice t x y) (n : Int) (hx : a.eval x = .int .i64 0) (hy : a.eval y = .int .i64 n)
    (ht : P.underlying t = some (.slice e)) (z : Value) (bytes : Nat) (hinfo : (P.info? e).map (fun i => (i.zero, i.size, i.bytes)) = some (some z, d.sz, bytes)) (hb0 : 0 < bytes)
    {ok okp : Nat → Prop} (_hok : ∀ k, okp k → ok k) (hfresh : ok W.heap.size) (h0 : 0 ≤ n) (hl : n.toNat * bytes ≤ 281474976710656) (HB : Below base w0 W) (hbase : base ≤ W.heap.size)
    (h : ∀ v1 w1, Kd.S d e w1 base ok v1 ([] : List α) → Below base w0 w1 → W.grownBy w1 none → (∃ b, v1.ownBlock = some b ∧ W.heap.size ≤ b) → wpList P ops Q rest (a.put o.dst v1) w1) : wpList P ops Q (o :: rest) a W :=
  kw_makecap (Kd.bare d) base e hgd _hd t x y ho n hx hy ht z bytes hinfo hb0 (ok := ok) hfresh h0 hl HB hbase (fun v1 w1 hr => h v1 w1 (Kd.S_bare hr))
theorem kw_makecapN {α : Type} {P : Program} {ops : Array Oper} {rest : List Oper} {o : Oper} {a : Act} {Q : Exit → Act → World → Prop} (d : Kd α) {w0 W : World} (base e : Nat) (hgd : o.guard = none) {N' : Tmp} (_hd : o.dst = some N')
    (t : TypeId) (x y : Operand) (ho : o.op = .makeSlice t x y) (n : Int) (hx : a.eval x = .int .i64 0) (hy : a.eval y = .int .i64 n)
    (ht : P.underlying t = some (.slice e)) (z : Value) (bytes : Nat) (hinfo : (P.info? e).map (fun i => (i.zero, i.size, i.bytes)) = some (some z, d.sz, bytes)) (hb0 : 0 < bytes)
    {ok okp : Nat → Prop} (_hok : ∀ k, okp k → ok k) (hfresh : ok W.heap.size) (h0 : 0 ≤ n) (hl : n.toNat * bytes ≤ 281474976710656) (HB : Below base w0 W) (hbase : base ≤ W.heap.size)
    (h : ∀ v1 w1, Kd.N d e w1 base ok v1 ([] : List α) → Below base w0 w1 → W.grownBy w1 none → (∃ b, v1.ownBlock = some b ∧ W.heap.size ≤ b) → wpList P ops Q rest (a.put o.dst v1) w1) : wpList P ops Q (o :: rest) a W :=
  kw_makecap d base e hgd _hd t x y ho n hx hy ht z bytes hinfo hb0 (ok := ok) hfresh h0 hl HB hbase (fun v1 w1 hr => h v1 w1 (Kd.R_N hr))

theorem info5 : (Tryd.prog.info? 5).map (fun i => (i.zero, i.size, i.bytes)) = some (some (.int .u8 0), 1, 1) := by kernel_rfl
-- the values' own types
def rd_L1 (xs : List (List Int)) (i : Int) : (List Int) := xs.getD i.toNat ([] : List Int)
theorem at_L1 {w : World} {A : Option Addr} {n : Nat} {xs : List (List Int)} (h : Kd.C (Kd.slice 5 (Kd.int .u8)) w A n xs) (i : Int) (h0 : 0 ≤ i) (h1 : i < n) : ∃ ad A0 c0, A = some ad ∧ w.cell? (ad.add i.toNat) = some (.slice A0 (rd_L1 xs i).length c0) ∧ (rd_L1 xs i).length ≤ c0 ∧ (Kd.int .u8).C w A0 (rd_L1 xs i).length (rd_L1 xs i) := by
  obtain ⟨ad, c, e, _, hK, hc0⟩ := Kd.C_get h ([] : List Int) i h0 h1
  have hc : ∀ j u, c[j]? = some u → w.cell? (ad.add (i.toNat * 1 + j)) = some u := hc0
  obtain ⟨A0, c0, rfl, l0, g0⟩ := hK
  exact ⟨ad, A0, c0, e, by have hq := hc 0 _ rfl; rwa [Nat.mul_one, Nat.add_zero] at hq, l0, g0⟩

end Go.Proofs.YtpiafijccnbdbaaDoor.KTWireTwins

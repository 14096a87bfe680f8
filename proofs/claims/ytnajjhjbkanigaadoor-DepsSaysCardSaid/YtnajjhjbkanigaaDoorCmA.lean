/- Code as plain functions: a small reading of the code over plain data. What values, memory and code are there. By this session. -/
import Derived.Test.YtnajjhjbkanigaaDoorProg
import Derived.ProofKit
import Derived.WalkKit
import Derived.KernelRfl
namespace Go.Proofs.YtnajjhjbkanigaaDoor.Cm
open Go
set_option linter.unusedVariables false

/-- What is told of an error: none, one of the package's own, one with a place around another. -/
inductive ErrV where
  | nil
  | sent (c : Nat)
  | at_ (p : Int) (e : ErrV)
  deriving DecidableEq, Inhabited

/-- A structure that contains itself: three numbers, a text, and more of them. -/
inductive Rx where
  | mk (op pos n : Int) (name : ByteArray) (l : List Rx)
instance : Inhabited Rx := ⟨.mk 0 0 0 ByteArray.empty []⟩
def Rx.un : Rx → Int × Int × Int × ByteArray × List Rx
  | .mk a b c d e => (a, b, c, d, e)
def Rx.ro (x : Int × Int × Int × ByteArray × List Rx) : Rx := .mk x.1 x.2.1 x.2.2.1 x.2.2.2.1 x.2.2.2.2
theorem Rx.un_ro (x : Int × Int × Int × ByteArray × List Rx) : (Rx.ro x).un = x := rfl
theorem Rx.ro_un : ∀ x : Rx, Rx.ro x.un = x
  | .mk _ _ _ _ _ => rfl
/-- The kinds of plain data, cell by cell. -/
inductive Ty where
  | unit
  | int (k : IntKind)
  | bool
  | str
  | err
  | atp
  | slice (e : TypeId) (t : Ty)
  | fl (e : TypeId) (t : Ty)
  | exs (e : TypeId)
  | pair (a b : Ty)
  deriving DecidableEq, Inhabited
@[reducible] def Ty.T : Ty → Type
  | .unit => Unit
  | .int _ => Int
  | .bool => Bool
  | .str => ByteArray
  | .err => ErrV
  | .atp => Option (Int × ErrV)
  | .slice _ t => List t.T
  | .fl _ t => Bool × List t.T
  | .exs _ => List Rx
  | .pair a b => a.T × b.T
def Ty.dflt : (t : Ty) → t.T
  | .unit => ()
  | .int _ => (0 : Int)
  | .bool => false
  | .str => ByteArray.empty
  | .err => ErrV.nil
  | .atp => (none : Option (Int × ErrV))
  | .slice _ t => ([] : List t.T)
  | .fl _ t => ((true, []) : Bool × List t.T)
  | .exs _ => ([] : List Rx)
  | .pair a b => (a.dflt, b.dflt)
def Ty.size : Ty → Nat
  | .unit => 0
  | .pair a b => a.size + b.size
  | _ => 1

/-- The kind of a structure that contains itself. -/
abbrev tyEx (e : TypeId) : Ty := .pair (.int .i64) (.pair (.int .i64) (.pair (.int .i64) (.pair .str (.exs e))))

/-- What a cell, or a value of one cell, is. Slots are places of memory of one's own. -/
inductive Lf where
  | val (k : Ty) (x : k.T)
  | undef
  | opq
  | emp (isNil : Bool)
  | arr (s : Nat)
  | ptr (s off : Nat)
  | elt (s sz : Nat) (i : Int) (off : Nat)
  | fad (k : Ty) (x : k.T) (off : Nat)
  | rowv (s len : Nat)
  | nilp
  | map (s : Nat)
  | nilmap
  | fn (f : FuncId) (caps : List Nat)
  | nilf
  | glob (g : Nat)
  | skp
instance : Inhabited Lf := ⟨.undef⟩
inductive Ent where
  | one (l : Lf)
  | agg (cs : List Lf)
  | tup (ps : List (Bool × List Lf))
instance : Inhabited Ent := ⟨.one .undef⟩
inductive Slot where
  | dead
  | arr (e : TypeId) (t : Ty) (l : List t.T)
  | frz (e : TypeId) (t : Ty) (l : List t.T)
  | obj (t : TypeId) (cs : List Lf)
  | map (kt vt : Ty) (ag : Bool) (m : List (kt.T × vt.T))
instance : Inhabited Slot := ⟨.dead⟩
structure St where
  t : List Ent
  s : List Slot
def St.set (σ : St) (d : Option Nat) (e : Ent) (s : List Slot) : St :=
  match d with
  | some d => ⟨σ.t.set d e, s⟩
  | none => ⟨σ.t, s⟩

def Ent.part : Bool × List Lf → Ent
  | (true, cs) => .agg cs
  | (false, [l]) => .one l
  | _ => .one .undef
def Ent.cells : Ent → List Lf
  | .one l => [l]
  | .agg cs => cs
  | .tup _ => []
def Ent.isAgg : Ent → Bool
  | .agg _ => true
  | _ => false
def Ent.toPart : Ent → Bool × List Lf
  | .agg cs => (true, cs)
  | .one l => (false, [l])
  | .tup _ => (false, [])

def lfOf : Value → Lf
  | .int k n => .val (.int k) n
  | .bool b => .val .bool b
  | .string s => .val .str s
  | .nilIface => .val .err .nil
  | .slice none 0 0 => .emp true
  | .pointer none => .nilp
  | .map none => .nilmap
  | .nilFunc => .nilf
  | .agg _ => .undef
  | .tuple _ => .undef
  | _ => .opq
def entOf : Value → Ent
  | .agg cs => .agg (cs.toList.map lfOf)
  | v => .one (lfOf v)

def explode : (t : Ty) → t.T → List Lf
  | .unit, _ => []
  | .pair a b, x => explode a x.1 ++ explode b x.2
  | .int k, x => [.val (.int k) x]
  | .bool, x => [.val .bool x]
  | .str, x => [.val .str x]
  | .err, x => [.val .err x]
  | .atp, x => [.val .atp x]
  | .slice e t, x => [.val (.slice e t) x]
  | .fl e t, x => [.val (.fl e t) x]
  | .exs e, x => [.val (.slice e (tyEx e)) ((show List Rx from x).map Rx.un)]
/-- One cell as plain data of a kind; a slice of one's own is sealed by it. -/
def asT0 (t : Ty) (l : Lf) (s : List Slot) : Option (t.T × List Slot) :=
  match t, l with
  | t, .val k x => if h : k = t then some (h ▸ x, s) else none
  | .slice e t, .emp _ => some (([] : List t.T), s)
  | .slice e t, .arr j =>
    match s[j]? with
    | some (.arr e' t' l) => if h : e' = e ∧ t' = t then some ((h.2 ▸ l : List t.T), s.set j (.frz e t (h.2 ▸ l))) else none
    | some (.frz e' t' l) => if h : e' = e ∧ t' = t then some ((h.2 ▸ l : List t.T), s) else none
    | _ => none
  | .fl e t, .emp _ => some (((true, []) : Bool × List t.T), s)
  | .fl e t, .arr j =>
    match s[j]? with
    | some (.arr e' t' l) => if h : e' = e ∧ t' = t then some (((false, (h.2 ▸ l : List t.T)) : Bool × List t.T), s.set j (.frz e t (h.2 ▸ l))) else none
    | some (.frz e' t' l) => if h : e' = e ∧ t' = t then some (((false, (h.2 ▸ l : List t.T)) : Bool × List t.T), s) else none
    | _ => none
  | .atp, .nilp => some ((none : Option (Int × ErrV)), s)
  | _, _ => none
def asT (t : Ty) (l : Lf) (s : List Slot) : Option (t.T × List Slot) :=
  match t with
  | .exs e =>
    match asT0 (.slice e (tyEx e)) l s with
    | some (x, s) => some (((show List (tyEx e).T from x).map Rx.ro : List Rx), s)
    | none => none
  | t => asT0 t l s
def implode : (t : Ty) → List Lf → List Slot → Option (t.T × List Lf × List Slot)
  | .unit, cs, s => some ((), cs, s)
  | .pair a b, cs, s =>
    match implode a cs s with
    | some (x, cs, s) =>
      match implode b cs s with
      | some (y, cs, s) => some ((x, y), cs, s)
      | none => none
    | none => none
  | t, c :: cs, s =>
    match asT t c s with
    | some (x, s) => some (x, cs, s)
    | none => none
  | _, [], _ => none
def implode1 (t : Ty) (cs : List Lf) (s : List Slot) : Option (t.T × List Slot) :=
  match implode t cs s with
  | some (x, [], s) => some (x, s)
  | _ => none

/-- The program's own types of errors, and its errors: number, variable. -/
structure Cfg where
  te : TypeId
  ta : TypeId
  tA : TypeId
  sents : List (Nat × Nat)
  tabs : List (Nat × (Option Obj → Prop)) := []
  blind : List TypeId := []
  full : List (TypeId × Nat) := []
  exs : List TypeId := []

def pairs : List (Option Ty) → Option Ty
  | [] => some .unit
  | [t] => t
  | t :: r =>
    match t, pairs r with
    | some a, some b => some (.pair a b)
    | _, _ => none
/-- A field's slice of which is told whether it has no more room. -/
def flT : Bool → Option Ty → Option Ty
  | true, some (.slice e t) => some (.fl e t)
  | _, r => r
def tyOf (P : Program) (C : Cfg) : Nat → TypeId → Option Ty
  | 0, _ => none
  | n + 1, t =>
    match P.underlying t with
    | some (.int k) => some (.int k)
    | some .bool => some .bool
    | some .string => some .str
    | some (.slice e) => if C.exs.contains e then some (.exs e) else if C.blind.contains e then some (.slice e .unit) else (tyOf P C n e).map (.slice e)
    | some (.struct fs) => pairs (fs.toList.zipIdx.map fun f => flT (C.full.contains (t, f.2)) (tyOf P C n f.1.type))
    | some (.interface _) => some .err
    | some (.pointer _) => if t = C.ta then some .atp else none
    | _ => none
def isAggB (P : Program) (t : TypeId) : Option Bool :=
  match P.underlying t with
  | some (.struct _) => some true
  | some (.array _ _) => some true
  | some _ => some false
  | none => none
def zeroEnt (P : Program) (t : TypeId) : Option Ent :=
  match P.info? t with
  | some i => i.zero.map entOf
  | none => none
def elemT (P : Program) (t : TypeId) : Option TypeId :=
  match P.underlying t with
  | some (.slice e) => some e
  | _ => none
def sizeT (P : Program) (t : TypeId) : Option Nat := (P.info? t).map (·.size)
def bytesT (P : Program) (t : TypeId) : Option Nat := (P.info? t).map (·.bytes)
def fieldT (P : Program) (t : TypeId) (f : Nat) : Option Field :=
  match P.underlying t with
  | some (.struct fs) => fs[f]?
  | _ => none
def readCells (P : Program) (cs : List Lf) (off : Nat) (t : TypeId) : Option Ent :=
  match isAggB P t with
  | some true =>
    match sizeT P t with
    | some n => if off + n ≤ cs.length then some (.agg ((cs.drop off).take n)) else none
    | none => none
  | some false => (cs[off]?).map .one
  | none => none
def writeCells (cs : List Lf) (off : Nat) (new : List Lf) : Option (List Lf) :=
  if off + new.length ≤ cs.length then some (cs.take off ++ new ++ cs.drop (off + new.length)) else none

/-! ### shapes: what is known of values ahead, and the data that is left -/
inductive LSh where
  | val (k : Ty)
  | undef
  | emp (b : Bool)
  | arr (s : Nat)
  | ptr (s off : Nat)
  | elt (s sz off : Nat)
  | fad (k : Ty) (off : Nat)
  | rowv (s len : Nat)
  | nilp
  | map (s : Nat)
  | nilmap
  | fn (f : FuncId) (caps : List Nat)
  | nilf
  | opq
abbrev LSh.T : LSh → Type
  | .val k => k.T
  | .elt .. => Int
  | .fad k _ => k.T
  | _ => Unit
abbrev LShs.T : List LSh → Type
  | [] => Unit
  | a :: r => a.T × LShs.T r
inductive ESh where
  | one (l : LSh)
  | agg (cs : List LSh)
  | tup (ps : List (Bool × List LSh))
abbrev PSh.T : List (Bool × List LSh) → Type
  | [] => Unit
  | a :: r => LShs.T a.2 × PSh.T r
abbrev ESh.T : ESh → Type
  | .one l => l.T
  | .agg cs => LShs.T cs
  | .tup ps => PSh.T ps
abbrev EShs.T : List ESh → Type
  | [] => Unit
  | a :: r => a.T × EShs.T r
inductive SSh where
  | dead
  | arr (e : TypeId) (t : Ty)
  | frz (e : TypeId) (t : Ty)
  | obj (t : TypeId) (cs : List LSh)
  | map (kt vt : Ty) (ag : Bool)
abbrev SSh.T : SSh → Type
  | .dead => Unit
  | .arr _ t => List t.T
  | .frz _ t => List t.T
  | .obj _ cs => LShs.T cs
  | .map kt vt _ => List (kt.T × vt.T)
abbrev SShs.T : List SSh → Type
  | [] => Unit
  | a :: r => a.T × SShs.T r
structure Sh where
  es : List ESh
  ss : List SSh
abbrev Sh.T (h : Sh) : Type := EShs.T h.es × SShs.T h.ss

def packL : (a : LSh) → a.T → Lf
  | .val k, x => .val k x
  | .undef, _ => .undef
  | .emp b, _ => .emp b
  | .arr s, _ => .arr s
  | .ptr s o, _ => .ptr s o
  | .elt s z o, i => .elt s z i o
  | .fad k o, x => .fad k x o
  | .rowv s n, _ => .rowv s n
  | .nilp, _ => .nilp
  | .map s, _ => .map s
  | .nilmap, _ => .nilmap
  | .fn f c, _ => .fn f c
  | .nilf, _ => .nilf
  | .opq, _ => .opq
def packLs : (hs : List LSh) → LShs.T hs → List Lf
  | [], _ => []
  | a :: r, x => packL a x.1 :: packLs r x.2
def packPs : (hs : List (Bool × List LSh)) → PSh.T hs → List (Bool × List Lf)
  | [], _ => []
  | a :: r, x => (a.1, packLs a.2 x.1) :: packPs r x.2
def packE : (a : ESh) → a.T → Ent
  | .one l, x => .one (packL l x)
  | .agg cs, x => .agg (packLs cs x)
  | .tup ps, x => .tup (packPs ps x)
def packEs : (hs : List ESh) → EShs.T hs → List Ent
  | [], _ => []
  | a :: r, x => packE a x.1 :: packEs r x.2
def packS : (a : SSh) → a.T → Slot
  | .dead, _ => .dead
  | .arr e t, l => .arr e t l
  | .frz e t, l => .frz e t l
  | .obj t cs, x => .obj t (packLs cs x)
  | .map kt vt ag, m => .map kt vt ag m
def packSs : (hs : List SSh) → SShs.T hs → List Slot
  | [], _ => []
  | a :: r, x => packS a x.1 :: packSs r x.2

/-- Which slots are met, in order, and the slots as they are. -/
structure CS where
  m : List Nat
  tbl : List Slot
def CS.link (c : CS) (j s : Nat) : Option CS :=
  if j < c.m.length then (if c.m[j]? = some s then some c else none)
  else if j = c.m.length ∧ s ∉ c.m ∧ s < c.tbl.length then some ⟨c.m ++ [s], c.tbl⟩ else none
/-- A slot of one's own, met again where its first place is given up. -/
def CS.move (c : CS) (sh : List SSh) (j s : Nat) : Option CS :=
  match (c.m.findIdx? (· == s)).bind (sh[·]?), c.tbl[s]? with
  | some .dead, some (.arr e t l) => if j = c.m.length then some ⟨c.m ++ [c.tbl.length], c.tbl.set s .dead ++ [.arr e t l]⟩ else none
  | _, _ => none
def CS.links (c : CS) : List Nat → List Nat → Option CS
  | [], [] => some c
  | j :: js, s :: ss =>
    match c.link j s with
    | some c => c.links js ss
    | none => none
  | _, _ => none
def isArr : Lf → Option Nat
  | .arr s => some s
  | _ => none
def confV (k : Ty) (l : Lf) (c : CS) : Option (k.T × CS) :=
  match isArr l with
  | some s =>
    if s ∈ c.m then none else
    match asT k l c.tbl with
    | some (x, tbl) => some (x, ⟨c.m, tbl⟩)
    | none => none
  | none =>
    match asT k l c.tbl with
    | some (x, _) => some (x, c)
    | none => none
def confL (sh : List SSh) (a : LSh) (l : Lf) (c : CS) : Option (a.T × CS) :=
  match a, l with
  | .val k, l => confV k l c
  | .undef, _ => some ((), c)
  | .emp b, .emp b' => if b = b' then some ((), c) else none
  | .arr j, .arr s =>
    match c.link j s with
    | some c => some ((), c)
    | none => (c.move sh j s).map fun c => ((), c)
  | .arr j, .emp _ =>
    match sh[j]? with
    | some (.arr e t) => ((⟨c.m, c.tbl ++ [.arr e t []]⟩ : CS).link j c.tbl.length).map fun c => ((), c)
    | _ => none
  | .ptr j o, .ptr s o' => if o = o' then (c.link j s).map fun c => ((), c) else none
  | .elt j z o, .elt s z' i o' => if z = z' ∧ o = o' then (c.link j s).map fun c => (i, c) else none
  | .fad k o, .fad k' x o' => if h : k' = k then (if o = o' then some ((h ▸ x : k.T), c) else none) else none
  | .rowv j n, .rowv s n' => if n = n' then (c.link j s).map fun c => ((), c) else none
  | .nilp, .nilp => some ((), c)
  | .map j, .map s => (c.link j s).map fun c => ((), c)
  | .nilmap, .nilmap => some ((), c)
  | .fn f cs, .fn f' cs' => if f = f' then (c.links cs cs').map fun c => ((), c) else none
  | .nilf, .nilf => some ((), c)
  | .opq, .opq => some ((), c)
  | _, _ => none
def confLs (sh : List SSh) : (hs : List LSh) → List Lf → CS → Option (LShs.T hs × CS)
  | [], [], c => some ((), c)
  | a :: r, l :: ls, c =>
    match confL sh a l c with
    | some (x, c) =>
      match confLs sh r ls c with
      | some (y, c) => some ((x, y), c)
      | none => none
    | none => none
  | _, _, _ => none
def confPs (sh : List SSh) : (hs : List (Bool × List LSh)) → List (Bool × List Lf) → CS → Option (PSh.T hs × CS)
  | [], [], c => some ((), c)
  | a :: r, p :: ps, c =>
    if a.1 = p.1 ∧ (p.1 = true ∨ p.2.length = 1) then
      match confLs sh a.2 p.2 c with
      | some (x, c) =>
        match confPs sh r ps c with
        | some (y, c) => some ((x, y), c)
        | none => none
      | none => none
    else none
  | _, _, _ => none
def confE (sh : List SSh) (a : ESh) (e : Ent) (c : CS) : Option (a.T × CS) :=
  match a, e with
  | .one .undef, _ => some ((), c)
  | .one l, .one x => confL sh l x c
  | .agg hs, .agg cs => confLs sh hs cs c
  | .tup hs, .tup ps => confPs sh hs ps c
  | _, _ => none
def confEs (sh : List SSh) : (hs : List ESh) → List Ent → CS → Option (EShs.T hs × CS)
  | [], [], c => some ((), c)
  | a :: r, l :: ls, c =>
    match confE sh a l c with
    | some (x, c) =>
      match confEs sh r ls c with
      | some (y, c) => some ((x, y), c)
      | none => none
    | none => none
  | _, _, _ => none
/-- The slots that were met, from the j-th on. -/
def confS (sh : List SSh) (a : SSh) (s : Slot) (c : CS) : Option (a.T × CS) :=
  match a, s with
  | .dead, _ => some ((), c)
  | .arr e t, .arr e' t' l => if h : e' = e ∧ t' = t then some ((h.2 ▸ l : List t.T), c) else none
  | .frz e t, .frz e' t' l => if h : e' = e ∧ t' = t then some ((h.2 ▸ l : List t.T), c) else none
  | .obj t hs, .obj t' cs => if t = t' then confLs sh hs cs c else none
  | .map kt vt ag, .map kt' vt' ag' m => if h : kt' = kt ∧ vt' = vt ∧ ag' = ag then some ((h.1 ▸ h.2.1 ▸ m : List (kt.T × vt.T)), c) else none
  | _, _ => none
def confSs (sh : List SSh) : (hs : List SSh) → Nat → CS → Option (SShs.T hs × CS)
  | [], j, c => if j = c.m.length then some ((), c) else none
  | a :: r, j, c =>
    match c.m[j]? with
    | some s =>
      match confS sh a (c.tbl.getD s .dead) c with
      | some (x, c) =>
        match confSs sh r (j + 1) c with
        | some (y, c) => some ((x, y), c)
        | none => none
      | none => none
    | none => none
/-- What is there, as data of a shape; the slots in 'm' come first, in that order. -/
def conf (h : Sh) (es : List Ent) (m : List Nat) (tbl : List Slot) : Option (h.T × CS) :=
  match confEs h.ss h.es es ⟨m, tbl⟩ with
  | some (x, c) =>
    match confSs h.ss h.ss 0 c with
    | some (y, c) => some ((x, y), c)
    | none => none
  | none => none

/-- What a function is told and answers: shapes, and the plain function between. -/
abbrev OutsT : List Sh → Type
  | [] => Empty
  | [h] => h.T
  | h :: g :: r => Sum h.T (OutsT (g :: r))
def outP : (o : List Sh) → OutsT o → List Ent × List Slot
  | [], _ => ([], [])
  | [h], y => (packEs h.es y.1, packSs h.ss y.2)
  | h :: g :: r, y =>
    match y with
    | .inl y => (packEs h.es y.1, packSs h.ss y.2)
    | .inr y => outP (g :: r) y
structure FSpec where
  ins : Sh
  outs : List Sh
  sem : ins.T → Option (OutsT outs)

def Lf.ren (ρ : Nat → Nat) : Lf → Lf
  | .arr s => .arr (ρ s)
  | .ptr s o => .ptr (ρ s) o
  | .elt s z i o => .elt (ρ s) z i o
  | .rowv s n => .rowv (ρ s) n
  | .map s => .map (ρ s)
  | .fn f caps => .fn f (caps.map ρ)
  | l => l
def Ent.ren (ρ : Nat → Nat) : Ent → Ent
  | .one l => .one (l.ren ρ)
  | .agg cs => .agg (cs.map (·.ren ρ))
  | .tup ps => .tup (ps.map fun p => (p.1, p.2.map (·.ren ρ)))
def Slot.ren (ρ : Nat → Nat) : Slot → Slot
  | .obj t cs => .obj t (cs.map (·.ren ρ))
  | s => s
/-- Slots of a call, back in the caller's places. -/
def putBack {α : Type} (tbl : List α) : List Nat → List α → List α
  | i :: m, s :: r => putBack (tbl.set i s) m r
  | _, r => tbl ++ r
def back (m : List Nat) (n : Nat) (j : Nat) : Nat := if j < m.length then m.getD j 0 else n + (j - m.length)
end Go.Proofs.YtnajjhjbkanigaaDoor.Cm

/- Code as plain functions: the reading of operations and of code over plain data. By this session. -/
import Derived.Test.YtnajjhjbkanigaaDoorCmA
import Derived.Laws.BytesArg
namespace Go.Proofs.YtnajjhjbkanigaaDoor.Cm
open Go
set_option linter.unusedVariables false

def strEq (x y : ByteArray) : Bool := x.data.toList == y.data.toList
/-- A string as a number: so that keys are told apart at once. -/
def strN : List UInt8 → Nat
  | [] => 0
  | b :: l => strN l * 257 + (b.toNat + 1)
def strNum (s : ByteArray) : Nat := strN s.data.toList
def strLt (x y : ByteArray) : Bool := Op.bytesLess x.data.toList y.data.toList
def bitsOp (op : BinOp) (k : IntKind) (x y : Int) : Int :=
  match op with
  | .and => k.wrap ((BitVec.ofInt k.bits x &&& BitVec.ofInt k.bits y).toNat : Int)
  | .or => k.wrap ((BitVec.ofInt k.bits x ||| BitVec.ofInt k.bits y).toNat : Int)
  | .xor => k.wrap ((BitVec.ofInt k.bits x ^^^ BitVec.ofInt k.bits y).toNat : Int)
  | _ => k.wrap ((BitVec.ofInt k.bits x &&& ~~~ BitVec.ofInt k.bits y).toNat : Int)
def shlOp (k : IntKind) (x y : Int) : Int := k.wrap (x * 2 ^ min y.toNat k.bits)
def shrOp (k : IntKind) (x y : Int) : Int := x.fdiv (2 ^ min y.toNat k.bits)
def errNil : ErrV → Bool
  | .nil => true
  | _ => false
def errEq : ErrV → ErrV → Option Bool
  | .nil, .nil => none
  | .nil, _ => some false
  | _, .nil => some false
  | .sent c, .sent d => some (c == d)
  | .sent _, .at_ _ _ => some false
  | .at_ _ _, .sent _ => some false
  | .at_ _ _, .at_ _ _ => none
def errAt : ErrV → Option (Int × ErrV)
  | .at_ p e => some (p, e)
  | _ => none
def errIsAt : ErrV → Bool
  | .at_ _ _ => true
  | _ => false
def keyEq : (t : Ty) → t.T → t.T → Bool
  | .int _, a, b => show Bool from ((show Int from a) == (show Int from b))
  | .str, a, b => Nat.beq (strNum a) (strNum b)
  | _, _, _ => false
def mfind {K V : Type} (q : K → K → Bool) (k : K) : List (K × V) → Option V
  | [] => none
  | p :: r => if q k p.1 then some p.2 else mfind q k r
def mset {K V : Type} (q : K → K → Bool) (k : K) (v : V) : List (K × V) → List (K × V)
  | [] => [(k, v)]
  | p :: r => if q k p.1 then (k, v) :: r else p :: mset q k v r
def mdel {K V : Type} (q : K → K → Bool) (k : K) : List (K × V) → List (K × V)
  | [] => []
  | p :: r => if q k p.1 then r else p :: mdel q k r
def bytesL (s : ByteArray) : List Int := s.data.toList.map fun b => (b.toNat : Int)
def Lf.isCell : Lf → Bool
  | .undef => false
  | .skp => false
  | _ => true
def Ent.okc : Ent → Bool
  | .one l => l.isCell
  | .agg cs => cs.all Lf.isCell
  | .tup _ => false
def goI (n : Int) : Ent := .one (.val (.int .i64) n)
def goB (b : Bool) : Ent := .one (.val .bool b)

/-- An element. -/
def rdT (t : Ty) (l : List t.T) (i : Int) : t.T := l.getD i.toNat t.dflt
def bytS (s : ByteArray) (i : Int) : Int := ((s.data.toList.getD i.toNat 0).toNat : Int)
section
variable {R : Type}
def intOp (op : BinOp) (k : IntKind) (x y : Int) (K : Ent → Option R) : Option R :=
  match op with
  | .add => K (.one (.val (.int k) (k.wrap (x + y))))
  | .sub => K (.one (.val (.int k) (k.wrap (x - y))))
  | .mul => K (.one (.val (.int k) (k.wrap (x * y))))
  | .quo => if y = 0 then none else K (.one (.val (.int k) (k.wrap (x.tdiv y))))
  | .rem => if y = 0 then none else K (.one (.val (.int k) (x.tmod y)))
  | .shl => if y < 0 then none else K (.one (.val (.int k) (shlOp k x y)))
  | .shr => if y < 0 then none else K (.one (.val (.int k) (shrOp k x y)))
  | .and => K (.one (.val (.int k) (bitsOp .and k x y)))
  | .or => K (.one (.val (.int k) (bitsOp .or k x y)))
  | .xor => K (.one (.val (.int k) (bitsOp .xor k x y)))
  | .andNot => K (.one (.val (.int k) (bitsOp .andNot k x y)))
  | .eql => K (goB (x == y))
  | .neq => K (goB (x != y))
  | .lss => K (goB (decide (x < y)))
  | .leq => K (goB (decide (x ≤ y)))
  | .gtr => K (goB (decide (x > y)))
  | .geq => K (goB (decide (x ≥ y)))
def strOp (op : BinOp) (x y : ByteArray) (K : Ent → Option R) : Option R :=
  match op with
  | .add => if x.size + y.size ≤ 9223372036854775807 then K (.one (.val .str (x ++ y))) else none
  | .eql => K (goB (strEq x y))
  | .neq => K (goB (!strEq x y))
  | .lss => K (goB (strLt x y))
  | .leq => K (goB (strLt x y || strEq x y))
  | .gtr => K (goB (!(strLt x y || strEq x y)))
  | .geq => K (goB (!strLt x y))
  | _ => none
def eqOp (op : BinOp) (b : Bool) (K : Ent → Option R) : Option R :=
  match op with
  | .eql => K (goB b)
  | .neq => K (goB (!b))
  | _ => none
def isNilC : Operand → Bool
  | .const .nilIface => true
  | _ => false
def listOf (t : Ty) (l : Lf) (s : List Slot) : Option (List t.T) :=
  match l with
  | .val (.slice e t') l => if h : t' = t then some (h ▸ l : List t.T) else none
  | .val (.fl e t') x => if h : t' = t then some (h ▸ x.2 : List t.T) else none
  | .emp _ => some []
  | .arr j =>
    match s[j]? with
    | some (.arr _ t' l) => if h : t' = t then some (h ▸ l : List t.T) else none
    | some (.frz _ t' l) => if h : t' = t then some (h ▸ l : List t.T) else none
    | _ => none
  | .val .str x =>
    match t with
    | .int .u8 => some (bytesL x)
    | _ => none
  | _ => none
def cutB (len : Int) (lo hi : Option Ent) (K : Int → Int → Option R) : Option R :=
  match lo, hi with
  | none, none => K 0 len
  | some (.one (.val (.int _) a)), none => if 0 ≤ a ∧ a ≤ len then K a len else none
  | none, some (.one (.val (.int _) b)) => if 0 ≤ b ∧ b ≤ len then K 0 b else none
  | some (.one (.val (.int _) a)), some (.one (.val (.int _) b)) => if 0 ≤ a ∧ a ≤ b ∧ b ≤ len then K a b else none
  | _, _ => none
def cutL {α : Type} (l : List α) (a b : Int) : List α := (l.take b.toNat).drop a.toNat
end

section
variable (P : Program) (C : Cfg)

def St.ev (σ : St) : Operand → Ent
  | .tmp t => σ.t.getD t (.one .undef)
  | .const v => entOf v
  | .func f => .one (.fn f [])
  | .global g => .one (.glob g)

variable {R : Type}

def nilE (op : BinOp) (d : TypeDesc) (a b : Lf) (K : Ent → Option R) : Option R :=
  match d, a, b with
  | .pointer _, .val .atp a, .nilp => eqOp op (Option.isNone a) K
  | .pointer _, .ptr _ _, .nilp => eqOp op false K
  | .pointer _, .fad _ _ _, .nilp => eqOp op false K
  | .pointer _, .nilp, .nilp => eqOp op true K
  | .slice _, .emp true, .emp true => eqOp op true K
  | .map _ _, .map _, .nilmap => eqOp op false K
  | .map _ _, .nilmap, .nilmap => eqOp op true K
  | .func _ _ _, .fn _ _, .nilf => eqOp op false K
  | .func _ _ _, .nilf, .nilf => eqOp op true K
  | _, _, _ => none
def binE (op : BinOp) (t : TypeId) (x y : Operand) (a b : Ent) (K : Ent → Option R) : Option R :=
  match a, b with
  | .one (.val (.int k) a), .one (.val (.int k') b) =>
    match op with
    | .shl => intOp .shl k a b K
    | .shr => intOp .shr k a b K
    | op => if k = k' then intOp op k a b K else none
  | .one (.val .str a), .one (.val .str b) => strOp op a b K
  | .one (.val .bool a), .one (.val .bool b) =>
    match P.underlying t with
    | some .bool => eqOp op (a == b) K
    | _ => none
  | .one (.val .err a), .one (.val .err b) =>
    match P.underlying t with
    | some (.interface _) =>
      if isNilC y then eqOp op (errNil a) K
      else if isNilC x then eqOp op (errNil b) K
      else
        match errEq a b with
        | some r => eqOp op r K
        | none => none
    | _ => none
  | .one a, .one b =>
    match P.underlying t with
    | some d => nilE op d a b K
    | none => none
  | _, _ => none

def unE (op : UnOp) (a : Ent) (K : Ent → Option R) : Option R :=
  match op, a with
  | .neg, .one (.val (.int k) n) => K (.one (.val (.int k) (k.wrap (0 - n))))
  | .xor, .one (.val (.int k) n) => K (.one (.val (.int k) (bitsOp .xor k (if k.signed then -1 else k.max) n)))
  | .not, .one (.val .bool b) => K (goB (!b))
  | _, _ => none

def convE (src dst : TypeId) (a : Ent) (s : List Slot) (K : Ent → Option R) : Option R :=
  match P.underlying src, P.underlying dst, a with
  | some _, some (.int k), .one (.val (.int _) n) => K (.one (.val (.int k) (k.wrap n)))
  | some _, some .string, .one (.val (.int _) n) => K (.one (.val .str (Utf8.encode n)))
  | some _, some .string, .one (.val .str x) => K (.one (.val .str x))
  | some (.slice e), some .string, .one l =>
    match P.underlying e with
    | some (.int .u8) =>
      match listOf (.int .u8) l s with
      | some l => K (.one (.val .str (strOfNums l)))
      | none => none
    | _ => none
  | some _, some (.slice e), .one (.val .str x) =>
    match P.underlying e with
    | some (.int .u8) => K (.one (.val (.slice e (.int .u8)) (bytesL x)))
    | _ => none
  | _, _, _ => none

def loadE (t : TypeId) (a : Ent) (s : List Slot) (K : Ent → Option R) : Option R :=
  match a with
  | .one (.ptr j off) =>
    match s[j]? with
    | some (.obj _ cs) => match readCells P cs off t with | some e => K e | none => none
    | _ => none
  | .one (.elt j sz i off) =>
    match s[j]? with
    | some (.arr _ ty l) => if ty.size = sz then (match readCells P (explode ty (l.getD i.toNat ty.dflt)) off t with | some e => K e | none => none) else none
    | some (.frz _ ty l) => if ty.size = sz then (match readCells P (explode ty (l.getD i.toNat ty.dflt)) off t with | some e => K e | none => none) else none
    | _ => none
  | .one (.fad k x off) => match readCells P (explode k x) off t with | some e => K e | none => none
  | .one (.glob g) => if isAggB P t ≠ some false then none else match C.sents.find? (fun p => p.2 == g) with | some p => K (.one (.val .err (.sent p.1))) | none => none
  | _ => none

def storeE (t : TypeId) (a v : Ent) (s : List Slot) (K : List Slot → Option R) : Option R :=
  if sizeT P t = some v.cells.length ∧ v.okc = true then
    match a with
    | .one (.ptr j off) =>
      match s[j]? with
      | some (.obj e cs) => match writeCells cs off v.cells with | some cs => K (s.set j (.obj e cs)) | none => none
      | _ => none
    | .one (.elt j sz i off) =>
      match s[j]? with
      | some (.arr e ty l) =>
        match writeCells (explode ty (l.getD i.toNat ty.dflt)) off v.cells with
        | some cs =>
          match implode1 ty cs s with
          | some (x, s') =>
            match s'[j]? with
            | some (.arr e2 t2 l2) => if h : t2 = ty ∧ ty.size = sz then K (s'.set j (.arr e2 ty ((h.1 ▸ l2 : List ty.T).set i.toNat x))) else none
            | _ => none
          | none => none
        | none => none
      | _ => none
    | _ => none
  else none

def indexAddrE (xt : TypeId) (x ix : Ent) (s : List Slot) (K : Ent → Option R) : Option R :=
  match (elemT P xt).bind (sizeT P), x, ix with
  | some sz, .one (.val (.slice e t) l), .one (.val (.int _) i) =>
    if t.size = sz ∧ 0 < sz then (if 0 ≤ i ∧ i < (l.length : Int) then K (.one (.fad t (l.getD i.toNat t.dflt) 0)) else none) else none
  | some sz, .one (.arr j), .one (.val (.int _) i) =>
    match s[j]? with
    | some (.arr e t l) => if t.size = sz ∧ 0 < sz then (if 0 ≤ i ∧ i < (l.length : Int) then K (.one (.elt j sz i 0)) else none) else none
    | some (.frz e t l) => if t.size = sz ∧ 0 < sz then (if 0 ≤ i ∧ i < (l.length : Int) then K (.one (.elt j sz i 0)) else none) else none
    | _ => none
  | some sz, .one (.rowv j n), .one (.val (.int _) i) => if 0 ≤ i ∧ i < (n : Int) then K (.one (.ptr j (i.toNat * sz))) else none
  | _, _, _ => none

def lenE (t : TypeId) (x : Ent) (s : List Slot) (K : Ent → Option R) : Option R :=
  match P.underlying t, x with
  | some .string, .one (.val .str x) => K (goI (x.size : Int))
  | some (.slice _), .one (.val (.slice _ ty) l) => K (goI (l.length : Int))
  | some (.slice _), .one (.emp _) => K (goI 0)
  | some (.slice _), .one (.rowv _ n) => K (goI (n : Int))
  | some (.slice _), .one (.arr j) =>
    match s[j]? with
    | some (.arr _ ty l) => K (goI (l.length : Int))
    | some (.frz _ ty l) => K (goI (l.length : Int))
    | _ => none
  | some (.map _ _), .one (.nilmap) => K (goI 0)
  | some (.map _ _), .one (.map j) =>
    match s[j]? with
    | some (.map _ _ _ m) => K (goI (m.length : Int))
    | _ => none
  | _, _ => none

def notInt : TypeDesc → Bool
  | .slice _ => true
  | .string => true
  | _ => false
/-- A field's slice, its room left aside. -/
def unfl : Bool → Ent → Ent
  | false, .one (.val (.fl e t) x) => .one (.val (.slice e t) x.2)
  | _, e => e
def baseT (e : TypeId) (s : List Slot) : Lf → Option Ty
  | .val (.fl e' t) _ => if e' = e then some t else none
  | .arr j => match s[j]? with | some (.arr e' t _) => if e' = e then some t else none | _ => none
  | .emp _ => tyOf P C 9 e
  | _ => none
/-- To a slice without room something is to be appended, lest it stay as it is. -/
def flBad : Lf → Bool → Bool
  | .val (.fl _ _) x, b => !x.1 || b
  | _, _ => false
def appendE (st ut : TypeId) (x y : Ent) (s : List Slot) (K : Ent → List Slot → Option R) : Option R :=
  match elemT P st, P.underlying ut, x, y with
  | some e, some d, .one x, .one y =>
    match sizeT P e, bytesT P e, zeroEnt P e, baseT P C e s x with
    | some sz, some by_, some z, some t =>
      if t.size = sz ∧ 0 < by_ ∧ 0 < sz ∧ z.cells.length = sz ∧ notInt d = true then
        match listOf t x s, listOf t y s with
        | some a, some b =>
          if (a.length + b.length) * by_ ≤ 140737488355328 then
            if flBad x b.isEmpty then none else K (.one (.arr s.length)) ((match x with | .arr j => s.set j .dead | _ => s) ++ [.arr e t (a ++ b)])
          else none
        | _, _ => none
      else none
    | _, _, _, _ => none
  | _, _, _, _ => none

def implodes (t : Ty) : List (List Lf) → List Slot → Option (List t.T × List Slot)
  | [], s => some ([], s)
  | c :: r, s =>
    match implode1 t c s with
    | some (x, s) =>
      match implodes t r s with
      | some (l, s) => some (x :: l, s)
      | none => none
    | none => none
def buildSliceE (t : TypeId) (len : Nat) (parts : List (Nat × Ent)) (s : List Slot) (K : Ent → List Slot → Option R) : Option R :=
  match elemT P t with
  | some e =>
    match sizeT P e, zeroEnt P e with
    | some sz, some z =>
      if len * sz ≤ 16777216 ∧ 0 < sz ∧ parts.map (·.1) = List.range len ∧ parts.all (fun p => p.2.cells.length == sz && p.2.okc) = true then
        match tyOf P C 9 e with
        | some ty =>
          match implodes ty (parts.map (·.2.cells)) s with
          | some (l, s) => if ty.size = sz then K (.one (.arr s.length)) (s ++ [.arr e ty l]) else none
          | none => none
        | none => K (.one (.rowv s.length len)) (s ++ [.obj e (parts.map (·.2.cells)).flatten])
      else none
    | _, _ => none
  | none => none
def fillE (fs : Array Field) : List (Nat × Ent) → List Lf → Option (List Lf)
  | [], cs => some cs
  | p :: r, cs =>
    match fs[p.1]? with
    | some f =>
      if sizeT P f.type = some p.2.cells.length ∧ p.2.okc = true then
        match writeCells cs f.offset p.2.cells with
        | some cs => fillE fs r cs
        | none => none
      else none
    | none => none
def buildE (t : TypeId) (parts : List (Nat × Ent)) (K : Ent → Option R) : Option R :=
  match zeroEnt P t, P.underlying t with
  | some (.agg z), some (.struct fs) =>
    if fs.toList.all (fun f => (P.info? f.type).isSome) = true then
      match fillE P fs parts z with
      | some cs => K (.agg cs)
      | none => none
    else none
  | _, _ => none
def makeSliceE (t : TypeId) (len cap : Ent) (s : List Slot) (K : Ent → List Slot → Option R) : Option R :=
  match elemT P t with
  | some e =>
    match sizeT P e, bytesT P e, zeroEnt P e, tyOf P C 9 e with
    | some sz, some by_, some z, some ty =>
      match implode1 ty z.cells s, len, cap with
      | some (x, s), .one (.val (.int .i64) n), .one (.val (.int .i64) c) =>
        if ty.size = sz ∧ z.cells.length = sz ∧ 0 < sz then
          (if 0 ≤ n ∧ n ≤ c ∧ c * (by_ : Int) ≤ 140737488355328 ∧ c ≤ 140737488355328 then K (.one (.arr s.length)) (s ++ [.arr e ty (List.replicate n.toNat x)]) else none)
        else none
      | _, _, _ => none
    | _, _, _, _ => none
  | none => none

def sliceE (re : Bool) (xt : TypeId) (x : Ent) (lo hi : Option Ent) (s : List Slot) (K : Ent → List Slot → Option R) : Option R :=
  match P.underlying xt, x with
  | some .string, .one (.val .str x) => cutB (x.size : Int) lo hi fun a b => K (.one (.val .str (x.extract a.toNat b.toNat))) s
  | some (.slice el), .one (.val (.slice e t) l) => if sizeT P el = some t.size then (cutB (l.length : Int) lo hi fun a b => K (.one (.val (.slice e t) (cutL l a b))) s) else none
  | some (.slice el), .one (.emp _) => if (sizeT P el).isSome then (cutB 0 lo hi fun _ _ => K (.one (.emp false)) s) else none
  | some (.slice el), .one (.arr j) =>
    match s[j]? with
    | some (.arr e t l) =>
      if sizeT P el = some t.size then
        if re then cutB (l.length : Int) lo hi fun a b => K (.one (.arr s.length)) (s.set j .dead ++ [.arr e t (cutL l a b)])
        else cutB (l.length : Int) lo hi fun a b => K (.one (.val (.slice e t) (cutL l a b))) (s.set j (.frz e t l))
      else none
    | some (.frz e t l) => if sizeT P el = some t.size then (cutB (l.length : Int) lo hi fun a b => K (.one (.val (.slice e t) (cutL l a b))) s) else none
    | _ => none
  | _, _ => none

def keyOk (t : TypeId) : Ty → Bool
  | .int k => match P.underlying t with | some (.int k') => decide (k = k') | _ => false
  | .str => match P.underlying t with | some .string => true | _ => false
  | _ => false
def keyE (kt : Ty) : Ent → Option kt.T
  | .one (.val k x) => if h : k = kt then some (h ▸ x) else none
  | _ => none
def mapT (t : TypeId) : Option (TypeId × TypeId) :=
  match P.underlying t with
  | some (.map k v) => some (k, v)
  | _ => none
def lookupE (mt : TypeId) (m k : Ent) (ok : Bool) (s : List Slot) (K : Ent → List Slot → Option R) : Option R :=
  match mapT P mt with
  | some (kT, vT) =>
    match m with
    | .one (.map j) =>
      match s[j]? with
      | some (.map kt vt ag l) =>
        match zeroEnt P vT with
        | some z0 =>
          if keyOk P kT kt = true ∧ z0.isAgg = ag then
            match keyE kt k, implode1 vt z0.cells s with
            | some k, some (z, s) => K (if ok then .tup [(ag, explode vt ((mfind (keyEq kt) k l).getD z)), (false, [.val .bool (mfind (keyEq kt) k l).isSome])] else Ent.part (ag, explode vt ((mfind (keyEq kt) k l).getD z))) s
            | _, _ => none
          else none
        | none => none
      | _ => none
    | _ => none
  | none => none
def mapUpdateE (mt : TypeId) (m k v : Ent) (s : List Slot) (K : List Slot → Option R) : Option R :=
  match mapT P mt with
  | some (kT, vT) =>
    match m with
    | .one (.map j) =>
      match s[j]? with
      | some (.map kt vt ag l) =>
        if keyOk P kT kt = true ∧ v.isAgg = ag ∧ v.okc = true then
          match keyE kt k, implode1 vt v.cells s with
          | some k, some (v, s') =>
            match s'[j]? with
            | some (.map kt2 vt2 ag2 l2) => if h : kt2 = kt ∧ vt2 = vt ∧ ag2 = ag then K (s'.set j (.map kt vt ag (mset (keyEq kt) k v (h.1 ▸ h.2.1 ▸ l2 : List (kt.T × vt.T))))) else none
            | _ => none
          | _, _ => none
        else none
      | _ => none
    | _ => none
  | none => none
def deleteE (mt : TypeId) (m k : Ent) (s : List Slot) (K : List Slot → Option R) : Option R :=
  match mapT P mt with
  | some (kT, vT) =>
    match m with
    | .one (.map j) =>
      match s[j]? with
      | some (.map kt vt ag l) =>
        if keyOk P kT kt then
          match keyE kt k with
          | some k => K (s.set j (.map kt vt ag (mdel (keyEq kt) k l)))
          | _ => none
        else none
      | _ => none
    | _ => none
  | none => none
def makeMapE (t : TypeId) (s : List Slot) (K : Ent → List Slot → Option R) : Option R :=
  match mapT P t with
  | some (kT, vT) =>
    match tyOf P C 9 kT, tyOf P C 9 vT with
    | some kt, some vt => if isAggB P vT = some true ∨ vt.size = 1 then K (.one (.map s.length)) (s ++ [.map kt vt (isAggB P vT == some true) []]) else none
    | _, _ => none
  | none => none
def maxE (isMax : Bool) : List Ent → Option (IntKind × Int)
  | [.one (.val (.int k) x)] => some (k, x)
  | _ => none
def mx (x y : Int) : Int := if y > x then y else x
def mn (x y : Int) : Int := if y < x then y else x
def minmaxE (isMax : Bool) (l : List Ent) (K : Ent → Option R) : Option R :=
  match l with
  | [.one (.val (.int k) x), .one (.val (.int k') y)] => K (.one (.val (.int k) (if isMax then mx x y else mn x y)))
  | _ => none

/-- Which of the answers' shapes it is. -/
def decS : (outs : List Sh) → OutsT outs → (List Ent → List Slot → Option R) → Option R
  | [], _, _ => none
  | [h], y, K => K (packEs h.es y.1) (packSs h.ss y.2)
  | h :: g :: r, y, K =>
    match y with
    | .inl y => K (packEs h.es y.1) (packSs h.ss y.2)
    | .inr y => decS (g :: r) y K
theorem decS_eq : ∀ (outs : List Sh) (y : OutsT outs) (K : List Ent → List Slot → Option R), decS outs y K = K (outP outs y).1 (outP outs y).2
  | [], y, K => nomatch y
  | [h], y, K => rfl
  | h :: g :: r, .inl y, K => rfl
  | h :: g :: r, .inr y, K => decS_eq (g :: r) y K
def encS (nl : Nat) : (outs : List Sh) → List Ent → List Slot → Option (OutsT outs)
  | [], _, _ => none
  | [h], es, s => match conf h es (List.range nl) s with | some (y, _) => some y | none => none
  | h :: g :: r, es, s =>
    match conf h es (List.range nl) s with
    | some (y, _) => some (.inl y)
    | none =>
      match encS nl (g :: r) es s with
      | some y => some (.inr y)
      | none => none
theorem encS_inv {nl : Nat} : ∀ {outs : List Sh} {es : List Ent} {s : List Slot} {y : OutsT outs}, encS nl outs es s = some y → ∃ (h : Sh) (y' : h.T) (c : CS), h ∈ outs ∧ conf h es (List.range nl) s = some (y', c) ∧ outP outs y = (packEs h.es y'.1, packSs h.ss y'.2)
  | [], es, s, y, h => by cases h
  | [a], es, s, y, h => by
    simp only [encS] at h
    split at h
    · rename_i y' c hc
      obtain rfl := Option.some.inj h
      exact ⟨a, _, c, List.mem_cons_self, hc, rfl⟩
    · cases h
  | a :: b :: r, es, s, y, h => by
    simp only [encS] at h
    split at h
    · rename_i y' c hc
      obtain rfl := Option.some.inj h
      exact ⟨a, _, c, List.mem_cons_self, hc, rfl⟩
    · split at h
      · rename_i y' hy
        obtain rfl := Option.some.inj h
        obtain ⟨h', y2, c, h1, h2, h3⟩ := encS_inv hy
        exact ⟨h', y2, c, List.mem_cons_of_mem _ h1, h2, h3⟩
      · cases h
def tryS (args : List Ent) (s : List Slot) (K : Ent → List Slot → Option R) : List FSpec → Option R
  | [] => none
  | sp :: r =>
    match conf sp.ins args [] s with
    | some (x, c) =>
      match sp.sem x with
      | some y =>
        decS sp.outs y fun es ss =>
          match es with
          | [e] => K (e.ren (back c.m c.tbl.length)) (putBack c.tbl c.m (ss.map (·.ren (back c.m c.tbl.length))))
          | _ => none
      | none => none
    | none => tryS args s K r
def callE (O : FuncId → List FSpec) (f : Ent) (args : List Ent) (s : List Slot) (K : Ent → List Slot → Option R) : Option R :=
  match f with
  | .one (.fn f caps) => tryS (args ++ caps.map fun j => .one (.ptr j 0)) s K (O f)
  | _ => none

def capsE : List Ent → Option (List Nat)
  | [] => some []
  | .one (.ptr j 0) :: r => (capsE r).map (j :: ·)
  | _ => none
def callOpE (O : FuncId → List FSpec) (c : Call) (σ : St) (K : Ent → List Slot → Option R) : Option R :=
  match c.callee with
  | .value f => callE O (σ.ev f) (c.args.toList.map σ.ev) σ.s K
  | .builtin .len => match c.args.toList, c.argTypes.toList with | [x], [t] => lenE P t (σ.ev x) σ.s fun e => K e σ.s | _, _ => none
  | .builtin .append =>
    match c.args.toList, c.argTypes.toList with
    | [x, y], [t, u] => appendE P C t u (σ.ev x) (σ.ev y) σ.s K
    | _, _ => none
  | .builtin .delete =>
    match c.args.toList, c.argTypes.toList with
    | [x, y], [t, _] => deleteE P t (σ.ev x) (σ.ev y) σ.s fun s => K (.tup []) s
    | _, _ => none
  | .builtin .clear =>
    match c.args.toList, c.argTypes.toList with
    | [x], [t] =>
      match P.underlying t with
      | some _ =>
        match σ.ev x with
        | .one (.map j) => match σ.s[j]? with | some (.map kt vt ag _) => K (.tup []) (σ.s.set j (.map kt vt ag [])) | _ => none
        | _ => none
      | none => none
    | _, _ => none
  | .builtin .max => minmaxE true (c.args.toList.map σ.ev) fun e => K e σ.s
  | .builtin .min => minmaxE false (c.args.toList.map σ.ev) fun e => K e σ.s
  | _ => none

/-- One operation. 're': places where a part of one's own slice stays one's own. -/
def keeps (re : List Nat) : Option Tmp → Bool
  | some d => re.contains d
  | none => false
/-- A row of plain data, sealed at once, of which is told that it has no more room. -/
def buildFlE (t : TypeId) (len : Nat) (parts : List (Nat × Ent)) (K : Ent → Option R) : Option R :=
  match elemT P t with
  | some e =>
    match sizeT P e, zeroEnt P e with
    | some sz, some z =>
      if len * sz ≤ 16777216 ∧ 0 < sz ∧ parts.map (·.1) = List.range len ∧ parts.all (fun p => p.2.cells.length == sz && p.2.okc) = true then
        match tyOf P C 9 e with
        | some ty =>
          match implodes ty (parts.map (·.2.cells)) [] with
          | some (l, _) => if ty.size = sz then K (.one (.val (.fl e ty) ((true, l) : Bool × List ty.T))) else none
          | none => none
        | none => none
      else none
    | _, _ => none
  | none => none
def opE (O : FuncId → List FSpec) (re : List Nat) (o : Oper) (σ : St) (K : Ent → List Slot → Option R) : Option R :=
  match o.op with
  | .move x => K (σ.ev x) σ.s
  | .assign x => K (σ.ev x) σ.s
  | .pick c a b =>
    match σ.ev c with
    | .one (.val .bool x) => if x then K (σ.ev a) σ.s else K (σ.ev b) σ.s
    | _ => none
  | .alloc e =>
    match zeroEnt P e with
    | some z => K (.one (.ptr σ.s.length 0)) (σ.s ++ [.obj e z.cells])
    | none => none
  | .box e v => if (σ.ev v).okc then K (.one (.ptr σ.s.length 0)) (σ.s ++ [.obj e (σ.ev v).cells]) else none
  | .build t parts => buildE P t (parts.toList.map fun p => (p.1, σ.ev p.2)) fun e => K e σ.s
  | .buildSlice t len parts => if keeps re o.dst then buildFlE P C t len (parts.toList.map fun p => (p.1, σ.ev p.2)) fun e => K e σ.s else buildSliceE P C t len (parts.toList.map fun p => (p.1, σ.ev p.2)) σ.s K
  | .load t a => loadE P C t (σ.ev a) σ.s fun e => K (unfl (keeps re o.dst) e) σ.s
  | .store t a v => storeE P t (σ.ev a) (σ.ev v) σ.s fun s => K (.one .undef) s
  | .nilCheck x =>
    match σ.ev x with
    | .one (.ptr j o) => K (.one (.ptr j o)) σ.s
    | .one (.elt j z i o) => K (.one (.elt j z i o)) σ.s
    | .one (.fad k x o) => K (.one (.fad k x o)) σ.s
    | .one (.val .atp a) =>
      match a with
      | some x => K (.one (.fad (.pair (.int .i64) .err) x 0)) σ.s
      | none => none
    | _ => none
  | .binOp op t x y _ => binE P op t x y (σ.ev x) (σ.ev y) fun e => K e σ.s
  | .unOp op _ x => unE op (σ.ev x) fun e => K e σ.s
  | .convert src dst x => convE P src dst (σ.ev x) σ.s fun e => K e σ.s
  | .makeInterface t x =>
    match σ.ev x with
    | .one (.ptr j 0) =>
      match σ.s[j]? with
      | some (.obj u [.val (.int .i64) p, .val .err e]) => if t = C.ta ∧ u = C.tA then K (.one (.val .err (.at_ p e))) (σ.s.set j .dead) else none
      | _ => none
    | _ => none
  | .makeFunc (.func f) first caps =>
    match first.toList, capsE (caps.toList.map σ.ev) with
    | [], some js => K (.one (.fn f js)) σ.s
    | _, _ => none
  | .makeMap t none => makeMapE P C t σ.s K
  | .makeSlice t l c => makeSliceE P C t (σ.ev l) (σ.ev c) σ.s K
  | .slice t x lo hi none => sliceE P (match o.dst with | some d => re.contains d | none => false) t (σ.ev x) (lo.map σ.ev) (hi.map σ.ev) σ.s K
  | .fieldAddr t x f =>
    match fieldT P t f with
    | some f =>
      match sizeT P f.type with
      | some (_ + 1) =>
        match σ.ev x with
        | .one (.ptr j o) => K (.one (.ptr j (o + f.offset))) σ.s
        | .one (.elt j z i o) => K (.one (.elt j z i (o + f.offset))) σ.s
        | .one (.fad k x o) => K (.one (.fad k x (o + f.offset))) σ.s
        | _ => none
      | _ => none
    | none => none
  | .field t x f =>
    match fieldT P t f, σ.ev x with
    | some f, .agg cs => match readCells P cs f.offset f.type with | some e => K (unfl (keeps re o.dst) e) σ.s | none => none
    | _, _ => none
  | .indexAddr t x i => indexAddrE P t (σ.ev x) (σ.ev i) σ.s fun e => K e σ.s
  | .index t x i =>
    match P.underlying t, σ.ev x, σ.ev i with
    | some .string, .one (.val .str x), .one (.val (.int _) i) => if 0 ≤ i ∧ i < (x.size : Int) then K (.one (.val (.int .u8) ((x.data.toList.getD i.toNat 0).toNat : Int))) σ.s else none
    | _, _, _ => none
  | .lookup t m k ok => lookupE P t (σ.ev m) (σ.ev k) ok σ.s K
  | .mapUpdate t m k v => mapUpdateE P t (σ.ev m) (σ.ev k) (σ.ev v) σ.s fun s => K (.one .undef) s
  | .insert t m k v => mapUpdateE P t (σ.ev m) (σ.ev k) (σ.ev v) σ.s fun s => K (.one .undef) s
  | .typeAssert x t u ok =>
    match σ.ev x with
    | .one (.val .err e) =>
      if u = C.ta then
        if ok then K (.tup [(false, [.val .atp (errAt e)]), (false, [.val .bool (errIsAt e)])]) σ.s
        else
          match errAt e with
          | some x => K (.one (.fad (.pair (.int .i64) .err) x 0)) σ.s
          | none => none
      else none
    | _ => none
  | .extract t i =>
    match σ.ev t with
    | .tup ps => match ps[i]? with | some p => K (Ent.part p) σ.s | none => none
    | _ => none
  | .call c => callOpE P C O c σ K
  | _ => none

/-- Nothings appended to none: what 'append' of a made slice is. -/
def appendZE (st ut : TypeId) (x y : Ent) (s : List Slot) (K : Ent → List Slot → Option R) : Option R :=
  match elemT P st, P.underlying ut, x, y with
  | some e, some (.int _), .one (.emp _), .one (.val (.int _) n) =>
    match sizeT P e, bytesT P e, zeroEnt P e, tyOf P C 9 e with
    | some sz, some by_, some z, some t =>
      match implode1 t z.cells s with
      | some (a, s) => if t.size = sz ∧ z.cells.length = sz ∧ 0 < sz ∧ 0 < by_ then (if 0 < (show Int from n) ∧ (show Int from n) * (by_ : Int) ≤ 140737488355328 then K (.one (.arr s.length)) (s ++ [.arr e t (List.replicate (show Int from n).toNat a)]) else none) else none
      | none => none
    | _, _, _, _ => none
  | _, _, _, _ => none
/-- One's own slice with something appended: both, the old one and the new one, are sealed. -/
def appendSE (st ut : TypeId) (x y : Ent) (s : List Slot) (K : Ent → List Slot → Option R) : Option R :=
  match elemT P st, P.underlying ut, x, y with
  | some e, some d, .one (.arr j), .one y =>
    match sizeT P e, bytesT P e, zeroEnt P e, s[j]? with
    | some sz, some by_, some z, some (.arr e' t a) =>
      if e' = e ∧ t.size = sz ∧ 0 < by_ ∧ 0 < sz ∧ z.cells.length = sz ∧ notInt d = true then
        match listOf t y s with
        | some b => if (a.length + b.length) * by_ ≤ 140737488355328 then K (.one (.val (.slice e t) (a ++ b))) (s.set j (.frz e t a)) else none
        | none => none
      else none
    | _, _, _, _ => none
  | _, _, _, _ => none
/-- A test whose answer the data does not tell: both ways come to the same. -/
noncomputable def both (K : Bool → Option R) : Option R := @ite _ (K true = K false) (Classical.propDecidable _) (K true) none
/-- One operation; whether plain data is no slice at all may not be told. -/
noncomputable def opB (O : FuncId → List FSpec) (re : List Nat) (o : Oper) (σ : St) (K : Ent → List Slot → Option R) : Option R :=
  match o.op with
  | .binOp op t x y yt =>
    match P.underlying t, σ.ev x, σ.ev y with
    | some (.slice _), .one (.val (.slice e ty) l), .one (.emp true) =>
      if l.isEmpty || ty.size == 0 then both fun b => eqOp op b fun e => K e σ.s
      else eqOp op false fun e => K e σ.s
    | _, _, _ => opE P C O re o σ K
  | .call c =>
    match c.callee, c.args.toList, c.argTypes.toList with
    | .builtin .cap, [x], [t] =>
      match P.underlying t, σ.ev x with
      | some (.slice _), .one (.emp _) => K (goI 0) σ.s
      | _, _ => none
    | .builtin .append, [x, y], [t, u] =>
      match P.underlying u with
      | some (.int _) => appendZE P C t u (σ.ev x) (σ.ev y) σ.s K
      | _ => if keeps re o.dst then appendSE P t u (σ.ev x) (σ.ev y) σ.s K else opE P C O re o σ K
    | _, _, _ => opE P C O re o σ K
  | _ => opE P C O re o σ K

/-- The operations of a region, in an order. -/
noncomputable def runOps (O : FuncId → List FSpec) (re : List Nat) (ops : Array Oper) : List Nat → St → (St → Option R) → Option R
  | [], σ, K => K σ
  | i :: rest, σ, K =>
    match ops[i]? with
    | none => runOps O re ops rest σ K
    | some o =>
      match o.guard with
      | none => opB P C O re o σ fun e s => runOps O re ops rest (σ.set o.dst e s) K
      | some (j, want) =>
        match (ops[j]?).bind (·.dst) with
        | some d =>
          match σ.t[d]? with
          | some (.one (.val .bool b)) =>
            if b then
              if want then opB P C O re o ⟨σ.t.set d (goB true), σ.s⟩ fun e s => runOps O re ops rest ((⟨σ.t.set d (goB true), σ.s⟩ : St).set o.dst e s) K
              else runOps O re ops rest ((⟨σ.t.set d (goB true), σ.s⟩ : St).set o.dst (.one .skp) σ.s) K
            else
              if want then runOps O re ops rest ((⟨σ.t.set d (goB false), σ.s⟩ : St).set o.dst (.one .skp) σ.s) K
              else opB P C O re o ⟨σ.t.set d (goB false), σ.s⟩ fun e s => runOps O re ops rest ((⟨σ.t.set d (goB false), σ.s⟩ : St).set o.dst e s) K
          | some (.one .skp) => runOps O re ops rest (σ.set o.dst (.one .skp) σ.s) K
          | _ => none
        | none => none

/-! ### regions whose operations come in any order -/
/-- What is kept of an operation that is done: does it write; the slots it looks at, or touches; how many slots there were. -/
structure Rc where
  w : Bool
  l : List Nat
  n : Nat
  deriving Inhabited
def kindS : Option Slot → Nat
  | some (.arr ..) => 0
  | some (.frz ..) => 1
  | some .dead => 2
  | some (.obj ..) => 3
  | some (.map ..) => 4
  | none => 5
def kdiff (s s' : List Slot) : List Nat := (List.range s.length).filter fun j => kindS s[j]? != kindS s'[j]?
def footL : Ent → List Nat
  | .one (.arr j) => [j]
  | .one (.ptr j _) => [j]
  | .one (.elt j _ _ _) => [j]
  | .one (.map j) => [j]
  | _ => []
/-- The slots that an operation looks at, if it only reads. -/
def rdOf (σ : St) : Op → Option (List Nat)
  | .move _ | .assign _ | .pick _ _ _ | .binOp .. | .unOp .. | .fieldAddr .. | .field .. | .index .. | .extract .. | .nilCheck _ | .typeAssert .. | .build .. | .buildSlice .. => some []
  | .slice _ x _ _ _ => some (footL (σ.ev x))
  | .lookup _ m _ _ => some (footL (σ.ev m))
  | .load _ a => some (footL (σ.ev a))
  | .indexAddr _ x _ => some (footL (σ.ev x))
  | .convert _ _ x => some (footL (σ.ev x))
  | .call c =>
    match c.callee with
    | .builtin .len => some ((c.args.toList.map fun x => footL (σ.ev x)).flatten)
    | .builtin .max => some []
    | .builtin .min => some []
    | _ => none
  | _ => none
def isW (o : Op) : Bool := (rdOf ⟨[], []⟩ o).isNone
def okWr : Op → Bool
  | .call c => match c.callee with | .value _ => true | .builtin .append => true | _ => false
  | .alloc _ | .box .. | .makeInterface .. | .store .. | .mapUpdate .. | .makeSlice .. => true
  | _ => false
def tryM (args : List Ent) (s : List Slot) : List FSpec → List Nat
  | [] => []
  | sp :: r =>
    match conf sp.ins args [] s with
    | some (_, c) => c.m
    | none => tryM args s r
def callM (O : FuncId → List FSpec) (o : Op) (σ : St) : List Nat :=
  match o with
  | .call c =>
    match c.callee with
    | .value f =>
      match σ.ev f with
      | .one (.fn f caps) => tryM ((c.args.toList.map σ.ev) ++ caps.map fun j => .one (.ptr j 0)) σ.s (O f)
      | _ => []
    | _ => []
  | .store _ a _ => footL (σ.ev a)
  | .mapUpdate _ m _ _ => footL (σ.ev m)
  | _ => []
def valE : Ent → Bool
  | .one (.val _ _) => true
  | _ => false
def valOut : List Sh → Bool
  | [⟨[.one (.val _)], []⟩] => true
  | _ => false
def noPlace : List FSpec → Bool
  | [⟨⟨_, []⟩, outs, _⟩] => valOut outs
  | _ => false
/-- A call that is handed no place and hands none back. -/
def noSlots (O : FuncId → List FSpec) (o : Op) (σ : St) : Bool :=
  match o with
  | .call c =>
    match c.callee with
    | .value f =>
      match σ.ev f with
      | .one (.fn f []) => noPlace (O f) && c.args.toList.all fun x => valE (σ.ev x)
      | _ => false
    | _ => false
  | _ => false
def rcOf (O : FuncId → List FSpec) (o : Op) (σ : St) (s' : List Slot) : Rc :=
  match rdOf σ o with
  | some l => ⟨false, l, 0⟩
  | none => if noSlots O o σ then ⟨false, [], 0⟩ else ⟨true, callM O o σ ++ kdiff σ.s s', σ.s.length⟩
def direct (o : Oper) : List Nat := (o.after.toList.filter (Region.binds .any)).map (·.on)
def mkAnc (ops : Array Oper) : List (List Nat) := ops.toList.foldl (fun A o => A ++ [(direct o ++ ((direct o).map fun j => A.getD j []).flatten).eraseDups]) []
/-- What is ahead of what, and what may come either way round. -/
def statD (ops : Array Oper) (A : List (List Nat)) : Bool :=
  (List.range ops.size).all fun i =>
    match ops[i]? with
    | some o =>
      (direct o).all (fun j => decide (j < i)) && (A.getD i []).all (fun j => (direct o).contains j || (direct o).any fun p => (A.getD p []).contains j) && (!isW o.op || okWr o.op) &&
        (List.range i).all fun j => (A.getD i []).contains j || (match ops[j]? with | some q => q.apart ops o | none => false)
    | none => false
def dynP (a b : Rc) : Bool :=
  if a.w then !b.w && b.l.all fun j => decide (j < a.n) && !a.l.contains j
  else if b.w then a.l.all fun j => decide (j < b.n) && !b.l.contains j
  else true
def dynD (n : Nat) (A : List (List Nat)) (rs : List Rc) : Bool :=
  (List.range n).all fun i => (List.range i).all fun j => (A.getD i []).contains j || (match rs[j]?, rs[i]? with | some a, some b => dynP a b | _, _ => false)
/-- A row of plain data, sealed at once. -/
def buildValE (t : TypeId) (len : Nat) (parts : List (Nat × Ent)) (K : Ent → Option R) : Option R :=
  match elemT P t with
  | some e =>
    match sizeT P e, zeroEnt P e with
    | some sz, some z =>
      if len * sz ≤ 16777216 ∧ 0 < sz ∧ parts.map (·.1) = List.range len ∧ parts.all (fun p => p.2.cells.length == sz && p.2.okc) = true then
        match tyOf P C 9 e with
        | some ty =>
          match implodes ty (parts.map (·.2.cells)) [] with
          | some (l, _) => if ty.size = sz then K (if len = 0 then .one (.emp false) else .one (.val (.slice e ty) l)) else none
          | none => none
        | none => none
      else none
    | _, _ => none
  | none => none
def sliceD (xt : TypeId) (x : Ent) (lo hi : Option Ent) (s : List Slot) (K : Ent → Option R) : Option R :=
  match x with
  | .one (.arr j) =>
    match s[j]? with
    | some (.frz ..) => sliceE P false xt x lo hi s fun e _ => K e
    | _ => none
  | _ => sliceE P false xt x lo hi s fun e _ => K e
def lookupD (mt : TypeId) (m k : Ent) (ok : Bool) (s : List Slot) (K : Ent → Option R) : Option R :=
  match mapT P mt with
  | some (kT, vT) =>
    match m with
    | .one (.map j) =>
      match s[j]? with
      | some (.map kt vt ag l) =>
        match zeroEnt P vT with
        | some z0 =>
          if keyOk P kT kt = true ∧ z0.isAgg = ag then
            match keyE kt k, implode1 vt z0.cells [] with
            | some k, some (z, _) => K (if ok then .tup [(ag, explode vt ((mfind (keyEq kt) k l).getD z)), (false, [.val .bool (mfind (keyEq kt) k l).isSome])] else Ent.part (ag, explode vt ((mfind (keyEq kt) k l).getD z)))
            | _, _ => none
          else none
        | none => none
      | _ => none
    | _ => none
  | none => none
/-- One operation of a region whose operations come in any order. -/
def opD (O : FuncId → List FSpec) (re : List Nat) (o : Oper) (σ : St) (K : Ent → List Slot → Option R) : Option R :=
  match o.op with
  | .buildSlice t len parts => buildValE P C t len (parts.toList.map fun p => (p.1, σ.ev p.2)) fun e => K e σ.s
  | .slice t x lo hi none => sliceD P t (σ.ev x) (lo.map σ.ev) (hi.map σ.ev) σ.s fun e => K e σ.s
  | .slice _ _ _ _ (some _) => none
  | .lookup t m k ok => lookupD P t (σ.ev m) (σ.ev k) ok σ.s fun e => K e σ.s
  | _ => opE P C O re o σ K
def frzT (σ : St) (t : Nat) : St :=
  match σ.t.getD t (.one .undef) with
  | .one (.arr j) =>
    match σ.s[j]? with
    | some (.arr e ty l) => ⟨σ.t, σ.s.set j (.frz e ty l)⟩
    | _ => σ
  | _ => σ
def runDraw (O : FuncId → List FSpec) (re : List Nat) (ops : Array Oper) : List Nat → St → List Rc → (St → List Rc → Option R) → Option R
  | [], σ, rs, K => K σ rs
  | i :: rest, σ, rs, K =>
    match ops[i]? with
    | none => none
    | some o =>
      match o.guard with
      | none => opD P C O re o σ fun e s => runDraw O re ops rest (σ.set o.dst e s) (rs ++ [rcOf O o.op σ s]) K
      | some (j, want) =>
        match (ops[j]?).bind (·.dst) with
        | some d =>
          match σ.t[d]? with
          | some (.one (.val .bool b)) =>
            if b then
              if want then opD P C O re o ⟨σ.t.set d (goB true), σ.s⟩ fun e s => runDraw O re ops rest ((⟨σ.t.set d (goB true), σ.s⟩ : St).set o.dst e s) (rs ++ [rcOf O o.op ⟨σ.t.set d (goB true), σ.s⟩ s]) K
              else runDraw O re ops rest ((⟨σ.t.set d (goB true), σ.s⟩ : St).set o.dst (.one .skp) σ.s) (rs ++ [⟨false, [], 0⟩]) K
            else
              if want then runDraw O re ops rest ((⟨σ.t.set d (goB false), σ.s⟩ : St).set o.dst (.one .skp) σ.s) (rs ++ [⟨false, [], 0⟩]) K
              else opD P C O re o ⟨σ.t.set d (goB false), σ.s⟩ fun e s => runDraw O re ops rest ((⟨σ.t.set d (goB false), σ.s⟩ : St).set o.dst e s) (rs ++ [rcOf O o.op ⟨σ.t.set d (goB false), σ.s⟩ s]) K
          | some (.one .skp) => runDraw O re ops rest (σ.set o.dst (.one .skp) σ.s) (rs ++ [⟨false, [], 0⟩]) K
          | _ => none
        | none => none

inductive Ex where
  | normal
  | exit (id : Nat)
  | ret
  deriving DecidableEq
structure Out where
  ex : Ex
  live : List Nat
  sh : Sh
abbrev OutT : List Out → Type
  | [] => Empty
  | o :: r => Sum o.sh.T (OutT r)
/-- A loop, or a part of code, that is told by a plain function. -/
structure Hint where
  live : List Nat
  sh : Sh
  outs : List Out
  L : Nat → sh.T → Option (OutT outs)
def setAll (t : List Ent) : List Nat → List Ent → List Ent
  | d :: ds, e :: es => setAll (t.set d e) ds es
  | _, _ => t
def packAt (nt : Nat) (live : List Nat) (h : Sh) (x : h.T) : St :=
  ⟨setAll (List.replicate nt (.one .undef)) live (packEs h.es x.1), packSs h.ss x.2⟩
def confAt (nl : Nat) (live : List Nat) (h : Sh) (σ : St) : Option h.T :=
  match conf h (live.map fun d => σ.t.getD d (.one .undef)) (List.range nl) σ.s with
  | some (x, _) => some x
  | none => none
def encOut (nl : Nat) : (outs : List Out) → Ex → St → Option (OutT outs)
  | [], _, _ => none
  | o :: r, e, σ =>
    if o.ex = e then
      match confAt nl o.live o.sh σ with
      | some x => some (.inl x)
      | none =>
        match encOut nl r e σ with
        | some y => some (.inr y)
        | none => none
    else
      match encOut nl r e σ with
      | some y => some (.inr y)
      | none => none
def decOut (nt : Nat) : (outs : List Out) → OutT outs → (Ex → St → Option R) → Option R
  | [], x, _ => none
  | o :: r, x, K =>
    match x with
    | .inl x => K o.ex (packAt nt o.live o.sh x)
    | .inr y => decOut nt r y K
def keyOf : Code → Nat
  | .region id _ _ => id
  | .seq a b => keyOf a
  | .block _ c => keyOf c
  | .loop c => keyOf c
  | .scope c => keyOf c
  | .cond _ a _ => keyOf a
  | _ => 0
/-- Hints: of loops, by the first region in them; of cuts: a part ahead of another, by its first region; by hand: three parts behind one another, by the first one's region. -/
structure Hints where
  re : List Nat
  pre : Nat → List Nat
  loop : Nat → Option Hint
  cut : Nat → Option Hint
  hand : Nat → Option Hint
  un : Nat → Nat
  loop2 : Nat → Option Hint

/-- A loop of but so many rounds, round by round. -/
def unrollE {R : Type} (step : St → (Ex → St → Option R) → Option R) : Nat → St → (Ex → St → Option R) → Option R
  | 0, _, _ => none
  | m + 1, σ, K => step σ fun e σ => match e with | .normal => unrollE step m σ K | e => K e σ
noncomputable def interp (O : FuncId → List FSpec) (n nl nt : Nat) (H : Hints) : Code → St → (Ex → St → Option R) → Option R
  | .skip, σ, K => K .normal σ
  | .region id ops draw, σ, K => if draw then (if statD ops (mkAnc ops) then runDraw P C O H.re ops (List.range ops.size) ((H.pre id).foldl frzT σ) [] fun σ rs => (if dynD ops.size (mkAnc ops) rs then K .normal σ else none) else none) else runOps P C O H.re ops (List.range ops.size) σ fun σ => K .normal σ
  | .seq a (.seq b1 (.seq b2 b3)), σ, K =>
    match H.cut (keyOf b1) with
    | some h =>
      match confAt nl h.live h.sh σ with
      | some x =>
        match h.L n x with
        | some y => decOut nt h.outs y fun e σ => match e with | .normal => interp O n nl nt H (.seq b1 (.seq b2 b3)) σ K | e => K e σ
        | none => none
      | none => none
    | none =>
      match H.hand (keyOf a) with
      | some h =>
        match confAt nl h.live h.sh σ with
        | some x =>
          match h.L n x with
          | some y => decOut nt h.outs y fun e σ => match e with | .normal => interp O n nl nt H b3 σ K | e => K e σ
          | none => none
        | none => none
      | none => interp O n nl nt H a σ fun e σ => match e with | .normal => interp O n nl nt H (.seq b1 (.seq b2 b3)) σ K | e => K e σ
  | .seq a b, σ, K =>
    match H.cut (keyOf b) with
    | some h =>
      match confAt nl h.live h.sh σ with
      | some x =>
        match h.L n x with
        | some y => decOut nt h.outs y fun e σ => match e with | .normal => interp O n nl nt H b σ K | e => K e σ
        | none => none
      | none => none
    | none => interp O n nl nt H a σ fun e σ => match e with | .normal => interp O n nl nt H b σ K | e => K e σ
  | .cond c a b, σ, K =>
    match σ.ev c with
    | .one (.val .bool x) => if x then interp O n nl nt H a σ K else interp O n nl nt H b σ K
    | _ => none
  | .block id c, σ, K => interp O n nl nt H c σ fun e σ => match e with | .exit j => if j = id then K .normal σ else K (.exit j) σ | e => K e σ
  | .loop c, σ, K =>
    match H.un (keyOf c) with
    | 0 =>
      match H.loop (keyOf c) with
      | some h =>
        match confAt nl h.live h.sh σ with
        | some x =>
          match h.L n x with
          | some y => decOut nt h.outs y K
          | none => none
        | none =>
          match H.loop2 (keyOf c) with
          | some h =>
            match confAt nl h.live h.sh σ with
            | some x =>
              match h.L n x with
              | some y => decOut nt h.outs y K
              | none => none
            | none => none
          | none => none
      | none => none
    | m + 1 => unrollE (fun σ K => interp O n nl nt H c σ K) (m + 1) σ K
  | .exit id, σ, K => K (.exit id) σ
  | .ret, σ, K => K .ret σ
  | _, _, _ => none

def resParts (σ : St) : List ResultVar → Option (List (Bool × List Lf))
  | [] => some []
  | .tmp t :: rs =>
    match resParts σ rs with
    | some ps => some ((σ.t.getD t (.one .undef)).toPart :: ps)
    | none => none
  | .cell a t :: rs =>
    match σ.t.getD a (.one .undef) with
    | .one (.ptr j o) =>
      match loadE P C t (.one (.ptr j o)) σ.s some with
      | some e =>
        match resParts σ rs with
        | some ps => some (e.toPart :: ps)
        | none => none
      | none => none
    | _ => none
def resE (fn : Func) (σ : St) (K : Ent → Option R) : Option R :=
  match fn.results.toList with
  | [.tmp t] => K (σ.t.getD t (.one .undef))
  | [.cell a t] => match σ.t.getD a (.one .undef) with | .one (.ptr j o) => loadE P C t (.one (.ptr j o)) σ.s K | _ => none
  | rs =>
    match resParts P C σ rs with
    | some ps => K (.tup ps)
    | none => none
noncomputable def runFn (O : FuncId → List FSpec) (n : Nat) (H : Hints) (fn : Func) (body : Code) (ins : Sh) (outs : List Sh) (x : ins.T) : Option (OutsT outs) :=
  interp P C O n ins.ss.length fn.ntmps H body ⟨packEs ins.es x.1 ++ List.replicate (fn.ntmps - ins.es.length) (.one .undef), packSs ins.ss x.2⟩ fun e σ =>
    match e with
    | .exit _ => none
    | _ => resE P C fn σ fun r => encS ins.ss.length outs [r] σ.s
end
end Go.Proofs.YtnajjhjbkanigaaDoor.Cm

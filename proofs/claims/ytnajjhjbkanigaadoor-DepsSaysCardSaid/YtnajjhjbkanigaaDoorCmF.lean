/- Code as plain functions: operations without memory. By this session. -/
import Derived.Test.YtnajjhjbkanigaaDoorCmE
import Derived.LaidEql
import Derived.MapKept
import Derived.Lib.ConvBytes
namespace Go.Proofs.YtnajjhjbkanigaaDoor.Cm
open Go
set_option linter.unusedVariables false
set_option linter.unusedSimpArgs false
/-- What the program's types and errors have to be. -/
structure CfgOk (P : Program) (C : Cfg) (S : Nat → Addr) : Prop where
  mix : P.follows .mixedOrders = true
  te : ∃ (u : TypeId) (i j : TypeInfo), P.underlying C.te = some (.pointer u) ∧ P.info? C.te = some i ∧ i.comparable = true ∧ P.info? u = some j ∧ j.size ≠ 0
  ne : C.te ≠ C.ta
  ta : P.underlying C.ta = some (.pointer C.tA)
  tz : ∃ i, P.info? C.ta = some i ∧ i.zero = some (.pointer none)
  inj : ∀ c d g h, (c, g) ∈ C.sents → (d, h) ∈ C.sents → S c = S d → c = d
section
variable {P : Program} {C : Cfg} {S : Nat → Addr} {w : World} {Fz : Nat → Prop} {gs : List Gh} {tbl : List Slot} {R : Type}
theorem goB_rep (b : Bool) : RepE C S w Fz gs (goB b) (.bool b) := rfl
theorem goI_rep (n : Int) : RepE C S w Fz gs (goI n) (.int .i64 n) := rfl
theorem int_rep (k : IntKind) (n : Int) : RepE C S w Fz gs (.one (.val (.int k) n)) (.int k n) := rfl
theorem str_rep (s : ByteArray) : RepE C S w Fz gs (.one (.val .str s)) (.string s) := rfl
theorem intOp_ok {K : Ent → Option R} {r : R} (op : BinOp) (t : TypeId) (k : IntKind) (a b : Int) (h : intOp op k a b K = some r) :
    ∃ v e, (∀ k', (op = .shl ∨ op = .shr ∨ k' = k) → (binOp op t (.int k a) (.int k' b)).run P w = .ok v w) ∧ RepE C S w Fz gs e v ∧ K e = some r := by
  cases op <;> simp only [intOp] at h
  case add => exact ⟨_, _, fun k' hk => by rcases hk with hk | hk | rfl <;> first | cases hk | simp [binOp, Op.intArith], int_rep _ _, h⟩
  case sub => exact ⟨_, _, fun k' hk => by rcases hk with hk | hk | rfl <;> first | cases hk | simp [binOp, Op.intArith], int_rep _ _, h⟩
  case mul => exact ⟨_, _, fun k' hk => by rcases hk with hk | hk | rfl <;> first | cases hk | simp [binOp, Op.intArith], int_rep _ _, h⟩
  case quo =>
    split at h
    · cases h
    · rename_i hy
      exact ⟨_, _, fun k' hk => by rcases hk with hk | hk | rfl <;> first | cases hk | simp [binOp, Op.intDiv, hy], int_rep _ _, h⟩
  case rem =>
    split at h
    · cases h
    · rename_i hy
      exact ⟨_, _, fun k' hk => by rcases hk with hk | hk | rfl <;> first | cases hk | simp [binOp, Op.intDiv, hy], int_rep _ _, h⟩
  case shl =>
    split at h
    · cases h
    · rename_i hy
      exact ⟨_, _, fun k' hk => by simp [binOp, Op.shift, hy]; rfl, int_rep k (shlOp k a b), h⟩
  case shr =>
    split at h
    · cases h
    · rename_i hy
      exact ⟨_, _, fun k' hk => by simp [binOp, Op.shift, hy]; rfl, int_rep k (shrOp k a b), h⟩
  case and => exact ⟨_, _, fun k' hk => by rcases hk with hk | hk | rfl <;> first | cases hk | (simp only [binOp]; rw [if_neg (by simp)]; rfl), int_rep k (bitsOp .and k a b), h⟩
  case or => exact ⟨_, _, fun k' hk => by rcases hk with hk | hk | rfl <;> first | cases hk | (simp only [binOp]; rw [if_neg (by simp)]; rfl), int_rep k (bitsOp .or k a b), h⟩
  case xor => exact ⟨_, _, fun k' hk => by rcases hk with hk | hk | rfl <;> first | cases hk | (simp only [binOp]; rw [if_neg (by simp)]; rfl), int_rep k (bitsOp .xor k a b), h⟩
  case andNot => exact ⟨_, _, fun k' hk => by rcases hk with hk | hk | rfl <;> first | cases hk | (simp only [binOp]; rw [if_neg (by simp)]; rfl), int_rep k (bitsOp .andNot k a b), h⟩
  case eql => exact ⟨_, _, fun k' hk => by rcases hk with hk | hk | rfl <;> first | cases hk | simp [binOp, Op.intCmp], goB_rep _, h⟩
  case neq => exact ⟨_, _, fun k' hk => by rcases hk with hk | hk | rfl <;> first | cases hk | simp [binOp, Op.intCmp], goB_rep _, h⟩
  case lss => exact ⟨_, _, fun k' hk => by rcases hk with hk | hk | rfl <;> first | cases hk | simp [binOp, Op.intCmp], goB_rep _, h⟩
  case leq => exact ⟨_, _, fun k' hk => by rcases hk with hk | hk | rfl <;> first | cases hk | simp [binOp, Op.intCmp], goB_rep _, h⟩
  case gtr => exact ⟨_, _, fun k' hk => by rcases hk with hk | hk | rfl <;> first | cases hk | simp [binOp, Op.intCmp], goB_rep _, h⟩
  case geq => exact ⟨_, _, fun k' hk => by rcases hk with hk | hk | rfl <;> first | cases hk | simp [binOp, Op.intCmp], goB_rep _, h⟩
theorem toList_loop (x : ByteArray) : ∀ (d i : Nat) (r : List UInt8), x.size - i = d → ByteArray.toList.loop x i r = r.reverse ++ x.data.toList.drop i := by
  intro d
  induction d with
  | zero =>
    intro i r h
    unfold ByteArray.toList.loop
    have hs : x.data.toList.length = x.size := Array.length_toList
    rw [if_neg (by omega), List.drop_eq_nil_of_le (by omega), List.append_nil]
  | succ d ih =>
    intro i r h
    unfold ByteArray.toList.loop
    have hs : x.data.toList.length = x.size := Array.length_toList
    have hi : i < x.data.toList.length := by omega
    rw [if_pos (by omega), ih (i + 1) _ (by omega), List.drop_eq_getElem_cons hi, List.reverse_cons, List.append_assoc]
    have hd : i < x.data.size := by rw [← Array.length_toList]; exact hi
    have : x.get! i = x.data.toList[i] := by
      show x.data[i]! = _
      rw [getElem!_pos x.data i hd, Array.getElem_toList]
    rw [this]
    rfl
theorem toListD (x : ByteArray) : x.toList = x.data.toList := by
  unfold ByteArray.toList
  rw [toList_loop x _ 0 [] rfl]
  simp
theorem strEq_true (x y : ByteArray) : strEq x y = true ↔ x = y := by
  unfold strEq
  rw [beq_iff_eq]
  constructor
  · intro h
    cases x with | mk a => cases y with | mk b =>
    simp only [ByteArray.mk.injEq]
    exact Array.toList_inj.1 h
  · rintro rfl; rfl
theorem strN_inj : ∀ {x y : List UInt8}, strN x = strN y → x = y
  | [], [], _ => rfl
  | [], b :: y, h => by simp only [strN] at h; omega
  | a :: x, [], h => by simp only [strN] at h; omega
  | a :: x, b :: y, h => by
    have h1 := a.toNat_lt
    have h2 := b.toNat_lt
    simp only [strN] at h
    have h3 : a.toNat = b.toNat := by omega
    rw [strN_inj (x := x) (y := y) (by omega), UInt8.toNat_inj.1 h3]
theorem keyS_true (x y : ByteArray) : Nat.beq (strNum x) (strNum y) = true ↔ x = y := by
  rw [Nat.beq_eq]
  constructor
  · intro h
    have h := strN_inj h
    cases x with | mk a => cases y with | mk b =>
    simp only [ByteArray.mk.injEq]
    exact Array.toList_inj.1 h
  · rintro rfl; rfl
theorem keyS_beq (x y : ByteArray) : (x == y) = Nat.beq (strNum x) (strNum y) := by
  rw [Bool.eq_iff_iff, keyS_true]
  exact MapKept.bytes_beq _ _
theorem strEq_beq (x y : ByteArray) : (x == y) = strEq x y := by
  rw [Bool.eq_iff_iff, strEq_true]
  exact MapKept.bytes_beq _ _
theorem strEq_eq (x y : ByteArray) : (x.toList == y.toList) = strEq x y := by rw [toListD, toListD]; rfl
theorem strLt_eq (x y : ByteArray) : Op.bytesLess x.toList y.toList = strLt x y := by rw [toListD, toListD]; rfl
theorem strOp_ok {K : Ent → Option R} {r : R} (op : BinOp) (t : TypeId) (a b : ByteArray) (h : strOp op a b K = some r) :
    ∃ v e, (binOp op t (.string a) (.string b)).run P w = .ok v w ∧ RepE C S w Fz gs e v ∧ K e = some r := by
  cases op <;> simp only [strOp] at h <;> first | cases h | skip
  case add =>
    split at h
    · rename_i hle
      have : ¬ (9223372036854775807 < (a.size : Int) + (b.size : Int)) := by omega
      exact ⟨_, _, by simp [binOp, Op.stringOp, this], str_rep _, h⟩
    · cases h
  case eql => exact ⟨_, _, by simp [binOp, Op.stringOp, strEq_eq, strLt_eq], goB_rep (strEq a b), h⟩
  case neq => exact ⟨_, _, by simp [binOp, Op.stringOp, strEq_eq, strLt_eq], goB_rep (!strEq a b), h⟩
  case lss => exact ⟨_, _, by simp [binOp, Op.stringOp, strEq_eq, strLt_eq], goB_rep (strLt a b), h⟩
  case leq => exact ⟨_, _, by simp [binOp, Op.stringOp, strEq_eq, strLt_eq], goB_rep (strLt a b || strEq a b), h⟩
  case gtr => exact ⟨_, _, by simp [binOp, Op.stringOp, strEq_eq, strLt_eq], goB_rep (!(strLt a b || strEq a b)), h⟩
  case geq => exact ⟨_, _, by simp [binOp, Op.stringOp, strEq_eq, strLt_eq], goB_rep (!strLt a b), h⟩
theorem eqOp_ok {K : Ent → Option R} {r : R} {op : BinOp} {t : TypeId} {x y : Operand} {A B : Value} {b : Bool} (h : eqOp op b K = some r)
    (hg : ∀ op, (eqGuard op t x y A B).run P w = .ok () w) (he : (binOp .eql t A B).run P w = .ok (.bool b) w) (hne : (binOp .neq t A B).run P w = .ok (.bool (!b)) w) :
    ∃ v e, (do eqGuard op t x y A B; binOp op t A B : Sem Value).run P w = .ok v w ∧ RepE C S w Fz gs e v ∧ K e = some r := by
  cases op <;> simp only [eqOp] at h <;> first | cases h | skip
  case eql => exact ⟨_, _, by simp [hg, he], goB_rep b, h⟩
  case neq => exact ⟨_, _, by simp [hg, hne], goB_rep (!b), h⟩
/-- '==' and '!=' by what 'equal' answers. -/
theorem bin_of_equal {t : TypeId} {A B : Value} {b : Bool} (hA : (∃ d x, A = .iface d x) ∨ A = .nilIface ∨ (∃ p, A = .pointer p) ∨ (∃ x n m, A = .slice x n m) ∨ (∃ p, A = .map p) ∨ (∃ f x y, A = .func f x y) ∨ A = .nilFunc ∨ ∃ b, A = .bool b)
    (hB : (∃ d x, B = .iface d x) ∨ B = .nilIface ∨ (∃ p, B = .pointer p) ∨ (∃ x n m, B = .slice x n m) ∨ (∃ p, B = .map p) ∨ (∃ f x y, B = .func f x y) ∨ B = .nilFunc ∨ ∃ b, B = .bool b)
    (h : (Op.equal t A B).run P w = .ok b w) : (binOp .eql t A B).run P w = .ok (.bool b) w ∧ (binOp .neq t A B).run P w = .ok (.bool (!b)) w := by
  rcases hA with ⟨d, x, rfl⟩ | rfl | ⟨p, rfl⟩ | ⟨x, n, m, rfl⟩ | ⟨p, rfl⟩ | ⟨f, x, y, rfl⟩ | rfl | ⟨q, rfl⟩ <;>
  rcases hB with ⟨d', x', rfl⟩ | rfl | ⟨p', rfl⟩ | ⟨x', n', m', rfl⟩ | ⟨p', rfl⟩ | ⟨f', x', y', rfl⟩ | rfl | ⟨q', rfl⟩ <;>
  constructor <;> simp only [binOp] <;> simp [h]
theorem equal_step {t : TypeId} {A B : Value} {b : Bool} (h : ∀ d : Nat, (Op.equalIn (d + 2) t A B).run P w = .ok b w) : (Op.equal t A B).run P w = .ok b w := by
  simp [Op.equal, Op.maxDepth, h 9998]
theorem RepErr.shape {e : ErrV} {v : Value} (h : RepErr C S w Fz e v) : (∃ d x, v = .iface d x) ∨ v = .nilIface := by
  cases e with
  | nil => exact .inr h
  | sent c => exact .inl ⟨_, _, h.2⟩
  | at_ p e => obtain ⟨b, u, h1, _⟩ := h; exact .inl ⟨_, _, h1⟩
theorem nil_equal {t : TypeId} {ms : Array (String × TypeId)} (ht : P.underlying t = some (.interface ms)) {e : ErrV} {v : Value} (h : RepErr C S w Fz e v) :
    (Op.equal t v .nilIface).run P w = .ok (errNil e) w ∧ (Op.equal t .nilIface v).run P w = .ok (errNil e) w := by
  cases e with
  | nil =>
    rw [show v = .nilIface from h]
    exact ⟨equal_step fun d => by (unfold Op.equalIn; rw [Sem.run_bind, run_underlying ht]; rfl), equal_step fun d => by (unfold Op.equalIn; rw [Sem.run_bind, run_underlying ht]; rfl)⟩
  | sent c =>
    rw [h.2]
    exact ⟨equal_step fun d => by (unfold Op.equalIn; rw [Sem.run_bind, run_underlying ht]; rfl), equal_step fun d => by (unfold Op.equalIn; rw [Sem.run_bind, run_underlying ht]; rfl)⟩
  | at_ p e =>
    obtain ⟨b, u, rfl, _⟩ := h
    exact ⟨equal_step fun d => by (unfold Op.equalIn; rw [Sem.run_bind, run_underlying ht]; rfl), equal_step fun d => by (unfold Op.equalIn; rw [Sem.run_bind, run_underlying ht]; rfl)⟩
theorem err_equal (ok : CfgOk P C S) (rel : Rel C S w Fz gs tbl) {t : TypeId} {ms : Array (String × TypeId)} (ht : P.underlying t = some (.interface ms)) {x y : ErrV} {A B : Value} {b : Bool} (hA : RepErr C S w Fz x A) (hB : RepErr C S w Fz y B) (h : errEq x y = some b) :
    (Op.equal t A B).run P w = .ok b w ∧ ¬ (A = .nilIface ∧ B = .nilIface) := by
  cases x with
  | nil =>
    rw [show A = .nilIface from hA]
    cases y with
    | nil => cases h
    | sent d => obtain rfl := Option.some.inj h; have := (nil_equal ht hB).2; exact ⟨this, by rw [hB.2]; simp⟩
    | at_ q f => obtain rfl := Option.some.inj h; have := (nil_equal ht hB).2; obtain ⟨b, u, rfl, _⟩ := hB; exact ⟨this, by simp⟩
  | sent c =>
    cases y with
    | nil => obtain rfl := Option.some.inj h; rw [show B = .nilIface from hB]; have := (nil_equal ht hA).1; exact ⟨this, by rw [hA.2]; simp⟩
    | sent d =>
      obtain rfl := Option.some.inj h
      obtain ⟨⟨g1, m1⟩, rfl⟩ := hA
      obtain ⟨⟨g2, m2⟩, rfl⟩ := hB
      obtain ⟨u, i, j, h1, h2, h3, h4, h5⟩ := ok.te
      refine ⟨equal_step fun n => ?_, by simp⟩
      by_cases hcd : S c = S d
      · have := ok.inj c d g1 g2 m1 m2 hcd
        subst this
        rw [run_equalIn_iface_ptr_same w n _ ht h1 h2 h3 h4]
        simp
      · obtain ⟨_, _, _, ca, ta, k1⟩ := rel.glob c g1 m1
        obtain ⟨_, _, _, cb, tb, k2⟩ := rel.glob d g2 m2
        rw [run_equalIn_iface_ptr_other w n ht h1 h2 h3 h4 h5 hcd k1 k2]
        have : (c == d) = false := by simp; rintro rfl; exact hcd rfl
        rw [this]
    | at_ q f =>
      obtain rfl := Option.some.inj h
      obtain ⟨⟨g1, m1⟩, rfl⟩ := hA
      obtain ⟨b, u, rfl, _⟩ := hB
      exact ⟨equal_step fun n => by unfold Op.equalIn; rw [Sem.run_bind, run_underlying ht]; show (Sem.run P (if C.te ≠ C.ta then pure false else _) w) = _; rw [if_pos ok.ne]; rfl, by simp⟩
  | at_ p e =>
    cases y with
    | nil => obtain rfl := Option.some.inj h; rw [show B = .nilIface from hB]; have := (nil_equal ht hA).1; obtain ⟨b, u, rfl, _⟩ := hA; exact ⟨this, by simp⟩
    | sent d =>
      obtain rfl := Option.some.inj h
      obtain ⟨⟨g1, m1⟩, rfl⟩ := hB
      obtain ⟨b, u, rfl, _⟩ := hA
      exact ⟨equal_step fun n => by unfold Op.equalIn; rw [Sem.run_bind, run_underlying ht]; show (Sem.run P (if C.ta ≠ C.te then pure false else _) w) = _; rw [if_pos (Ne.symm ok.ne)]; rfl, by simp⟩
    | at_ q f => cases h
theorem guard_plain {op : BinOp} {t : TypeId} {x y : Operand} {A B : Value} (h1 : ¬ (A = .nilIface ∧ B = .nilIface)) (h2 : ∀ c, A ≠ .agg c) : (eqGuard op t x y A B).run P w = .ok () w := by
  unfold eqGuard
  cases op <;> simp <;> (split <;> first | rfl | simp_all)
theorem guard_const {op : BinOp} {t : TypeId} {x y : Operand} {A B : Value} (h : isNilC x = true ∨ isNilC y = true) (h2 : ∀ c, A ≠ .agg c) : (eqGuard op t x y A B).run P w = .ok () w := by
  by_cases h1 : A = .nilIface ∧ B = .nilIface
  · obtain ⟨rfl, rfl⟩ := h1
    have : (match x with | .const _ => true | _ => false) = true ∨ (match y with | .const _ => true | _ => false) = true := by
      rcases h with h | h
      · left; cases x <;> first | rfl | (simp [isNilC] at h)
      · right; cases y <;> first | rfl | (simp [isNilC] at h)
    unfold eqGuard
    rcases h with h | h
    · cases x <;> simp [isNilC] at h
      cases op <;> simp
    · cases y <;> simp [isNilC] at h
      cases op <;> simp
  · exact guard_plain h1 h2
theorem isNilC_ev {x : Operand} (h : isNilC x = true) : x = .const .nilIface := by
  unfold isNilC at h
  split at h
  · rfl
  · cases h
theorem nilE_ok {K : Ent → Option R} {r : R} {op : BinOp} {t : TypeId} {d : TypeDesc} {a b : Lf} {A B : Value} (ht : P.underlying t = some d) (hA : RepL C S w Fz gs a A) (hB : RepL C S w Fz gs b B) (h : nilE op d a b K = some r) :
    ∃ q, (Op.equal t A B).run P w = .ok q w ∧ ((∃ d x, A = .iface d x) ∨ A = .nilIface ∨ (∃ p, A = .pointer p) ∨ (∃ x n m, A = .slice x n m) ∨ (∃ p, A = .map p) ∨ (∃ f x y, A = .func f x y) ∨ A = .nilFunc ∨ ∃ b, A = .bool b) ∧
      ((∃ d x, B = .iface d x) ∨ B = .nilIface ∨ (∃ p, B = .pointer p) ∨ (∃ x n m, B = .slice x n m) ∨ (∃ p, B = .map p) ∨ (∃ f x y, B = .func f x y) ∨ B = .nilFunc ∨ ∃ b, B = .bool b) ∧ A ≠ .nilIface ∧ eqOp op q K = some r := by
  unfold nilE at h
  split at h
  · rw [show B = _ from hB]
    have hA : RepT C S w Fz .atp _ [A] := hA
    rcases hA with ⟨rfl, h1⟩ | ⟨p, e, q, u, rfl, h1, _⟩
    · obtain rfl : A = .pointer none := by simpa using h1
      exact ⟨_, equal_step fun d => by (unfold Op.equalIn; rw [Sem.run_bind, run_underlying ht]; rfl), by simp, by simp, by simp, h⟩
    · obtain rfl : A = .pointer (some ⟨q, 0, none⟩) := by simpa using h1
      exact ⟨_, equal_step fun d => by (unfold Op.equalIn; rw [Sem.run_bind, run_underlying ht]; rfl), by simp, by simp, by simp, h⟩
  · rw [show B = _ from hB]
    obtain ⟨g, q, _, _, rfl⟩ := hA
    exact ⟨_, equal_step fun d => by (unfold Op.equalIn; rw [Sem.run_bind, run_underlying ht]; rfl), by simp, by simp, by simp, h⟩
  · rw [show B = _ from hB]
    obtain ⟨ad, cs, rfl, _⟩ := hA
    exact ⟨_, equal_step fun d => by (unfold Op.equalIn; rw [Sem.run_bind, run_underlying ht]; rfl), by simp, by simp, by simp, h⟩
  · rw [show A = _ from hA, show B = _ from hB]
    exact ⟨_, equal_step fun d => by (unfold Op.equalIn; rw [Sem.run_bind, run_underlying ht]; rfl), by simp, by simp, by simp, h⟩
  · obtain ⟨q, rfl, h1⟩ := hA
    obtain ⟨q', rfl, h2⟩ := hB
    obtain rfl := h1 rfl
    obtain rfl := h2 rfl
    exact ⟨_, equal_step fun d => by (unfold Op.equalIn; rw [Sem.run_bind, run_underlying ht]; rfl), by simp, by simp, by simp, h⟩
  · rw [show B = _ from hB]
    obtain ⟨g, q, _, _, rfl⟩ := hA
    exact ⟨_, equal_step fun d => by (unfold Op.equalIn; rw [Sem.run_bind, run_underlying ht]; rfl), by simp, by simp, by simp, h⟩
  · rw [show A = _ from hA, show B = _ from hB]
    exact ⟨_, equal_step fun d => by (unfold Op.equalIn; rw [Sem.run_bind, run_underlying ht]; rfl), by simp, by simp, by simp, h⟩
  · rw [show B = _ from hB]
    obtain ⟨vs, rfl, _⟩ := hA
    exact ⟨_, equal_step fun d => by (unfold Op.equalIn; rw [Sem.run_bind, run_underlying ht]; rfl), by simp, by simp, by simp, h⟩
  · rw [show A = _ from hA, show B = _ from hB]
    exact ⟨_, equal_step fun d => by (unfold Op.equalIn; rw [Sem.run_bind, run_underlying ht]; rfl), by simp, by simp, by simp, h⟩
  · cases h
theorem binE_ok (ok : CfgOk P C S) (rel : Rel C S w Fz gs tbl) {K : Ent → Option R} {r : R} {op : BinOp} {t : TypeId} {x y : Operand} {a b : Ent} {A B : Value} (hA : RepE C S w Fz gs a A) (hB : RepE C S w Fz gs b B)
    (hx : isNilC x = true → A = .nilIface) (hy : isNilC y = true → B = .nilIface) (h : binE P op t x y a b K = some r) :
    ∃ v e, (do eqGuard op t x y A B; binOp op t A B : Sem Value).run P w = .ok v w ∧ RepE C S w Fz gs e v ∧ K e = some r := by
  unfold binE at h
  split at h
  · rename_i k a k' b
    simp only [show A = .int k a by simpa [RepE, RepV, RepL, RepT] using hA, show B = .int k' b by simpa [RepE, RepV, RepL, RepT] using hB]
    have hg : (eqGuard op t x y (.int k a) (.int k' b)).run P w = .ok () w := guard_plain (by simp) (by simp)
    have key : ∀ op, (op = .shl ∨ op = .shr ∨ k' = k) → intOp op k a b K = some r → ∃ v e, (binOp op t (.int k a) (.int k' b)).run P w = .ok v w ∧ RepE C S w Fz gs e v ∧ K e = some r := by
      intro op h1 h2
      obtain ⟨v, e, h3, h4, h5⟩ := intOp_ok (P := P) (C := C) (S := S) (w := w) (Fz := Fz) (gs := gs) op t k a b h2
      exact ⟨v, e, h3 k' h1, h4, h5⟩
    have fin : ∃ v e, (binOp op t (.int k a) (.int k' b)).run P w = .ok v w ∧ RepE C S w Fz gs e v ∧ K e = some r := by
      split at h
      · exact key _ (.inl rfl) h
      · exact key _ (.inr (.inl rfl)) h
      · split at h
        · rename_i hk
          exact key _ (.inr (.inr hk.symm)) h
        · cases h
    obtain ⟨v, e, h1, h2, h3⟩ := fin
    exact ⟨v, e, by simp [hg, h1], h2, h3⟩
  · rename_i a b
    simp only [show A = .string a by simpa [RepE, RepV, RepL, RepT] using hA, show B = .string b by simpa [RepE, RepV, RepL, RepT] using hB]
    have hg : (eqGuard op t x y (.string a) (.string b)).run P w = .ok () w := guard_plain (by simp) (by simp)
    obtain ⟨v, e, h1, h2, h3⟩ := strOp_ok (P := P) (C := C) (S := S) (w := w) (Fz := Fz) (gs := gs) op t a b h
    exact ⟨v, e, by simp [hg, h1], h2, h3⟩
  · rename_i a b
    simp only [show A = .bool a by simpa [RepE, RepV, RepL, RepT] using hA, show B = .bool b by simpa [RepE, RepV, RepL, RepT] using hB]
    split at h
    · rename_i ht
      have he := bin_of_equal (P := P) (w := w) (t := t) (A := .bool a) (B := .bool b) (b := (a == b)) (by simp) (by simp) (equal_step fun d => by (unfold Op.equalIn; rw [Sem.run_bind, run_underlying ht]; rfl))
      exact eqOp_ok h (fun op => guard_plain (by simp) (by simp)) he.1 he.2
    · cases h
  · rename_i a b
    obtain ⟨A', hA', hA⟩ := hA
    obtain ⟨B', hB', hB⟩ := hB
    obtain rfl : A = A' := by simpa using hA'
    obtain rfl : B = B' := by simpa using hB'
    have sA : (∃ d x, A = .iface d x) ∨ A = .nilIface := hA.shape
    have sB : (∃ d x, B = .iface d x) ∨ B = .nilIface := hB.shape
    have nA : ∀ c, A ≠ .agg c := by rintro c rfl; simp at sA
    have tA : (∃ d x, A = .iface d x) ∨ A = .nilIface ∨ (∃ p, A = .pointer p) ∨ (∃ x n m, A = .slice x n m) ∨ (∃ p, A = .map p) ∨ (∃ f x y, A = .func f x y) ∨ A = .nilFunc ∨ ∃ b, A = .bool b := sA.elim .inl (fun h => .inr (.inl h))
    have tB : (∃ d x, B = .iface d x) ∨ B = .nilIface ∨ (∃ p, B = .pointer p) ∨ (∃ x n m, B = .slice x n m) ∨ (∃ p, B = .map p) ∨ (∃ f x y, B = .func f x y) ∨ B = .nilFunc ∨ ∃ b, B = .bool b := sB.elim .inl (fun h => .inr (.inl h))
    split at h
    · rename_i ms ht
      split at h
      · rename_i hn
        obtain rfl := hy hn
        have he := bin_of_equal tA tB (nil_equal ht hA).1
        exact eqOp_ok h (fun op => guard_const (.inr hn) nA) he.1 he.2
      · split at h
        · rename_i hn
          obtain rfl := hx hn
          have he := bin_of_equal tA tB (nil_equal ht hB).2
          exact eqOp_ok h (fun op => guard_const (.inl hn) nA) he.1 he.2
        · split at h
          · rename_i q hq
            obtain ⟨h1, h2⟩ := err_equal ok rel ht hA hB hq
            have he := bin_of_equal tA tB h1
            exact eqOp_ok h (fun op => guard_plain h2 nA) he.1 he.2
          · cases h
    · cases h
  · split at h
    · rename_i d hd
      have hA : RepL C S w Fz gs _ A := hA
      have hB : RepL C S w Fz gs _ B := hB
      obtain ⟨q, h1, h2, h3, h4, h5⟩ := nilE_ok hd hA hB h
      have he := bin_of_equal h2 h3 h1
      exact eqOp_ok h5 (fun op => guard_plain (fun e => h4 e.1) (by rintro c rfl; simp at h2)) he.1 he.2
    · cases h
  · cases h
end
end Go.Proofs.YtnajjhjbkanigaaDoor.Cm

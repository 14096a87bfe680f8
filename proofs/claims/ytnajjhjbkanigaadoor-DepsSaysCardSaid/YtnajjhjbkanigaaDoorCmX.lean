/- Code as plain functions: operations in any order, the plain part. By this session. -/
import Derived.Test.YtnajjhjbkanigaaDoorCmB
namespace Go.Proofs.YtnajjhjbkanigaaDoor.Cm
open Go
set_option linter.unusedVariables false
section
variable {P : Program} {C : Cfg} {R : Type} {O : FuncId → List FSpec}
def two (e : Ent) (s : List Slot) : Option (Ent × List Slot) := some (e, s)
def opR0 (P : Program) (C : Cfg) (O : FuncId → List FSpec) (re : List Nat) (o : Oper) (σ : St) : Option (Ent × List Slot) := opE P C O re o σ two
theorem intOp_bind (op : BinOp) (k : IntKind) (x y : Int) (K : Ent → Option R) : intOp op k x y K = (intOp op k x y some).bind K := by
  cases op <;> simp only [intOp] <;> first | rfl | (split <;> rfl)
theorem strOp_bind (op : BinOp) (x y : ByteArray) (K : Ent → Option R) : strOp op x y K = (strOp op x y some).bind K := by
  cases op <;> simp only [strOp] <;> first | rfl | (split <;> rfl)
theorem eqOp_bind (op : BinOp) (b : Bool) (K : Ent → Option R) : eqOp op b K = (eqOp op b some).bind K := by
  cases op <;> rfl
theorem cutB_bind {α : Type} (n : Int) (lo hi : Option Ent) (K : Int → Int → Option α) (F : α → Option R) : cutB n lo hi (fun a b => (K a b).bind F) = (cutB n lo hi K).bind F := by
  unfold cutB
  split <;> first | rfl | (split <;> rfl)
theorem cutB_two (n : Int) (lo hi : Option Ent) (E : Int → Int → Ent) (S : Int → Int → List Slot) (K : Ent → List Slot → Option R) : (cutB n lo hi fun a b => K (E a b) (S a b)) = (cutB n lo hi fun a b => two (E a b) (S a b)).bind fun p => K p.1 p.2 := by
  unfold cutB
  split <;> first | rfl | (split <;> rfl)
theorem nilE_bind (op : BinOp) (d : TypeDesc) (a b : Lf) (K : Ent → Option R) : nilE op d a b K = (nilE op d a b some).bind K := by
  unfold nilE
  split <;> first | exact eqOp_bind _ _ _ | rfl
theorem binE_bind (op : BinOp) (t : TypeId) (x y : Operand) (a b : Ent) (K : Ent → Option R) : binE P op t x y a b K = (binE P op t x y a b some).bind K := by
  unfold binE
  split
  · split
    · exact intOp_bind _ _ _ _ _
    · exact intOp_bind _ _ _ _ _
    · split
      · exact intOp_bind _ _ _ _ _
      · rfl
  · exact strOp_bind _ _ _ _
  · split
    · exact eqOp_bind _ _ _
    · rfl
  · split
    · split
      · exact eqOp_bind _ _ _
      · split
        · exact eqOp_bind _ _ _
        · split
          · exact eqOp_bind _ _ _
          · rfl
    · rfl
  · split
    · exact nilE_bind _ _ _ _ _
    · rfl
  · rfl
theorem unE_bind (op : UnOp) (a : Ent) (K : Ent → Option R) : unE op a K = (unE op a some).bind K := by
  unfold unE
  split <;> rfl
theorem convE_bind (src dst : TypeId) (a : Ent) (s : List Slot) (K : Ent → Option R) : convE P src dst a s K = (convE P src dst a s some).bind K := by
  unfold convE
  split <;> first | rfl | (split <;> first | rfl | (split <;> rfl))
theorem loadE_bind (t : TypeId) (a : Ent) (s : List Slot) (K : Ent → Option R) : loadE P C t a s K = (loadE P C t a s some).bind K := by
  unfold loadE
  repeat' (first | rfl | (split <;> try simp only [*]))
theorem indexAddrE_bind (xt : TypeId) (x ix : Ent) (s : List Slot) (K : Ent → Option R) : indexAddrE P xt x ix s K = (indexAddrE P xt x ix s some).bind K := by
  unfold indexAddrE
  repeat' (first | rfl | (split <;> try simp only [*]))
theorem lenE_bind (t : TypeId) (x : Ent) (s : List Slot) (K : Ent → Option R) : lenE P t x s K = (lenE P t x s some).bind K := by
  unfold lenE
  repeat' (first | rfl | (split <;> try simp only [*]))
theorem appendE_bind (st ut : TypeId) (x y : Ent) (s : List Slot) (K : Ent → List Slot → Option R) : appendE P C st ut x y s K = (appendE P C st ut x y s two).bind fun p => K p.1 p.2 := by
  unfold appendE
  repeat' (first | rfl | (split <;> try simp only [*]))
theorem buildSliceE_bind (t : TypeId) (len : Nat) (parts : List (Nat × Ent)) (s : List Slot) (K : Ent → List Slot → Option R) : buildSliceE P C t len parts s K = (buildSliceE P C t len parts s two).bind fun p => K p.1 p.2 := by
  unfold buildSliceE
  repeat' (first | rfl | (split <;> try simp only [*]))
theorem buildFlE_bind (t : TypeId) (len : Nat) (parts : List (Nat × Ent)) (K : Ent → Option R) : buildFlE P C t len parts K = (buildFlE P C t len parts some).bind K := by
  unfold buildFlE
  repeat' (first | rfl | (split <;> try simp only [*]))
theorem makeSliceE_bind (t : TypeId) (l c : Ent) (s : List Slot) (K : Ent → List Slot → Option R) : makeSliceE P C t l c s K = (makeSliceE P C t l c s two).bind fun p => K p.1 p.2 := by
  unfold makeSliceE
  repeat' (first | rfl | (split <;> try simp only [*]))
theorem buildE_bind (t : TypeId) (parts : List (Nat × Ent)) (K : Ent → Option R) : buildE P t parts K = (buildE P t parts some).bind K := by
  unfold buildE
  repeat' (first | rfl | (split <;> try simp only [*]))
theorem sliceE_bind (re : Bool) (xt : TypeId) (x : Ent) (lo hi : Option Ent) (s : List Slot) (K : Ent → List Slot → Option R) : sliceE P re xt x lo hi s K = (sliceE P re xt x lo hi s two).bind fun p => K p.1 p.2 := by
  unfold sliceE
  repeat' (first | rfl | exact cutB_two _ _ _ _ _ _ | split)
theorem storeE_bind (t : TypeId) (a v : Ent) (s : List Slot) (E : Ent) (K : Ent → List Slot → Option R) : storeE P t a v s (fun s => K E s) = (storeE P t a v s (fun s => two E s)).bind fun p => K p.1 p.2 := by
  unfold storeE
  repeat' (first | rfl | (split <;> try simp only [*]))
theorem lookupE_bind (mt : TypeId) (m k : Ent) (ok : Bool) (s : List Slot) (K : Ent → List Slot → Option R) : lookupE P mt m k ok s K = (lookupE P mt m k ok s two).bind fun p => K p.1 p.2 := by
  unfold lookupE
  repeat' (first | rfl | (split <;> try simp only [*]))
theorem lookupD_bind (mt : TypeId) (m k : Ent) (ok : Bool) (s : List Slot) (K : Ent → Option R) : lookupD P mt m k ok s K = (lookupD P mt m k ok s some).bind K := by
  unfold lookupD
  repeat' (first | rfl | (split <;> try simp only [*]))
theorem mapUpdateE_bind (mt : TypeId) (m k v : Ent) (s : List Slot) (E : Ent) (K : Ent → List Slot → Option R) : mapUpdateE P mt m k v s (fun s => K E s) = (mapUpdateE P mt m k v s (fun s => two E s)).bind fun p => K p.1 p.2 := by
  unfold mapUpdateE
  repeat' (first | rfl | (split <;> try simp only [*]))
theorem minmaxE_bind (m : Bool) (l : List Ent) (K : Ent → Option R) : minmaxE m l K = (minmaxE m l some).bind K := by
  unfold minmaxE
  repeat' (first | rfl | (split <;> try simp only [*]))
theorem tryS_bind (args : List Ent) (s : List Slot) (K : Ent → List Slot → Option R) : ∀ l : List FSpec, tryS args s K l = (tryS args s two l).bind fun p => K p.1 p.2
  | [] => rfl
  | sp :: r => by
    simp only [tryS]
    split
    · split
      · rw [decS_eq, decS_eq]
        split <;> rfl
      · rfl
    · exact tryS_bind args s K r
theorem callE_bind (f : Ent) (args : List Ent) (s : List Slot) (K : Ent → List Slot → Option R) : callE O f args s K = (callE O f args s two).bind fun p => K p.1 p.2 := by
  unfold callE
  split
  · exact tryS_bind _ _ _ _
  · rfl
theorem same_bind {x : Option Ent} {s : List Slot} {K : Ent → List Slot → Option R} : x.bind (fun e => K e s) = (x.bind fun e => two e s).bind fun p => K p.1 p.2 := by
  cases x <;> rfl
theorem callOpE_bind {c : Call} (ho : (!isW (Op.call c) || okWr (Op.call c)) = true) (σ : St) (K : Ent → List Slot → Option R) : callOpE P C O c σ K = (callOpE P C O c σ two).bind fun p => K p.1 p.2 := by
  unfold callOpE
  split
  · exact callE_bind _ _ _ _
  · split
    · rw [lenE_bind _ _ _ (fun e => K e σ.s), lenE_bind _ _ _ (fun e => two e σ.s)]; exact same_bind
    · rfl
  · split
    · exact appendE_bind _ _ _ _ _ _
    · rfl
  · rename_i hc; exfalso; revert ho; simp [isW, rdOf, okWr, hc]
  · rename_i hc; exfalso; revert ho; simp [isW, rdOf, okWr, hc]
  · rw [minmaxE_bind _ _ (fun e => K e σ.s), minmaxE_bind _ _ (fun e => two e σ.s)]; exact same_bind
  · rw [minmaxE_bind _ _ (fun e => K e σ.s), minmaxE_bind _ _ (fun e => two e σ.s)]; exact same_bind
  · rfl
theorem opE_bind {re : List Nat} {o : Oper} (ho : (!isW o.op || okWr o.op) = true) (σ : St) (K : Ent → List Slot → Option R) : opE P C O re o σ K = (opR0 P C O re o σ).bind fun p => K p.1 p.2 := by
  unfold opR0 opE
  cases hop : o.op <;> rw [hop] at ho <;> (try simp only []) <;> first
    | rfl
    | (exfalso; revert ho; simp [isW, rdOf, okWr]; done)
    | skip
  case pick => repeat' (first | rfl | split)
  case alloc => repeat' (first | rfl | split)
  case makeSlice => exact makeSliceE_bind _ _ _ _ _
  case box => repeat' (first | rfl | split)
  case build => rw [buildE_bind _ _ (fun e => K e σ.s), buildE_bind _ _ (fun e => two e σ.s)]; exact same_bind
  case buildSlice =>
    split
    · rw [buildFlE_bind _ _ _ (fun e => K e σ.s), buildFlE_bind _ _ _ (fun e => two e σ.s)]; exact same_bind
    · exact buildSliceE_bind _ _ _ _ _
  case load =>
    rw [loadE_bind _ _ _ (fun e => K (unfl (keeps re o.dst) e) σ.s), loadE_bind _ _ _ (fun e => two (unfl (keeps re o.dst) e) σ.s)]
    cases loadE P C _ _ σ.s some <;> rfl
  case nilCheck => repeat' (first | rfl | split)
  case binOp => rw [binE_bind _ _ _ _ _ _ (fun e => K e σ.s), binE_bind _ _ _ _ _ _ (fun e => two e σ.s)]; exact same_bind
  case unOp => rw [unE_bind _ _ (fun e => K e σ.s), unE_bind _ _ (fun e => two e σ.s)]; exact same_bind
  case convert => rw [convE_bind _ _ _ _ (fun e => K e σ.s), convE_bind _ _ _ _ (fun e => two e σ.s)]; exact same_bind
  case slice t x lo hi m =>
    cases m with
    | none => exact sliceE_bind _ _ _ _ _ _ _
    | some m => rfl
  case fieldAddr => repeat' (first | rfl | split)
  case field => repeat' (first | rfl | split)
  case indexAddr => rw [indexAddrE_bind _ _ _ _ (fun e => K e σ.s), indexAddrE_bind _ _ _ _ (fun e => two e σ.s)]; exact same_bind
  case index => repeat' (first | rfl | split)
  case typeAssert => repeat' (first | rfl | split)
  case makeInterface => repeat' (first | rfl | split)
  case store => exact storeE_bind _ _ _ _ _ _
  case lookup => exact lookupE_bind _ _ _ _ _ _
  case mapUpdate => exact mapUpdateE_bind _ _ _ _ _ _ _
  case extract => repeat' (first | rfl | split)
  case call c => exact callOpE_bind ho σ K
  all_goals rfl
theorem opE_inv {re : List Nat} {o : Oper} (ho : (!isW o.op || okWr o.op) = true) {σ : St} {K : Ent → List Slot → Option R} {r : R} (h : opE P C O re o σ K = some r) : ∃ e s, opR0 P C O re o σ = some (e, s) ∧ K e s = some r := by
  rw [opE_bind ho] at h
  cases hr : opR0 P C O re o σ with
  | none => rw [hr] at h; cases h
  | some p => rw [hr] at h; exact ⟨p.1, p.2, rfl, h⟩

/-! ### what an operation depends on -/
theorem map_ev {σ σ' : St} {l : List Operand} (h : ∀ x ∈ l, σ.ev x = σ'.ev x) : l.map σ.ev = l.map σ'.ev := List.map_congr_left h
theorem callop_mem {c : Call} {o : Op} (ho : o = .call c) : (∀ x ∈ c.args.toList, x ∈ o.operands.toList) ∧ ∀ f, c.callee = .value f → f ∈ o.operands.toList := by
  subst ho
  refine ⟨fun x hx => ?_, fun f hf => ?_⟩
  · simp only [Op.operands, Call.operands]; simp at hx ⊢; exact .inr hx
  · simp [Op.operands, Call.operands, hf]
theorem callOpE_congr {c : Call} {σ σ' : St} (hs : σ.s = σ'.s) (h : ∀ x ∈ (Op.call c).operands.toList, σ.ev x = σ'.ev x) {K : Ent → List Slot → Option R} : callOpE P C O c σ K = callOpE P C O c σ' K := by
  obtain ⟨ha, hf⟩ := callop_mem (c := c) rfl
  have hm : c.args.toList.map σ.ev = c.args.toList.map σ'.ev := map_ev fun x hx => h x (ha x hx)
  unfold callOpE
  rw [hm, ← hs]
  split
  · rename_i f hc
    rw [h f (hf f hc)]
  · split
    · rename_i x t hx ht
      rw [h x (ha x (by rw [hx]; simp))]
    · rfl
  · split
    · rename_i x y t u hx ht
      rw [h x (ha x (by rw [hx]; simp)), h y (ha y (by rw [hx]; simp))]
    · rfl
  · split
    · rename_i x y t u hx ht
      rw [h x (ha x (by rw [hx]; simp)), h y (ha y (by rw [hx]; simp))]
    · rfl
  · split
    · rename_i x t hx ht
      rw [h x (ha x (by rw [hx]; simp))]
    · rfl
  · rfl
  · rfl
  · rfl
theorem opR0_congr {re : List Nat} {o : Oper} (ho : (!isW o.op || okWr o.op) = true) {σ σ' : St} (hs : σ.s = σ'.s) (h : ∀ x ∈ o.op.operands.toList, σ.ev x = σ'.ev x) : opR0 P C O re o σ = opR0 P C O re o σ' := by
  have h0 := h
  unfold opR0 opE
  rw [← hs]
  cases hop : o.op <;> rw [hop] at ho h <;> first
    | (exfalso; revert ho; simp [isW, rdOf, okWr]; done)
    | skip
  case slice t x lo hi m =>
    have h1 : lo.map σ.ev = lo.map σ'.ev := by cases lo with | none => rfl | some y => simp only [Option.map_some]; rw [h y (by simp [Op.operands])]
    have h2 : hi.map σ.ev = hi.map σ'.ev := by cases hi with | none => rfl | some y => simp only [Option.map_some]; rw [h y (by simp [Op.operands])]
    have h3 : σ.ev x = σ'.ev x := h x (by simp [Op.operands])
    cases m with
    | none => simp only [h1, h2, h3]
    | some m => rfl
  all_goals (try simp only []) <;> (try simp [Op.operands] at h) <;> (try simp only [h]) <;> (try rfl)
  case build t ps =>
    have : (ps.toList.map fun p => (p.1, σ.ev p.2)) = ps.toList.map fun p => (p.1, σ'.ev p.2) := List.map_congr_left fun p hp => by rw [h _ _ (by simpa using hp)]
    rw [this]
  case buildSlice t n ps =>
    have : (ps.toList.map fun p => (p.1, σ.ev p.2)) = ps.toList.map fun p => (p.1, σ'.ev p.2) := List.map_congr_left fun p hp => by rw [h _ _ (by simpa using hp)]
    rw [this]
  case call c => exact callOpE_congr hs (by rw [hop] at h0; exact h0)
theorem buildValE_bind (t : TypeId) (len : Nat) (parts : List (Nat × Ent)) (K : Ent → Option R) : buildValE P C t len parts K = (buildValE P C t len parts some).bind K := by
  unfold buildValE
  repeat' (first | rfl | (split <;> try simp only [*]))
theorem cutB_one (n : Int) (lo hi : Option Ent) (E : Int → Int → Ent) (K : Ent → Option R) : (cutB n lo hi fun a b => K (E a b)) = (cutB n lo hi fun a b => some (E a b)).bind K := by
  unfold cutB
  split <;> first | rfl | (split <;> rfl)
theorem sliceE_one (re : Bool) (xt : TypeId) (x : Ent) (lo hi : Option Ent) (s : List Slot) (K : Ent → Option R) : (sliceE P re xt x lo hi s fun e _ => K e) = (sliceE P re xt x lo hi s fun e _ => some e).bind K := by
  unfold sliceE
  repeat' (first | rfl | exact cutB_one _ _ _ _ _ | split)
theorem sliceD_bind (xt : TypeId) (x : Ent) (lo hi : Option Ent) (s : List Slot) (K : Ent → Option R) : sliceD P xt x lo hi s K = (sliceD P xt x lo hi s some).bind K := by
  unfold sliceD
  split
  · split
    · exact sliceE_one _ _ _ _ _ _ _
    · rfl
  · exact sliceE_one _ _ _ _ _ _ _
def opR (P : Program) (C : Cfg) (O : FuncId → List FSpec) (re : List Nat) (o : Oper) (σ : St) : Option (Ent × List Slot) := opD P C O re o σ two
theorem opD_bind {re : List Nat} {o : Oper} (ho : (!isW o.op || okWr o.op) = true) (σ : St) (K : Ent → List Slot → Option R) : opD P C O re o σ K = (opR P C O re o σ).bind fun p => K p.1 p.2 := by
  unfold opR opD
  split
  · rw [buildValE_bind _ _ _ (fun e => K e σ.s), buildValE_bind _ _ _ (fun e => two e σ.s)]; exact same_bind
  · rw [sliceD_bind _ _ _ _ _ (fun e => K e σ.s), sliceD_bind _ _ _ _ _ (fun e => two e σ.s)]; exact same_bind
  · rfl
  · rw [lookupD_bind _ _ _ _ _ (fun e => K e σ.s), lookupD_bind _ _ _ _ _ (fun e => two e σ.s)]; exact same_bind
  · exact opE_bind ho σ K
theorem opD_inv {re : List Nat} {o : Oper} (ho : (!isW o.op || okWr o.op) = true) {σ : St} {K : Ent → List Slot → Option R} {r : R} (h : opD P C O re o σ K = some r) : ∃ e s, opR P C O re o σ = some (e, s) ∧ K e s = some r := by
  rw [opD_bind ho] at h
  cases hr : opR P C O re o σ with
  | none => rw [hr] at h; cases h
  | some p => rw [hr] at h; exact ⟨p.1, p.2, rfl, h⟩
theorem opR_congr {re : List Nat} {o : Oper} (ho : (!isW o.op || okWr o.op) = true) {σ σ' : St} (hs : σ.s = σ'.s) (h : ∀ x ∈ o.op.operands.toList, σ.ev x = σ'.ev x) : opR P C O re o σ = opR P C O re o σ' := by
  have h0 := opR0_congr (P := P) (C := C) (O := O) (re := re) ho hs h
  unfold opR opD
  split
  · rename_i t n ps hop
    rw [hop] at h
    have : (ps.toList.map fun p => (p.1, σ.ev p.2)) = ps.toList.map fun p => (p.1, σ'.ev p.2) := List.map_congr_left fun p hp => by rw [h p.2 (by simp [Op.operands]; exact ⟨p.1, by simpa using hp⟩)]
    rw [this, hs]
  · rename_i t x lo hi hop
    rw [hop] at h
    have h1 : lo.map σ.ev = lo.map σ'.ev := by cases lo with | none => rfl | some y => simp only [Option.map_some]; rw [h y (by simp [Op.operands])]
    have h2 : hi.map σ.ev = hi.map σ'.ev := by cases hi with | none => rfl | some y => simp only [Option.map_some]; rw [h y (by simp [Op.operands])]
    have h3 : σ.ev x = σ'.ev x := h x (by simp [Op.operands])
    rw [h1, h2, h3, hs]
  · rfl
  · rename_i t m k ok hop
    rw [hop] at h
    rw [h m (by simp [Op.operands]), h k (by simp [Op.operands]), hs]
  · exact h0
end
end Go.Proofs.YtnajjhjbkanigaaDoor.Cm

/- Printed by cmtext.py: the code as plain functions. -/
import Derived.Test.YthbbokndogjopaaGreatDoorCmFo
import Derived.Test.YthbbokndogjopaaGreatDoorCmIs
import Derived.Test.YthbbokndogjopaaGreatDoorShelf
import Derived.Test.YthbbokndogjopaaGreatDoorCmMp
import Derived.Test.YthbbokndogjopaaGreatDoorCmMq
namespace Go.Proofs.YthbbokndogjopaaGreatDoor.Cm
open Go
noncomputable section
set_option linter.unusedVariables false
set_option maxRecDepth 100000
abbrev P := Tryz.prog
abbrev CC : Cfg := ⟨197, 120, 124, [(101, 4), (102, 5), (103, 1), (104, 0), (118, 3), (119, 2)], [(21, tabP (fun z => Value.int .u64 z) Lib.pow10Tab)], [], []⟩
abbrev ty1 : Ty := (.pair .str .bool)
abbrev ty0 : Ty := (.pair .str ty1)
abbrev ty2 : Ty := (.slice 5 (.int .u8))
abbrev ty3 : Ty := (.slice 55 ty0)
abbrev ty4 : Ty := (.slice 9 .str)
abbrev ty5 : Ty := (.slice 3 (.int .i64))
/-! ### pendulum/disk.New -/
abbrev disk_New_ins : Sh := ⟨[(.one (.val (.int .i64)))], []⟩
abbrev disk_New_outs : List Sh := [⟨[(.tup [(false, [(.ptr 0 0)]), (false, [(.val .err)])])], [(.obj 61 [(.val (.int .i64)), (.map 1), (.map 2), (.val (.int .i64)), (.val (.int .i64)), (.val .bool)]), (.map (.int .i64) ty2 false), (.map (.int .i64) ty2 false)]⟩, ⟨[(.tup [(false, [.nilp]), (false, [(.val .err)])])], []⟩]
def disk_New : Nat → disk_New_ins.T → Option (OutsT disk_New_outs)
  | 0, _ => none
  | n + 1, ((x1, _), _) =>
    if decide (x1 < 1) then
      some (.inr ((((((), ()), (ErrV.sent 104, ()), ()), ()), ())))
    else
      if decide (x1 > 16384) then
        some (.inr ((((((), ()), (ErrV.sent 104, ()), ()), ()), ())))
      else
        some (.inl (((((), ()), (ErrV.nil, ()), ()), ()), ((x1, (), (), 0, 0, false, ()), [], [], ())))
def disk_New_H (n : Nat) : Hints := ⟨[], fun _ => [], fun _ => none, fun _ => none, fun _ => none, fun _ => 0⟩
def disk_New_O (n : Nat) : FuncId → List FSpec := asc []
def b22 : Code := bodyOf Tryz.f22
theorem disk_New_ok {S : Nat → Addr} (ok : CfgOk P CC S) : ∀ n, SpecOk P CC S 22 ⟨disk_New_ins, disk_New_outs, disk_New n⟩ :=
  fn_all ok (O := disk_New_O) (H := disk_New_H) (fn := Tryz.f22) (body := b22) (by kernel_rfl) (by kernel_rfl) (by kernel_rfl) (by decide) (by kernel_rfl)
    (fun x => by kernel_rfl) (fun n => by
      rintro ⟨⟨x1, ⟨⟩⟩, ⟨⟩⟩
      kernel_rfl)
    (fun n => obl_of (by kernel_rfl) (by kernel_rfl) (lz) (cn (cn (cn (cn (cn (cz) (by kernel_rfl)) (by kernel_rfl)) (by kernel_rfl)) (by kernel_rfl)) (by kernel_rfl)) (hn fun _ => rfl))
    (fun n ih => asc_nil)
/-! ### (*pendulum/disk.Disk).Sectors -/
abbrev disk_Disk_Sectors_ins : Sh := ⟨[(.one (.ptr 0 0))], [(.obj 61 [(.val (.int .i64)), (.map 1), (.map 2), (.val (.int .i64)), (.val (.int .i64)), (.val .bool)]), (.map (.int .i64) ty2 false), (.map (.int .i64) ty2 false)]⟩
abbrev disk_Disk_Sectors_outs : List Sh := [⟨[(.one (.val (.int .i64)))], [(.obj 61 [(.val (.int .i64)), (.map 1), (.map 2), (.val (.int .i64)), (.val (.int .i64)), (.val .bool)]), (.map (.int .i64) ty2 false), (.map (.int .i64) ty2 false)]⟩]
def disk_Disk_Sectors : Nat → disk_Disk_Sectors_ins.T → Option (OutsT disk_Disk_Sectors_outs)
  | 0, _ => none
  | n + 1, ((_, _), ((x1, _, _, x2, x3, x4, _), m5, m6, _)) =>
    some ((x1, ()), ((x1, (), (), x2, x3, x4, ()), m5, m6, ()))
def disk_Disk_Sectors_H (n : Nat) : Hints := ⟨[], fun _ => [], fun _ => none, fun _ => none, fun _ => none, fun _ => 0⟩
def disk_Disk_Sectors_O (n : Nat) : FuncId → List FSpec := asc []
def b37 : Code := bodyOf Tryz.f37
theorem disk_Disk_Sectors_ok {S : Nat → Addr} (ok : CfgOk P CC S) : ∀ n, SpecOk P CC S 37 ⟨disk_Disk_Sectors_ins, disk_Disk_Sectors_outs, disk_Disk_Sectors n⟩ :=
  fn_all ok (O := disk_Disk_Sectors_O) (H := disk_Disk_Sectors_H) (fn := Tryz.f37) (body := b37) (by kernel_rfl) (by kernel_rfl) (by kernel_rfl) (by decide) (by kernel_rfl)
    (fun x => by kernel_rfl) (fun n => by
      rintro ⟨⟨⟨⟩, ⟨⟩⟩, ⟨⟨x1, ⟨⟩, ⟨⟩, x2, x3, x4, ⟨⟩⟩, x5, x6, ⟨⟩⟩⟩
      kernel_rfl)
    (fun n => obl_of (by kernel_rfl) (by kernel_rfl) (lz) (cn (cn (cz) (by kernel_rfl)) (by kernel_rfl)) (hn fun _ => rfl))
    (fun n ih => asc_nil)
/-! ### pendulum/jour.bounds -/
abbrev jour_bounds_ins : Sh := ⟨[(.one (.ptr 0 0)), (.one (.val (.int .i64)))], [(.obj 61 [(.val (.int .i64)), (.map 1), (.map 2), (.val (.int .i64)), (.val (.int .i64)), (.val .bool)]), (.map (.int .i64) ty2 false), (.map (.int .i64) ty2 false)]⟩
abbrev jour_bounds_outs : List Sh := [⟨[(.tup [(false, [(.val (.int .i64))]), (false, [(.val (.int .i64))])])], [(.obj 61 [(.val (.int .i64)), (.map 1), (.map 2), (.val (.int .i64)), (.val (.int .i64)), (.val .bool)]), (.map (.int .i64) ty2 false), (.map (.int .i64) ty2 false)]⟩]
def jour_bounds : Nat → jour_bounds_ins.T → Option (OutsT jour_bounds_outs)
  | 0, _ => none
  | n + 1, ((_, x1, _), ((x2, _, _, x3, x4, x5, _), m6, m7, _)) =>
    match disk_Disk_Sectors n (((), ()), ((x2, (), (), x3, x4, x5, ()), m6, m7, ())) with
    | some ((x8, _), ((x9, _, _, x10, x11, x12, _), m13, m14, _)) => (
      let v15 : Int := IntKind.i64.wrap (Int.tdiv x8 2)
      let v16 : Int := IntKind.i64.wrap (x1 * v15)
      let v17 : Int := IntKind.i64.wrap (x1 + 1)
      let v18 : Int := IntKind.i64.wrap (v17 * v15)
      some ((((v16, ()), (v18, ()), ()), ()), ((x9, (), (), x10, x11, x12, ()), m13, m14, ())))
    | none => none
def jour_bounds_H (n : Nat) : Hints := ⟨[], fun _ => [], fun _ => none, fun _ => none, fun _ => none, fun _ => 0⟩
def jour_bounds_O (n : Nat) : FuncId → List FSpec := asc [(37, ⟨disk_Disk_Sectors_ins, disk_Disk_Sectors_outs, disk_Disk_Sectors n⟩)]
def b27 : Code := bodyOf Tryz.f27
theorem jour_bounds_ok {S : Nat → Addr} (ok : CfgOk P CC S) : ∀ n, SpecOk P CC S 27 ⟨jour_bounds_ins, jour_bounds_outs, jour_bounds n⟩ :=
  fn_all ok (O := jour_bounds_O) (H := jour_bounds_H) (fn := Tryz.f27) (body := b27) (by kernel_rfl) (by kernel_rfl) (by kernel_rfl) (by decide) (by kernel_rfl)
    (fun x => by kernel_rfl) (fun n => by
      rintro ⟨⟨⟨⟩, x1, ⟨⟩⟩, ⟨⟨x2, ⟨⟩, ⟨⟩, x3, x4, x5, ⟨⟩⟩, x6, x7, ⟨⟩⟩⟩
      kernel_rfl)
    (fun n => obl_of (by kernel_rfl) (by kernel_rfl) (lz) (cn (cn (cn (cz) (by kernel_rfl)) (by kernel_rfl)) (by kernel_rfl)) (hn fun _ => rfl))
    (fun n ih => asc_cons (disk_Disk_Sectors_ok ok n) <| asc_nil)
/-! ### slices.Clone[[]byte,byte] -/
abbrev slices_Clone_byte_byte_raw_ins : Sh := ⟨[(.one (.val ty2))], []⟩
abbrev slices_Clone_byte_byte_raw_outs : List Sh := [⟨[(.one (.arr 0))], [(.arr 5 (.int .u8))]⟩]
def slices_Clone_byte_byte_raw : Nat → slices_Clone_byte_byte_raw_ins.T → Option (OutsT slices_Clone_byte_byte_raw_outs)
  | 0, _ => none
  | n + 1, ((x1, _), _) =>
    if (x1.isEmpty || (Ty.size ((.int .u8) : Ty) == 0)) = true then
      both fun b2 =>
        if b2 then
          some (((), ()), ([], ()))
        else
          if (([] : List ((.int .u8) : Ty).T).length + x1.length) * 1 ≤ 140737488355328 then (
            some (((), ()), ([] ++ x1, ()))) else none
    else
      if (([] : List ((.int .u8) : Ty).T).length + x1.length) * 1 ≤ 140737488355328 then (
        some (((), ()), ([] ++ x1, ()))) else none
def slices_Clone_byte_byte_raw_H (n : Nat) : Hints := ⟨[], fun _ => [], fun _ => none, fun _ => none, fun _ => none, fun _ => 0⟩
def slices_Clone_byte_byte_raw_O (n : Nat) : FuncId → List FSpec := asc []
def b64 : Code := bodyOf Tryz.f64
theorem slices_Clone_byte_byte_raw_ok {S : Nat → Addr} (ok : CfgOk P CC S) : ∀ n, SpecOk P CC S 64 ⟨slices_Clone_byte_byte_raw_ins, slices_Clone_byte_byte_raw_outs, slices_Clone_byte_byte_raw n⟩ :=
  fn_all ok (O := slices_Clone_byte_byte_raw_O) (H := slices_Clone_byte_byte_raw_H) (fn := Tryz.f64) (body := b64) (by kernel_rfl) (by kernel_rfl) (by kernel_rfl) (by decide) (by kernel_rfl)
    (fun x => by kernel_rfl) (fun n => by
      rintro ⟨⟨x1, ⟨⟩⟩, ⟨⟩⟩
      kernel_rfl)
    (fun n => obl_of (by kernel_rfl) (by kernel_rfl) (lz) (cn (cn (cn (cn (cn (cz) (by kernel_rfl)) (by kernel_rfl)) (by kernel_rfl)) (by kernel_rfl)) (by kernel_rfl)) (hn fun _ => rfl))
    (fun n ih => asc_nil)
abbrev slices_Clone_byte_byte_ins : Sh := slices_Clone_byte_byte_raw_ins
abbrev slices_Clone_byte_byte_outs : List Sh := slices_Clone_byte_byte_raw_outs
def slices_Clone_byte_byte : Nat → slices_Clone_byte_byte_ins.T → Option (OutsT slices_Clone_byte_byte_outs)
  | 0, _ => none
  | n + 1, ((x1, _), _) => if (([] : List ((.int .u8) : Ty).T).length + x1.length) * 1 ≤ 140737488355328 then (some (((), ()), (x1, ()))) else none
theorem slices_Clone_byte_byte_ok {S : Nat → Addr} (ok : CfgOk P CC S) : ∀ n, SpecOk P CC S 64 ⟨slices_Clone_byte_byte_ins, slices_Clone_byte_byte_outs, slices_Clone_byte_byte n⟩ := fun n => (slices_Clone_byte_byte_raw_ok ok n).weaken fun x y h => by
  cases n with
  | zero => cases h
  | succ n =>
    obtain ⟨⟨x1, ⟨⟩⟩, ⟨⟩⟩ := x
    simp only [slices_Clone_byte_byte] at h
    split at h
    · rename_i hc
      cases h
      simp only [slices_Clone_byte_byte_raw]
      split
      · rename_i he
        have h0 : x1 = [] := by simpa [Ty.size] using he
        subst h0
        exact both_same rfl rfl
      · first | rfl | (rw [if_pos hc]; rfl)
    · cases h
/-! ### (*pendulum/disk.Disk).Read -/
abbrev disk_Disk_Read_ins : Sh := ⟨[(.one (.ptr 0 0)), (.one (.val (.int .i64)))], [(.obj 61 [(.val (.int .i64)), (.map 1), (.map 2), (.val (.int .i64)), (.val (.int .i64)), (.val .bool)]), (.map (.int .i64) ty2 false), (.map (.int .i64) ty2 false)]⟩
abbrev disk_Disk_Read_outs : List Sh := [⟨[(.tup [(false, [(.arr 3)]), (false, [(.val .bool)]), (false, [(.val .err)])])], [(.obj 61 [(.val (.int .i64)), (.map 1), (.map 2), (.val (.int .i64)), (.val (.int .i64)), (.val .bool)]), (.map (.int .i64) ty2 false), (.map (.int .i64) ty2 false), (.arr 5 (.int .u8))]⟩]
abbrev disk_Disk_Read_c8_h : Sh := ⟨[(.one (.ptr 0 0)), (.one (.val (.int .i64))), (.one (.val ty2)), (.one (.val .bool))], [(.obj 61 [(.val (.int .i64)), (.map 1), (.map 2), (.val (.int .i64)), (.val (.int .i64)), (.val .bool)]), (.map (.int .i64) ty2 false), (.map (.int .i64) ty2 false)]⟩
abbrev disk_Disk_Read_c8_o : List Out := [⟨.normal, [7, 8], ⟨[(.one (.val ty2)), (.one (.val .bool))], [(.obj 61 [(.val (.int .i64)), (.map 1), (.map 2), (.val (.int .i64)), (.val (.int .i64)), (.val .bool)]), (.map (.int .i64) ty2 false), (.map (.int .i64) ty2 false)]⟩⟩]
def disk_Disk_Read_c8 (n : Nat) : disk_Disk_Read_c8_h.T → Option (OutT disk_Disk_Read_c8_o)
  | ((_, x1, x2, x3, _), ((x4, _, _, x5, x6, x7, _), m8, m9, _)) =>
    if !x3 then
      let v10 : List Int := (mfind (keyEq ((.int .i64) : Ty)) x1 m8).getD []
      some (.inl ((v10, (mfind (keyEq ((.int .i64) : Ty)) x1 m8).isSome, ()), ((x4, (), (), x5, x6, x7, ()), m8, m9, ())))
    else
      some (.inl ((x2, x3, ()), ((x4, (), (), x5, x6, x7, ()), m8, m9, ())))
def disk_Disk_Read : Nat → disk_Disk_Read_ins.T → Option (OutsT disk_Disk_Read_outs)
  | 0, _ => none
  | n + 1, ((_, x1, _), ((x2, _, _, x3, x4, x5, _), m6, m7, _)) =>
    if x5 then
      some (((((), ()), (false, ()), (ErrV.sent 119, ()), ()), ()), ((x2, (), (), x3, x4, x5, ()), m6, m7, [], ()))
    else
      if decide (x1 < 0) then
        some (((((), ()), (false, ()), (ErrV.sent 118, ()), ()), ()), ((x2, (), (), x3, x4, x5, ()), m6, m7, [], ()))
      else
        if decide (x1 ≥ x2) then
          some (((((), ()), (false, ()), (ErrV.sent 118, ()), ()), ()), ((x2, (), (), x3, x4, x5, ()), m6, m7, [], ()))
        else
          let v8 : List Int := (mfind (keyEq ((.int .i64) : Ty)) x1 m7).getD []
          match disk_Disk_Read_c8 n (((), x1, v8, (mfind (keyEq ((.int .i64) : Ty)) x1 m7).isSome, ()), ((x2, (), (), x3, x4, x5, ()), m6, m7, ())) with
          | some (.inl ((x9, x10, _), ((x11, _, _, x12, x13, x14, _), m15, m16, _))) => (
            match slices_Clone_byte_byte n ((x9, ()), ()) with
            | some ((_, _), (l17, _)) => (
              some (((((), ()), (x10, ()), (ErrV.nil, ()), ()), ()), ((x11, (), (), x12, x13, x14, ()), m15, m16, l17, ())))
            | none => none)
          | some (.inr (_)) => none
          | none => none
def disk_Disk_Read_H (n : Nat) : Hints := ⟨[], fun _ => [], fun _ => none, fun k => match k with | 8 => some ⟨[0, 1, 7, 8], disk_Disk_Read_c8_h, disk_Disk_Read_c8_o, fun n => disk_Disk_Read_c8 n⟩ | _ => none, fun _ => none, fun _ => 0⟩
def disk_Disk_Read_O (n : Nat) : FuncId → List FSpec := asc [(64, ⟨slices_Clone_byte_byte_ins, slices_Clone_byte_byte_outs, slices_Clone_byte_byte n⟩)]
def b56 : Code := bodyOf Tryz.f56
theorem disk_Disk_Read_c8_k8 (n : Nat) : CutOk P CC (disk_Disk_Read_O n) n 3 48 (disk_Disk_Read_H n) ⟨[0, 1, 7, 8], disk_Disk_Read_c8_h, disk_Disk_Read_c8_o, fun n => disk_Disk_Read_c8 n⟩ ((cutsOf b56).getD 8 (0, .skip)).2 := by
  rintro ⟨⟨⟨⟩, x1, x2, x3, ⟨⟩⟩, ⟨⟨x4, ⟨⟩, ⟨⟩, x5, x6, x7, ⟨⟩⟩, x8, x9, ⟨⟩⟩⟩
  kernel_rfl
theorem disk_Disk_Read_ok {S : Nat → Addr} (ok : CfgOk P CC S) : ∀ n, SpecOk P CC S 56 ⟨disk_Disk_Read_ins, disk_Disk_Read_outs, disk_Disk_Read n⟩ :=
  fn_all ok (O := disk_Disk_Read_O) (H := disk_Disk_Read_H) (fn := Tryz.f56) (body := b56) (by kernel_rfl) (by kernel_rfl) (by kernel_rfl) (by decide) (by kernel_rfl)
    (fun x => by kernel_rfl) (fun n => by
      rintro ⟨⟨⟨⟩, x1, ⟨⟩⟩, ⟨⟨x2, ⟨⟩, ⟨⟩, x3, x4, x5, ⟨⟩⟩, x6, x7, ⟨⟩⟩⟩
      kernel_rfl)
    (fun n => obl_of (by kernel_rfl) (by kernel_rfl) (lz) (cn (cn (cs (cn (cn (cn (cn (cn (cn (cn (cn (cz) (by kernel_rfl)) (by kernel_rfl)) (by kernel_rfl)) (by kernel_rfl)) (by kernel_rfl)) (by kernel_rfl)) (by kernel_rfl)) (by kernel_rfl)) (by kernel_rfl) (disk_Disk_Read_c8_k8 n)) (by kernel_rfl)) (by kernel_rfl)) (hn fun _ => rfl))
    (fun n ih => asc_cons (slices_Clone_byte_byte_ok ok n) <| asc_nil)
/-! ### errors.Is (by hand) -/
abbrev errors_Is_ins : Sh := ⟨[(.one (.val .err)), (.one (.val .err))], []⟩
abbrev errors_Is_outs : List Sh := [⟨[(.one (.val .bool))], []⟩]
def errors_Is : Nat → errors_Is_ins.T → Option (OutsT errors_Is_outs) := fun _ => isSem
theorem errors_Is_ok {S : Nat → Addr} (ok : CfgOk P CC S) : ∀ n, SpecOk P CC S 57 ⟨errors_Is_ins, errors_Is_outs, errors_Is n⟩ := fun n => is_spec ok (by kernel_rfl)
/-! ### pendulum/jour.says -/
abbrev jour_says_ins : Sh := ⟨[(.one (.val ty2))], []⟩
abbrev jour_says_outs : List Sh := [⟨[(.one (.val (.int .i64)))], []⟩]
abbrev jour_says_l3_h : Sh := ⟨[(.one (.val (.int .i64))), (.one (.val ty2)), (.one (.val (.int .i64))), (.one (.val (.int .i64)))], []⟩
abbrev jour_says_l3_o : List Out := [⟨(.exit 0), [3], ⟨[(.one (.val (.int .i64)))], []⟩⟩]
def jour_says_l3 (n : Nat) : Nat → jour_says_l3_h.T → Option (OutT jour_says_l3_o)
  | 0, _ => none
  | k + 1, ((x1, x2, x3, x4, _), _) =>
    if decide (x4 < x3) then
      if 0 ≤ x4 ∧ x4 < (x2.length : Int) then (
        let v5 : Int := rdT ((.int .u8) : Ty) x2 x4
        let v6 : Int := IntKind.i64.wrap (8 * x4)
        if v6 < 0 then
          none
        else
          let v7 : Int := shlOp .i64 (IntKind.i64.wrap v5) v6
          let v8 : Int := IntKind.i64.wrap (x4 + 1)
          jour_says_l3 n k ((bitsOp .or .i64 x1 v7, x2, x3, v8, ()), ())) else none
    else
      some (.inl ((x1, ()), ()))
def jour_says : Nat → jour_says_ins.T → Option (OutsT jour_says_outs)
  | 0, _ => none
  | n + 1, ((x1, _), _) =>
    match jour_says_l3 n n ((0, x1, (x1.length : Int), 0, ()), ()) with
    | some (.inl ((x2, _), _)) => (
      some ((x2, ()), ()))
    | some (.inr (_)) => none
    | none => none
def jour_says_H (n : Nat) : Hints := ⟨[], fun _ => [], fun k => match k with | 3 => some ⟨[3, 6, 7, 8], jour_says_l3_h, jour_says_l3_o, jour_says_l3 n⟩ | _ => none, fun _ => none, fun _ => none, fun _ => 0⟩
def jour_says_O (n : Nat) : FuncId → List FSpec := asc []
def b58 : Code := bodyOf Tryz.f58
theorem jour_says_l3_k0 (n : Nat) : LoopOk P CC (jour_says_O n) n 0 22 (jour_says_H n) ⟨[3, 6, 7, 8], jour_says_l3_h, jour_says_l3_o, jour_says_l3 n⟩ ((loopsOf b58).getD 0 .skip) := by
  refine ⟨fun _ => by kernel_rfl, ?_⟩
  rintro k ⟨⟨x1, x2, x3, x4, ⟨⟩⟩, ⟨⟩⟩
  kernel_rfl
theorem jour_says_ok {S : Nat → Addr} (ok : CfgOk P CC S) : ∀ n, SpecOk P CC S 58 ⟨jour_says_ins, jour_says_outs, jour_says n⟩ :=
  fn_all ok (O := jour_says_O) (H := jour_says_H) (fn := Tryz.f58) (body := b58) (by kernel_rfl) (by kernel_rfl) (by kernel_rfl) (by decide) (by kernel_rfl)
    (fun x => by kernel_rfl) (fun n => by
      rintro ⟨⟨x1, ⟨⟩⟩, ⟨⟩⟩
      kernel_rfl)
    (fun n => obl_of (by kernel_rfl) (by kernel_rfl) (ls (lz) (by kernel_rfl) (jour_says_l3_k0 n)) (cn (cn (cn (cn (cn (cn (cn (cn (cn (cz) (by kernel_rfl)) (by kernel_rfl)) (by kernel_rfl)) (by kernel_rfl)) (by kernel_rfl)) (by kernel_rfl)) (by kernel_rfl)) (by kernel_rfl)) (by kernel_rfl)) (hn fun _ => rfl))
    (fun n ih => asc_nil)
/-! ### pendulum/jour.read -/
abbrev jour_read_ins : Sh := ⟨[(.one (.ptr 0 0)), (.one (.val (.int .i64)))], [(.obj 61 [(.val (.int .i64)), (.map 1), (.map 2), (.val (.int .i64)), (.val (.int .i64)), (.val .bool)]), (.map (.int .i64) ty2 false), (.map (.int .i64) ty2 false)]⟩
abbrev jour_read_outs : List Sh := [⟨[(.tup [(true, [(.val (.int .i64)), (.val (.int .i64)), (.val (.int .i64)), (.val ty2)]), (false, [(.val .bool)]), (false, [(.val .err)])])], [(.obj 61 [(.val (.int .i64)), (.map 1), (.map 2), (.val (.int .i64)), (.val (.int .i64)), (.val .bool)]), (.map (.int .i64) ty2 false), (.map (.int .i64) ty2 false)]⟩]
abbrev jour_read_c4_h : Sh := ⟨[(.one (.ptr 3 0)), (.one (.arr 4)), (.one (.val .bool)), (.one (.val .err))], [(.obj 61 [(.val (.int .i64)), (.map 1), (.map 2), (.val (.int .i64)), (.val (.int .i64)), (.val .bool)]), (.map (.int .i64) ty2 false), (.map (.int .i64) ty2 false), (.obj 91 [(.val (.int .i64)), (.val (.int .i64)), (.val (.int .i64)), (.emp true)]), (.arr 5 (.int .u8))]⟩
abbrev jour_read_c4_o : List Out := [⟨.normal, [4, 7, 9], ⟨[(.one (.ptr 3 0)), (.one (.arr 4)), (.one (.val .err))], [(.obj 61 [(.val (.int .i64)), (.map 1), (.map 2), (.val (.int .i64)), (.val (.int .i64)), (.val .bool)]), (.map (.int .i64) ty2 false), (.map (.int .i64) ty2 false), (.obj 91 [(.val (.int .i64)), (.val (.int .i64)), (.val (.int .i64)), (.emp true)]), (.arr 5 (.int .u8))]⟩⟩, ⟨.ret, [4, 5, 6], ⟨[(.one (.ptr 3 0)), (.one (.val .bool)), (.one (.val .err))], [(.obj 61 [(.val (.int .i64)), (.map 1), (.map 2), (.val (.int .i64)), (.val (.int .i64)), (.val .bool)]), (.map (.int .i64) ty2 false), (.map (.int .i64) ty2 false), (.obj 91 [(.val (.int .i64)), (.val (.int .i64)), (.val (.int .i64)), (.emp true)])]⟩⟩]
def jour_read_c4 (n : Nat) : jour_read_c4_h.T → Option (OutT jour_read_c4_o)
  | ((_, _, x1, x2, _), ((x3, _, _, x4, x5, x6, _), m7, m8, (x9, x10, x11, _, _), l12, _)) =>
    match errors_Is n ((x2, ErrV.sent 118, ()), ()) with
    | some ((x13, _), _) => (
      if x13 then
        some (.inr (.inl (((), false, ErrV.nil, ()), ((x3, (), (), x4, x5, x6, ()), m7, m8, (0, 0, 0, (), ()), ()))))
      else
        if errNil x2 then
          if !x1 then
            some (.inr (.inl (((), false, ErrV.nil, ()), ((x3, (), (), x4, x5, x6, ()), m7, m8, (0, 0, 0, (), ()), ()))))
          else
            if decide ((l12.length : Int) < 12) then
              some (.inr (.inl (((), false, ErrV.nil, ()), ((x3, (), (), x4, x5, x6, ()), m7, m8, (0, 0, 0, (), ()), ()))))
            else
              some (.inl (((), (), x2, ()), ((x3, (), (), x4, x5, x6, ()), m7, m8, (x9, x10, x11, (), ()), l12, ())))
        else
          some (.inl (((), (), x2, ()), ((x3, (), (), x4, x5, x6, ()), m7, m8, (x9, x10, x11, (), ()), l12, ()))))
    | none => none
def jour_read : Nat → jour_read_ins.T → Option (OutsT jour_read_outs)
  | 0, _ => none
  | n + 1, ((_, x1, _), ((x2, _, _, x3, x4, x5, _), m6, m7, _)) =>
    match disk_Disk_Read n (((), x1, ()), ((x2, (), (), x3, x4, x5, ()), m6, m7, ())) with
    | some ((((_, _), (x8, _), (x9, _), _), _), ((x10, _, _, x11, x12, x13, _), m14, m15, l16, _)) => (
      match jour_read_c4 n (((), (), x8, x9, ()), ((x10, (), (), x11, x12, x13, ()), m14, m15, (0, 0, 0, (), ()), l16, ())) with
      | some (.inl ((_, _, x17, _), ((x18, _, _, x19, x20, x21, _), m22, m23, (x24, x25, x26, _, _), l27, _))) => (
        if !(errNil x17) then
          some ((((0, 0, 0, [], ()), (false, ()), (x17, ()), ()), ()), ((x18, (), (), x19, x20, x21, ()), m22, m23, ()))
        else
          if 0 ≤ (8 : Int) ∧ (8 : Int) ≤ (l27.length : Int) then (
            match jour_says n ((cutL l27 0 8, ()), ()) with
            | some ((x39, _), _) => (
              if 0 ≤ (8 : Int) ∧ (8 : Int) ≤ 10 ∧ (10 : Int) ≤ (l27.length : Int) then (
                match jour_says n ((cutL l27 8 10, ()), ()) with
                | some ((x40, _), _) => (
                  if 0 ≤ (10 : Int) ∧ (10 : Int) ≤ 12 ∧ (12 : Int) ≤ (l27.length : Int) then (
                    match jour_says n ((cutL l27 10 12, ()), ()) with
                    | some ((x41, _), _) => (
                      if 0 ≤ (12 : Int) ∧ (12 : Int) ≤ (l27.length : Int) then (
                        let v42 : List Int := cutL l27 12 (l27.length : Int)
                        some ((((x39, x40, x41, v42, ()), (true, ()), (ErrV.nil, ()), ()), ()), ((x18, (), (), x19, x20, x21, ()), m22, m23, ()))) else none)
                    | none => none) else none)
                | none => none) else none)
            | none => none) else none)
      | some (.inr (.inl ((_, x28, x29, _), ((x30, _, _, x31, x32, x33, _), m34, m35, (x36, x37, x38, _, _), _)))) => (
        some ((((x36, x37, x38, [], ()), (x28, ()), (x29, ()), ()), ()), ((x30, (), (), x31, x32, x33, ()), m34, m35, ())))
      | some (.inr (.inr (_))) => none
      | none => none)
    | none => none
def jour_read_H (n : Nat) : Hints := ⟨[], fun k => match k with | 6 => [7] | _ => [], fun _ => none, fun k => match k with | 4 => some ⟨[4, 7, 8, 9], jour_read_c4_h, jour_read_c4_o, fun n => jour_read_c4 n⟩ | _ => none, fun _ => none, fun _ => 0⟩
def jour_read_O (n : Nat) : FuncId → List FSpec := asc [(56, ⟨disk_Disk_Read_ins, disk_Disk_Read_outs, disk_Disk_Read n⟩), (57, ⟨errors_Is_ins, errors_Is_outs, errors_Is n⟩), (58, ⟨jour_says_ins, jour_says_outs, jour_says n⟩)]
def b38 : Code := bodyOf Tryz.f38
theorem jour_read_c4_k2 (n : Nat) : CutOk P CC (jour_read_O n) n 3 50 (jour_read_H n) ⟨[4, 7, 8, 9], jour_read_c4_h, jour_read_c4_o, fun n => jour_read_c4 n⟩ ((cutsOf b38).getD 2 (0, .skip)).2 := by
  rintro ⟨⟨⟨⟩, ⟨⟩, x1, x2, ⟨⟩⟩, ⟨⟨x3, ⟨⟩, ⟨⟩, x4, x5, x6, ⟨⟩⟩, x7, x8, ⟨x9, x10, x11, ⟨⟩, ⟨⟩⟩, x12, ⟨⟩⟩⟩
  kernel_rfl
theorem jour_read_ok {S : Nat → Addr} (ok : CfgOk P CC S) : ∀ n, SpecOk P CC S 38 ⟨jour_read_ins, jour_read_outs, jour_read n⟩ :=
  fn_all ok (O := jour_read_O) (H := jour_read_H) (fn := Tryz.f38) (body := b38) (by kernel_rfl) (by kernel_rfl) (by kernel_rfl) (by decide) (by kernel_rfl)
    (fun x => by kernel_rfl) (fun n => by
      rintro ⟨⟨⟨⟩, x1, ⟨⟩⟩, ⟨⟨x2, ⟨⟩, ⟨⟩, x3, x4, x5, ⟨⟩⟩, x6, x7, ⟨⟩⟩⟩
      kernel_rfl)
    (fun n => obl_of (by kernel_rfl) (by kernel_rfl) (lz) (cn (cn (cn (cn (cn (cn (cs (cn (cn (cz) (by kernel_rfl)) (by kernel_rfl)) (by kernel_rfl) (jour_read_c4_k2 n)) (by kernel_rfl)) (by kernel_rfl)) (by kernel_rfl)) (by kernel_rfl)) (by kernel_rfl)) (by kernel_rfl)) (hn fun _ => rfl))
    (fun n ih => asc_cons (disk_Disk_Read_ok ok n) <| asc_cons (errors_Is_ok ok n) <| asc_cons (jour_says_ok ok n) <| asc_nil)
/-! ### pendulum/jour.call -/
abbrev jour_call_ins : Sh := ⟨[(.one (.ptr 0 0)), (.one (.val (.int .i64))), (.one (.val (.int .i64))), (.one (.val (.int .i64)))], [(.obj 61 [(.val (.int .i64)), (.map 1), (.map 2), (.val (.int .i64)), (.val (.int .i64)), (.val .bool)]), (.map (.int .i64) ty2 false), (.map (.int .i64) ty2 false)]⟩
abbrev jour_call_outs : List Sh := [⟨[(.tup [(true, [(.val (.int .i64)), (.val (.int .i64)), (.val (.int .i64)), (.arr 3)]), (false, [(.val .bool)]), (false, [(.val .err)])])], [(.obj 61 [(.val (.int .i64)), (.map 1), (.map 2), (.val (.int .i64)), (.val (.int .i64)), (.val .bool)]), (.map (.int .i64) ty2 false), (.map (.int .i64) ty2 false), (.arr 5 (.int .u8))]⟩]
abbrev jour_call_l6_h : Sh := ⟨[(.one (.ptr 0 0)), (.one (.val (.int .i64))), (.one (.ptr 3 0)), (.one (.ptr 4 0)), (.one (.val (.int .i64)))], [(.obj 61 [(.val (.int .i64)), (.map 1), (.map 2), (.val (.int .i64)), (.val (.int .i64)), (.val .bool)]), (.map (.int .i64) ty2 false), (.map (.int .i64) ty2 false), (.obj 91 [(.val (.int .i64)), (.val (.int .i64)), (.val (.int .i64)), (.emp true)]), (.obj 91 [(.val (.int .i64)), (.val (.int .i64)), (.val (.int .i64)), (.arr 5)]), (.arr 5 (.int .u8))]⟩
abbrev jour_call_l6_o : List Out := [⟨(.exit 0), [8, 11], ⟨[(.one (.ptr 3 0)), (.one (.ptr 4 0))], [(.obj 61 [(.val (.int .i64)), (.map 1), (.map 2), (.val (.int .i64)), (.val (.int .i64)), (.val .bool)]), (.map (.int .i64) ty2 false), (.map (.int .i64) ty2 false), (.obj 91 [(.val (.int .i64)), (.val (.int .i64)), (.val (.int .i64)), (.emp true)]), (.obj 91 [(.val (.int .i64)), (.val (.int .i64)), (.val (.int .i64)), (.arr 5)]), (.arr 5 (.int .u8))]⟩⟩, ⟨.ret, [8, 9, 10], ⟨[(.one (.ptr 3 0)), (.one (.val .bool)), (.one (.val .err))], [(.obj 61 [(.val (.int .i64)), (.map 1), (.map 2), (.val (.int .i64)), (.val (.int .i64)), (.val .bool)]), (.map (.int .i64) ty2 false), (.map (.int .i64) ty2 false), (.obj 91 [(.val (.int .i64)), (.val (.int .i64)), (.val (.int .i64)), (.emp true)])]⟩⟩]
def jour_call_l6 (n : Nat) : Nat → jour_call_l6_h.T → Option (OutT jour_call_l6_o)
  | 0, _ => none
  | k + 1, ((_, x1, _, _, x2, _), ((x3, _, _, x4, x5, x6, _), m7, m8, (x9, x10, x11, _, _), (x12, x13, x14, _, _), l15, _)) =>
    if decide (x2 < x14) then
      let v16 : Int := IntKind.i64.wrap (x1 + x2)
      match jour_read n (((), v16, ()), ((x3, (), (), x4, x5, x6, ()), m7, m8, ())) with
      | some ((((x17, x18, x19, x20, _), (x21, _), (x22, _), _), _), ((x23, _, _, x24, x25, x26, _), m27, m28, _)) => (
        if !(errNil x22) then
          some (.inr (.inl (((), false, x22, ()), ((x23, (), (), x24, x25, x26, ()), m27, m28, (0, 0, 0, (), ()), ()))))
        else
          if !x21 then
            some (.inr (.inl (((), false, x22, ()), ((x23, (), (), x24, x25, x26, ()), m27, m28, (0, 0, 0, (), ()), ()))))
          else
            if x17 != x12 then
              some (.inr (.inl (((), false, x22, ()), ((x23, (), (), x24, x25, x26, ()), m27, m28, (0, 0, 0, (), ()), ()))))
            else
              if x18 != x2 then
                some (.inr (.inl (((), false, x22, ()), ((x23, (), (), x24, x25, x26, ()), m27, m28, (0, 0, 0, (), ()), ()))))
              else
                if x19 != x14 then
                  some (.inr (.inl (((), false, x22, ()), ((x23, (), (), x24, x25, x26, ()), m27, m28, (0, 0, 0, (), ()), ()))))
                else
                  if (l15.length + x20.length) * 1 ≤ 140737488355328 then (
                    let v29 : Int := IntKind.i64.wrap (x2 + 1)
                    jour_call_l6 n k (((), x1, (), (), v29, ()), ((x23, (), (), x24, x25, x26, ()), m27, m28, (x9, x10, x11, (), ()), (x12, x13, x14, (), ()), l15 ++ x20, ()))) else none)
      | none => none
    else
      some (.inl (((), (), ()), ((x3, (), (), x4, x5, x6, ()), m7, m8, (x9, x10, x11, (), ()), (x12, x13, x14, (), ()), l15, ())))
def jour_call : Nat → jour_call_ins.T → Option (OutsT jour_call_outs)
  | 0, _ => none
  | n + 1, ((_, x1, x2, x3, _), ((x4, _, _, x5, x6, x7, _), m8, m9, _)) =>
    match jour_read n (((), x1, ()), ((x4, (), (), x5, x6, x7, ()), m8, m9, ())) with
    | some ((((x10, x11, x12, x13, _), (x14, _), (x15, _), _), _), ((x16, _, _, x17, x18, x19, _), m20, m21, _)) => (
      if !(errNil x15) then
        some ((((0, 0, 0, (), ()), (false, ()), (x15, ()), ()), ()), ((x16, (), (), x17, x18, x19, ()), m20, m21, [], ()))
      else
        if !x14 then
          some ((((0, 0, 0, (), ()), (false, ()), (x15, ()), ()), ()), ((x16, (), (), x17, x18, x19, ()), m20, m21, [], ()))
        else
          if decide (x10 ≤ x3) then
            some ((((0, 0, 0, (), ()), (false, ()), (x15, ()), ()), ()), ((x16, (), (), x17, x18, x19, ()), m20, m21, [], ()))
          else
            if x11 != 0 then
              some ((((0, 0, 0, (), ()), (false, ()), (x15, ()), ()), ()), ((x16, (), (), x17, x18, x19, ()), m20, m21, [], ()))
            else
              if decide (x12 < 1) then
                some ((((0, 0, 0, (), ()), (false, ()), (x15, ()), ()), ()), ((x16, (), (), x17, x18, x19, ()), m20, m21, [], ()))
              else
                let v22 : Int := IntKind.i64.wrap (x2 - x1)
                if decide (x12 > v22) then
                  some ((((0, 0, 0, (), ()), (false, ()), (x15, ()), ()), ()), ((x16, (), (), x17, x18, x19, ()), m20, m21, [], ()))
                else
                  match slices_Clone_byte_byte n ((x13, ()), ()) with
                  | some ((_, _), (l23, _)) => (
                    match jour_call_l6 n n (((), x1, (), (), 1, ()), ((x16, (), (), x17, x18, x19, ()), m20, m21, (0, 0, 0, (), ()), (x10, x11, x12, (), ()), l23, ())) with
                    | some (.inl ((_, _, _), ((x24, _, _, x25, x26, x27, _), m28, m29, (x30, x31, x32, _, _), (x33, x34, x35, _, _), l36, _))) => (
                      some ((((x33, x34, x35, (), ()), (true, ()), (ErrV.nil, ()), ()), ()), ((x24, (), (), x25, x26, x27, ()), m28, m29, l36, ())))
                    | some (.inr (.inl ((_, x37, x38, _), ((x39, _, _, x40, x41, x42, _), m43, m44, (x45, x46, x47, _, _), _)))) => (
                      some ((((x45, x46, x47, (), ()), (x37, ()), (x38, ()), ()), ()), ((x39, (), (), x40, x41, x42, ()), m43, m44, [], ())))
                    | some (.inr (.inr (_))) => none
                    | none => none)
                  | none => none)
    | none => none
def jour_call_H (n : Nat) : Hints := ⟨[], fun _ => [], fun k => match k with | 6 => some ⟨[0, 1, 8, 11, 14], jour_call_l6_h, jour_call_l6_o, jour_call_l6 n⟩ | _ => none, fun _ => none, fun _ => none, fun _ => 0⟩
def jour_call_O (n : Nat) : FuncId → List FSpec := asc [(38, ⟨jour_read_ins, jour_read_outs, jour_read n⟩), (64, ⟨slices_Clone_byte_byte_ins, slices_Clone_byte_byte_outs, slices_Clone_byte_byte n⟩)]
def b54 : Code := bodyOf Tryz.f54
theorem jour_call_l6_k0 (n : Nat) : LoopOk P CC (jour_call_O n) n 3 111 (jour_call_H n) ⟨[0, 1, 8, 11, 14], jour_call_l6_h, jour_call_l6_o, jour_call_l6 n⟩ ((loopsOf b54).getD 0 .skip) := by
  refine ⟨fun _ => by kernel_rfl, ?_⟩
  rintro k ⟨⟨⟨⟩, x1, ⟨⟩, ⟨⟩, x2, ⟨⟩⟩, ⟨⟨x3, ⟨⟩, ⟨⟩, x4, x5, x6, ⟨⟩⟩, x7, x8, ⟨x9, x10, x11, ⟨⟩, ⟨⟩⟩, ⟨x12, x13, x14, ⟨⟩, ⟨⟩⟩, x15, ⟨⟩⟩⟩
  kernel_rfl
theorem jour_call_ok {S : Nat → Addr} (ok : CfgOk P CC S) : ∀ n, SpecOk P CC S 54 ⟨jour_call_ins, jour_call_outs, jour_call n⟩ :=
  fn_all ok (O := jour_call_O) (H := jour_call_H) (fn := Tryz.f54) (body := b54) (by kernel_rfl) (by kernel_rfl) (by kernel_rfl) (by decide) (by kernel_rfl)
    (fun x => by kernel_rfl) (fun n => by
      rintro ⟨⟨⟨⟩, x1, x2, x3, ⟨⟩⟩, ⟨⟨x4, ⟨⟩, ⟨⟩, x5, x6, x7, ⟨⟩⟩, x8, x9, ⟨⟩⟩⟩
      kernel_rfl)
    (fun n => obl_of (by kernel_rfl) (by kernel_rfl) (ls (lz) (by kernel_rfl) (jour_call_l6_k0 n)) (cn (cn (cn (cn (cn (cn (cn (cn (cn (cn (cn (cn (cn (cn (cn (cn (cz) (by kernel_rfl)) (by kernel_rfl)) (by kernel_rfl)) (by kernel_rfl)) (by kernel_rfl)) (by kernel_rfl)) (by kernel_rfl)) (by kernel_rfl)) (by kernel_rfl)) (by kernel_rfl)) (by kernel_rfl)) (by kernel_rfl)) (by kernel_rfl)) (by kernel_rfl)) (by kernel_rfl)) (by kernel_rfl)) (hn fun _ => rfl))
    (fun n ih => asc_cons (jour_read_ok ok n) <| asc_cons (slices_Clone_byte_byte_ok ok n) <| asc_nil)
/-! ### pendulum/wire.NewReader -/
abbrev wire_NewReader_ins : Sh := ⟨[(.one (.arr 0))], [(.arr 5 (.int .u8))]⟩
abbrev wire_NewReader_outs : List Sh := [⟨[(.one (.ptr 1 0))], [(.frz 5 (.int .u8)), (.obj 157 [(.val ty2), (.val (.int .i64)), (.val .err)])]⟩]
def wire_NewReader : Nat → wire_NewReader_ins.T → Option (OutsT wire_NewReader_outs)
  | 0, _ => none
  | n + 1, ((_, _), (l1, _)) =>
    match slices_Clone_byte_byte n ((l1, ()), ()) with
    | some ((_, _), (l2, _)) => (
      some (((), ()), (l1, (l2, 0, ErrV.nil, ()), ())))
    | none => none
def wire_NewReader_H (n : Nat) : Hints := ⟨[], fun _ => [], fun _ => none, fun _ => none, fun _ => none, fun _ => 0⟩
def wire_NewReader_O (n : Nat) : FuncId → List FSpec := asc [(64, ⟨slices_Clone_byte_byte_ins, slices_Clone_byte_byte_outs, slices_Clone_byte_byte n⟩)]
def b74 : Code := bodyOf Tryz.f74
theorem wire_NewReader_ok {S : Nat → Addr} (ok : CfgOk P CC S) : ∀ n, SpecOk P CC S 74 ⟨wire_NewReader_ins, wire_NewReader_outs, wire_NewReader n⟩ :=
  fn_all ok (O := wire_NewReader_O) (H := wire_NewReader_H) (fn := Tryz.f74) (body := b74) (by kernel_rfl) (by kernel_rfl) (by kernel_rfl) (by decide) (by kernel_rfl)
    (fun x => by kernel_rfl) (fun n => by
      rintro ⟨⟨⟨⟩, ⟨⟩⟩, ⟨x1, ⟨⟩⟩⟩
      kernel_rfl)
    (fun n => obl_of (by kernel_rfl) (by kernel_rfl) (lz) (cn (cn (cz) (by kernel_rfl)) (by kernel_rfl)) (hn fun _ => rfl))
    (fun n ih => asc_cons (slices_Clone_byte_byte_ok ok n) <| asc_nil)
/-! ### (*pendulum/wire.Reader).number -/
abbrev wire_Reader_number_ins : Sh := ⟨[(.one (.ptr 0 0))], [(.obj 157 [(.val ty2), (.val (.int .i64)), (.val .err)])]⟩
abbrev wire_Reader_number_outs : List Sh := [⟨[(.tup [(false, [(.val (.int .i64))]), (false, [(.val (.int .i64))]), (false, [(.val .err)])])], [(.obj 157 [(.val ty2), (.val (.int .i64)), (.val .err)])]⟩]
abbrev wire_Reader_number_c9_h : Sh := ⟨[(.one (.ptr 0 0)), (.one (.val (.int .u64))), (.one (.val (.int .i64))), (.one (.val (.int .u8)))], [(.obj 157 [(.val ty2), (.val (.int .i64)), (.val .err)])]⟩
abbrev wire_Reader_number_c9_o : List Out := [⟨.normal, [0, 5, 6, 7], ⟨[(.one (.ptr 0 0)), (.one (.val (.int .u64))), (.one (.val (.int .i64))), (.one (.val (.int .u8)))], [(.obj 157 [(.val ty2), (.val (.int .i64)), (.val .err)])]⟩⟩, ⟨.ret, [2, 3, 4], ⟨[(.one (.val (.int .i64))), (.one (.val (.int .i64))), (.one (.val .err))], [(.obj 157 [(.val ty2), (.val (.int .i64)), (.val .err)])]⟩⟩]
def wire_Reader_number_c9 (n : Nat) : wire_Reader_number_c9_h.T → Option (OutT wire_Reader_number_c9_o)
  | ((_, x1, x2, x3, _), ((x4, x5, x6, _), _)) =>
    if x2 == 9 then
      if decide (x3 > 1) then
        some (.inr (.inl ((0, 0, ErrV.sent 102, ()), ((x4, x5, x6, ()), ()))))
      else
        some (.inl (((), x1, x2, x3, ()), ((x4, x5, x6, ()), ())))
    else
      some (.inl (((), x1, x2, x3, ()), ((x4, x5, x6, ()), ())))
abbrev wire_Reader_number_c13_h : Sh := ⟨[(.one (.val (.int .u64))), (.one (.val (.int .i64))), (.one (.val (.int .u8)))], [(.obj 157 [(.val ty2), (.val (.int .i64)), (.val .err)])]⟩
abbrev wire_Reader_number_c13_o : List Out := [⟨.normal, [5, 6], ⟨[(.one (.val (.int .u64))), (.one (.val (.int .i64)))], [(.obj 157 [(.val ty2), (.val (.int .i64)), (.val .err)])]⟩⟩, ⟨.ret, [2, 3, 4], ⟨[(.one (.val (.int .i64))), (.one (.val (.int .i64))), (.one (.val .err))], [(.obj 157 [(.val ty2), (.val (.int .i64)), (.val .err)])]⟩⟩]
def wire_Reader_number_c13 (n : Nat) : wire_Reader_number_c13_h.T → Option (OutT wire_Reader_number_c13_o)
  | ((x1, x2, x3, _), ((x4, x5, x6, _), _)) =>
    if x3 == 0 then
      if decide (x2 > 0) then
        some (.inr (.inl ((0, 0, ErrV.sent 102, ()), ((x4, x5, x6, ()), ()))))
      else
        some (.inl ((x1, x2, ()), ((x4, x5, x6, ()), ())))
    else
      some (.inl ((x1, x2, ()), ((x4, x5, x6, ()), ())))
abbrev wire_Reader_number_l4_h : Sh := ⟨[(.one (.ptr 0 0)), (.one (.val (.int .u64))), (.one (.val (.int .i64)))], [(.obj 157 [(.val ty2), (.val (.int .i64)), (.val .err)])]⟩
abbrev wire_Reader_number_l4_o : List Out := [⟨.ret, [2, 3, 4], ⟨[(.one (.val (.int .i64))), (.one (.val (.int .i64))), (.one (.val .err))], [(.obj 157 [(.val ty2), (.val (.int .i64)), (.val .err)])]⟩⟩]
def wire_Reader_number_l4 (n : Nat) : Nat → wire_Reader_number_l4_h.T → Option (OutT wire_Reader_number_l4_o)
  | 0, _ => none
  | k + 1, ((_, x1, x2, _), ((x3, x4, x5, _), _)) =>
    let v6 : Int := IntKind.i64.wrap (x4 + x2)
    if decide (v6 ≥ (x3.length : Int)) then
      some (.inl ((0, 0, ErrV.sent 101, ()), ((x3, x4, x5, ()), ())))
    else
      let v7 : Int := IntKind.i64.wrap (x4 + x2)
      if 0 ≤ v7 ∧ v7 < (x3.length : Int) then (
        let v8 : Int := rdT ((.int .u8) : Ty) x3 v7
        match wire_Reader_number_c9 n (((), x1, x2, v8, ()), ((x3, x4, x5, ()), ())) with
        | some (.inl ((_, x9, x10, x11, _), ((x12, x13, x14, _), _))) => (
          let v21 : Int := bitsOp .andNot .u8 x11 128
          let v22 : Int := IntKind.i64.wrap (7 * x10)
          if v22 < 0 then
            none
          else
            let v23 : Int := shlOp .u64 (IntKind.u64.wrap v21) v22
            if decide (x11 ≥ 128) then
              let v40 : Int := IntKind.i64.wrap (x10 + 1)
              wire_Reader_number_l4 n k (((), bitsOp .or .u64 x9 v23, v40, ()), ((x12, x13, x14, ()), ()))
            else
              match wire_Reader_number_c13 n ((bitsOp .or .u64 x9 v23, x10, x11, ()), ((x12, x13, x14, ()), ())) with
              | some (.inl ((x24, x25, _), ((x26, x27, x28, _), _))) => (
                let v35 : Int := IntKind.i64.wrap (shrOp .u64 x24 1)
                let v36 : Int := IntKind.i64.wrap (bitsOp .and .u64 x24 1)
                let v37 : Int := IntKind.i64.wrap (0 - v36)
                let v38 : Int := bitsOp .xor .i64 v35 v37
                let v39 : Int := IntKind.i64.wrap (x25 + 1)
                some (.inl ((v38, v39, ErrV.nil, ()), ((x26, x27, x28, ()), ()))))
              | some (.inr (.inl ((x29, x30, x31, _), ((x32, x33, x34, _), _)))) => (
                some (.inl ((x29, x30, x31, ()), ((x32, x33, x34, ()), ()))))
              | some (.inr (.inr (_))) => none
              | none => none)
        | some (.inr (.inl ((x15, x16, x17, _), ((x18, x19, x20, _), _)))) => (
          some (.inl ((x15, x16, x17, ()), ((x18, x19, x20, ()), ()))))
        | some (.inr (.inr (_))) => none
        | none => none) else none
def wire_Reader_number : Nat → wire_Reader_number_ins.T → Option (OutsT wire_Reader_number_outs)
  | 0, _ => none
  | n + 1, ((_, _), ((x1, x2, x3, _), _)) =>
    match wire_Reader_number_l4 n n (((), 0, 0, ()), ((x1, x2, x3, ()), ())) with
    | some (.inl ((x4, x5, x6, _), ((x7, x8, x9, _), _))) => (
      some ((((x4, ()), (x5, ()), (x6, ()), ()), ()), ((x7, x8, x9, ()), ())))
    | some (.inr (_)) => none
    | none => none
def wire_Reader_number_H (n : Nat) : Hints := ⟨[], fun _ => [], fun k => match k with | 4 => some ⟨[0, 5, 6], wire_Reader_number_l4_h, wire_Reader_number_l4_o, wire_Reader_number_l4 n⟩ | _ => none, fun k => match k with | 9 => some ⟨[0, 5, 6, 7], wire_Reader_number_c9_h, wire_Reader_number_c9_o, fun n => wire_Reader_number_c9 n⟩ | 13 => some ⟨[5, 6, 7], wire_Reader_number_c13_h, wire_Reader_number_c13_o, fun n => wire_Reader_number_c13 n⟩ | _ => none, fun _ => none, fun _ => 0⟩
def wire_Reader_number_O (n : Nat) : FuncId → List FSpec := asc []
def b97 : Code := bodyOf Tryz.f97
theorem wire_Reader_number_l4_k0 (n : Nat) : LoopOk P CC (wire_Reader_number_O n) n 1 69 (wire_Reader_number_H n) ⟨[0, 5, 6], wire_Reader_number_l4_h, wire_Reader_number_l4_o, wire_Reader_number_l4 n⟩ ((loopsOf b97).getD 0 .skip) := by
  refine ⟨fun _ => by kernel_rfl, ?_⟩
  rintro k ⟨⟨⟨⟩, x1, x2, ⟨⟩⟩, ⟨⟨x3, x4, x5, ⟨⟩⟩, ⟨⟩⟩⟩
  kernel_rfl
theorem wire_Reader_number_c9_k8 (n : Nat) : CutOk P CC (wire_Reader_number_O n) n 1 69 (wire_Reader_number_H n) ⟨[0, 5, 6, 7], wire_Reader_number_c9_h, wire_Reader_number_c9_o, fun n => wire_Reader_number_c9 n⟩ ((cutsOf b97).getD 8 (0, .skip)).2 := by
  rintro ⟨⟨⟨⟩, x1, x2, x3, ⟨⟩⟩, ⟨⟨x4, x5, x6, ⟨⟩⟩, ⟨⟩⟩⟩
  kernel_rfl
theorem wire_Reader_number_c13_k14 (n : Nat) : CutOk P CC (wire_Reader_number_O n) n 1 69 (wire_Reader_number_H n) ⟨[5, 6, 7], wire_Reader_number_c13_h, wire_Reader_number_c13_o, fun n => wire_Reader_number_c13 n⟩ ((cutsOf b97).getD 14 (0, .skip)).2 := by
  rintro ⟨⟨x1, x2, x3, ⟨⟩⟩, ⟨⟨x4, x5, x6, ⟨⟩⟩, ⟨⟩⟩⟩
  kernel_rfl
theorem wire_Reader_number_ok {S : Nat → Addr} (ok : CfgOk P CC S) : ∀ n, SpecOk P CC S 97 ⟨wire_Reader_number_ins, wire_Reader_number_outs, wire_Reader_number n⟩ :=
  fn_all ok (O := wire_Reader_number_O) (H := wire_Reader_number_H) (fn := Tryz.f97) (body := b97) (by kernel_rfl) (by kernel_rfl) (by kernel_rfl) (by decide) (by kernel_rfl)
    (fun x => by kernel_rfl) (fun n => by
      rintro ⟨⟨⟨⟩, ⟨⟩⟩, ⟨⟨x1, x2, x3, ⟨⟩⟩, ⟨⟩⟩⟩
      kernel_rfl)
    (fun n => obl_of (by kernel_rfl) (by kernel_rfl) (ls (lz) (by kernel_rfl) (wire_Reader_number_l4_k0 n)) (cn (cn (cn (cs (cn (cn (cn (cn (cn (cs (cn (cn (cn (cn (cn (cn (cn (cn (cz) (by kernel_rfl)) (by kernel_rfl)) (by kernel_rfl)) (by kernel_rfl)) (by kernel_rfl)) (by kernel_rfl)) (by kernel_rfl)) (by kernel_rfl)) (by kernel_rfl) (wire_Reader_number_c9_k8 n)) (by kernel_rfl)) (by kernel_rfl)) (by kernel_rfl)) (by kernel_rfl)) (by kernel_rfl)) (by kernel_rfl) (wire_Reader_number_c13_k14 n)) (by kernel_rfl)) (by kernel_rfl)) (by kernel_rfl)) (hn fun _ => rfl))
    (fun n ih => asc_nil)
/-! ### (*pendulum/wire.Reader).fail -/
abbrev wire_Reader_fail_ins : Sh := ⟨[(.one (.ptr 0 0)), (.one (.val .err))], [(.obj 157 [(.val ty2), (.val (.int .i64)), (.val .err)])]⟩
abbrev wire_Reader_fail_outs : List Sh := [⟨[(.tup [])], [(.obj 157 [(.val ty2), (.val (.int .i64)), (.val .err)])]⟩]
def wire_Reader_fail : Nat → wire_Reader_fail_ins.T → Option (OutsT wire_Reader_fail_outs)
  | 0, _ => none
  | n + 1, ((_, x1, _), ((x2, x3, x4, _), _)) =>
    some (((), ()), ((x2, x3, ErrV.at_ x3 x1, ()), ()))
def wire_Reader_fail_H (n : Nat) : Hints := ⟨[], fun _ => [], fun _ => none, fun _ => none, fun _ => none, fun _ => 0⟩
def wire_Reader_fail_O (n : Nat) : FuncId → List FSpec := asc []
def b98 : Code := bodyOf Tryz.f98
theorem wire_Reader_fail_ok {S : Nat → Addr} (ok : CfgOk P CC S) : ∀ n, SpecOk P CC S 98 ⟨wire_Reader_fail_ins, wire_Reader_fail_outs, wire_Reader_fail n⟩ :=
  fn_all ok (O := wire_Reader_fail_O) (H := wire_Reader_fail_H) (fn := Tryz.f98) (body := b98) (by kernel_rfl) (by kernel_rfl) (by kernel_rfl) (by decide) (by kernel_rfl)
    (fun x => by kernel_rfl) (fun n => by
      rintro ⟨⟨⟨⟩, x1, ⟨⟩⟩, ⟨⟨x2, x3, x4, ⟨⟩⟩, ⟨⟩⟩⟩
      kernel_rfl)
    (fun n => obl_of (by kernel_rfl) (by kernel_rfl) (lz) (cz) (hn fun _ => rfl))
    (fun n ih => asc_nil)
/-! ### (*pendulum/wire.Reader).Num -/
abbrev wire_Reader_Num_ins : Sh := ⟨[(.one (.ptr 0 0)), (.one (.val (.int .i64))), (.one (.val (.int .i64)))], [(.obj 157 [(.val ty2), (.val (.int .i64)), (.val .err)])]⟩
abbrev wire_Reader_Num_outs : List Sh := [⟨[(.one (.val (.int .i64)))], [(.obj 157 [(.val ty2), (.val (.int .i64)), (.val .err)])]⟩]
abbrev wire_Reader_Num_c6_h : Sh := ⟨[(.one (.ptr 0 0)), (.one (.val (.int .i64))), (.one (.val (.int .i64))), (.one (.val (.int .i64))), (.one (.val (.int .i64))), (.one (.val .err))], [(.obj 157 [(.val ty2), (.val (.int .i64)), (.val .err)])]⟩
abbrev wire_Reader_Num_c6_o : List Out := [⟨.normal, [0, 7, 8, 9], ⟨[(.one (.ptr 0 0)), (.one (.val (.int .i64))), (.one (.val (.int .i64))), (.one (.val .err))], [(.obj 157 [(.val ty2), (.val (.int .i64)), (.val .err)])]⟩⟩]
def wire_Reader_Num_c6 (n : Nat) : wire_Reader_Num_c6_h.T → Option (OutT wire_Reader_Num_c6_o)
  | ((_, x1, x2, x3, x4, x5, _), ((x6, x7, x8, _), _)) =>
    if errNil x5 then
      if decide (x3 < x1) then
        some (.inl (((), x3, x4, ErrV.sent 104, ()), ((x6, x7, x8, ()), ())))
      else
        if decide (x3 > x2) then
          some (.inl (((), x3, x4, ErrV.sent 104, ()), ((x6, x7, x8, ()), ())))
        else
          some (.inl (((), x3, x4, x5, ()), ((x6, x7, x8, ()), ())))
    else
      some (.inl (((), x3, x4, x5, ()), ((x6, x7, x8, ()), ())))
def wire_Reader_Num : Nat → wire_Reader_Num_ins.T → Option (OutsT wire_Reader_Num_outs)
  | 0, _ => none
  | n + 1, ((_, x1, x2, _), ((x3, x4, x5, _), _)) =>
    if !(errNil x5) then
      some ((0, ()), ((x3, x4, x5, ()), ()))
    else
      match wire_Reader_number n (((), ()), ((x3, x4, x5, ()), ())) with
      | some ((((x6, _), (x7, _), (x8, _), _), _), ((x9, x10, x11, _), _)) => (
        match wire_Reader_Num_c6 n (((), x1, x2, x6, x7, x8, ()), ((x9, x10, x11, ()), ())) with
        | some (.inl ((_, x12, x13, x14, _), ((x15, x16, x17, _), _))) => (
          if !(errNil x14) then
            match wire_Reader_fail n (((), x14, ()), ((x15, x16, x17, ()), ())) with
            | some ((_, _), ((x18, x19, x20, _), _)) => (
              some ((0, ()), ((x18, x19, x20, ()), ())))
            | none => none
          else
            let v21 : Int := IntKind.i64.wrap (x16 + x13)
            some ((x12, ()), ((x15, v21, x17, ()), ())))
        | some (.inr (_)) => none
        | none => none)
      | none => none
def wire_Reader_Num_H (n : Nat) : Hints := ⟨[], fun _ => [], fun _ => none, fun k => match k with | 6 => some ⟨[0, 1, 2, 7, 8, 9], wire_Reader_Num_c6_h, wire_Reader_Num_c6_o, fun n => wire_Reader_Num_c6 n⟩ | _ => none, fun _ => none, fun _ => 0⟩
def wire_Reader_Num_O (n : Nat) : FuncId → List FSpec := asc [(97, ⟨wire_Reader_number_ins, wire_Reader_number_outs, wire_Reader_number n⟩), (98, ⟨wire_Reader_fail_ins, wire_Reader_fail_outs, wire_Reader_fail n⟩)]
def b75 : Code := bodyOf Tryz.f75
theorem wire_Reader_Num_c6_k5 (n : Nat) : CutOk P CC (wire_Reader_Num_O n) n 1 48 (wire_Reader_Num_H n) ⟨[0, 1, 2, 7, 8, 9], wire_Reader_Num_c6_h, wire_Reader_Num_c6_o, fun n => wire_Reader_Num_c6 n⟩ ((cutsOf b75).getD 5 (0, .skip)).2 := by
  rintro ⟨⟨⟨⟩, x1, x2, x3, x4, x5, ⟨⟩⟩, ⟨⟨x6, x7, x8, ⟨⟩⟩, ⟨⟩⟩⟩
  kernel_rfl
theorem wire_Reader_Num_ok {S : Nat → Addr} (ok : CfgOk P CC S) : ∀ n, SpecOk P CC S 75 ⟨wire_Reader_Num_ins, wire_Reader_Num_outs, wire_Reader_Num n⟩ :=
  fn_all ok (O := wire_Reader_Num_O) (H := wire_Reader_Num_H) (fn := Tryz.f75) (body := b75) (by kernel_rfl) (by kernel_rfl) (by kernel_rfl) (by decide) (by kernel_rfl)
    (fun x => by kernel_rfl) (fun n => by
      rintro ⟨⟨⟨⟩, x1, x2, ⟨⟩⟩, ⟨⟨x3, x4, x5, ⟨⟩⟩, ⟨⟩⟩⟩
      kernel_rfl)
    (fun n => obl_of (by kernel_rfl) (by kernel_rfl) (lz) (cn (cn (cn (cn (cn (cn (cn (cs (cn (cn (cn (cn (cn (cz) (by kernel_rfl)) (by kernel_rfl)) (by kernel_rfl)) (by kernel_rfl)) (by kernel_rfl)) (by kernel_rfl) (wire_Reader_Num_c6_k5 n)) (by kernel_rfl)) (by kernel_rfl)) (by kernel_rfl)) (by kernel_rfl)) (by kernel_rfl)) (by kernel_rfl)) (by kernel_rfl)) (hn fun _ => rfl))
    (fun n ih => asc_cons (wire_Reader_number_ok ok n) <| asc_cons (wire_Reader_fail_ok ok n) <| asc_nil)
/-! ### (*pendulum/wire.Reader).Err -/
abbrev wire_Reader_Err_ins : Sh := ⟨[(.one (.ptr 0 0))], [(.obj 157 [(.val ty2), (.val (.int .i64)), (.val .err)])]⟩
abbrev wire_Reader_Err_outs : List Sh := [⟨[(.one (.val .err))], [(.obj 157 [(.val ty2), (.val (.int .i64)), (.val .err)])]⟩]
def wire_Reader_Err : Nat → wire_Reader_Err_ins.T → Option (OutsT wire_Reader_Err_outs)
  | 0, _ => none
  | n + 1, ((_, _), ((x1, x2, x3, _), _)) =>
    some ((x3, ()), ((x1, x2, x3, ()), ()))
def wire_Reader_Err_H (n : Nat) : Hints := ⟨[], fun _ => [], fun _ => none, fun _ => none, fun _ => none, fun _ => 0⟩
def wire_Reader_Err_O (n : Nat) : FuncId → List FSpec := asc []
def b76 : Code := bodyOf Tryz.f76
theorem wire_Reader_Err_ok {S : Nat → Addr} (ok : CfgOk P CC S) : ∀ n, SpecOk P CC S 76 ⟨wire_Reader_Err_ins, wire_Reader_Err_outs, wire_Reader_Err n⟩ :=
  fn_all ok (O := wire_Reader_Err_O) (H := wire_Reader_Err_H) (fn := Tryz.f76) (body := b76) (by kernel_rfl) (by kernel_rfl) (by kernel_rfl) (by decide) (by kernel_rfl)
    (fun x => by kernel_rfl) (fun n => by
      rintro ⟨⟨⟨⟩, ⟨⟩⟩, ⟨⟨x1, x2, x3, ⟨⟩⟩, ⟨⟩⟩⟩
      kernel_rfl)
    (fun n => obl_of (by kernel_rfl) (by kernel_rfl) (lz) (cn (cn (cz) (by kernel_rfl)) (by kernel_rfl)) (hn fun _ => rfl))
    (fun n ih => asc_nil)
/-! ### (*pendulum/wire.Reader).Left -/
abbrev wire_Reader_Left_ins : Sh := ⟨[(.one (.ptr 0 0))], [(.obj 157 [(.val ty2), (.val (.int .i64)), (.val .err)])]⟩
abbrev wire_Reader_Left_outs : List Sh := [⟨[(.one (.val (.int .i64)))], [(.obj 157 [(.val ty2), (.val (.int .i64)), (.val .err)])]⟩]
def wire_Reader_Left : Nat → wire_Reader_Left_ins.T → Option (OutsT wire_Reader_Left_outs)
  | 0, _ => none
  | n + 1, ((_, _), ((x1, x2, x3, _), _)) =>
    let v4 : Int := IntKind.i64.wrap ((x1.length : Int) - x2)
    some ((v4, ()), ((x1, x2, x3, ()), ()))
def wire_Reader_Left_H (n : Nat) : Hints := ⟨[], fun _ => [], fun _ => none, fun _ => none, fun _ => none, fun _ => 0⟩
def wire_Reader_Left_O (n : Nat) : FuncId → List FSpec := asc []
def b99 : Code := bodyOf Tryz.f99
theorem wire_Reader_Left_ok {S : Nat → Addr} (ok : CfgOk P CC S) : ∀ n, SpecOk P CC S 99 ⟨wire_Reader_Left_ins, wire_Reader_Left_outs, wire_Reader_Left n⟩ :=
  fn_all ok (O := wire_Reader_Left_O) (H := wire_Reader_Left_H) (fn := Tryz.f99) (body := b99) (by kernel_rfl) (by kernel_rfl) (by kernel_rfl) (by decide) (by kernel_rfl)
    (fun x => by kernel_rfl) (fun n => by
      rintro ⟨⟨⟨⟩, ⟨⟩⟩, ⟨⟨x1, x2, x3, ⟨⟩⟩, ⟨⟩⟩⟩
      kernel_rfl)
    (fun n => obl_of (by kernel_rfl) (by kernel_rfl) (lz) (cn (cn (cz) (by kernel_rfl)) (by kernel_rfl)) (hn fun _ => rfl))
    (fun n ih => asc_nil)
/-! ### (*pendulum/wire.Reader).Text -/
abbrev wire_Reader_Text_ins : Sh := ⟨[(.one (.ptr 0 0)), (.one (.val (.int .i64)))], [(.obj 157 [(.val ty2), (.val (.int .i64)), (.val .err)])]⟩
abbrev wire_Reader_Text_outs : List Sh := [⟨[(.one (.val .str))], [(.obj 157 [(.val ty2), (.val (.int .i64)), (.val .err)])]⟩]
def wire_Reader_Text : Nat → wire_Reader_Text_ins.T → Option (OutsT wire_Reader_Text_outs)
  | 0, _ => none
  | n + 1, ((_, x1, _), ((x2, x3, x4, _), _)) =>
    match wire_Reader_Num n (((), 0, x1, ()), ((x2, x3, x4, ()), ())) with
    | some ((x5, _), ((x6, x7, x8, _), _)) => (
      if !(errNil x8) then
        some (((⟨#[]⟩ : ByteArray), ()), ((x6, x7, x8, ()), ()))
      else
        match wire_Reader_Left n (((), ()), ((x6, x7, x8, ()), ())) with
        | some ((x9, _), ((x10, x11, x12, _), _)) => (
          if decide (x5 > x9) then
            match wire_Reader_fail n (((), ErrV.sent 101, ()), ((x10, x3, x12, ()), ())) with
            | some ((_, _), ((x13, x14, x15, _), _)) => (
              some (((⟨#[]⟩ : ByteArray), ()), ((x13, x14, x15, ()), ())))
            | none => none
          else
            let v16 : Int := IntKind.i64.wrap (x11 + x5)
            let v17 : Int := IntKind.i64.wrap (v16 - x5)
            if 0 ≤ v17 ∧ v17 ≤ v16 ∧ v16 ≤ (x10.length : Int) then (
              let v18 : ByteArray := strOfNums (cutL x10 v17 v16)
              some ((v18, ()), ((x10, v16, x12, ()), ()))) else none)
        | none => none)
    | none => none
def wire_Reader_Text_H (n : Nat) : Hints := ⟨[], fun _ => [], fun _ => none, fun _ => none, fun _ => none, fun _ => 0⟩
def wire_Reader_Text_O (n : Nat) : FuncId → List FSpec := asc [(75, ⟨wire_Reader_Num_ins, wire_Reader_Num_outs, wire_Reader_Num n⟩), (98, ⟨wire_Reader_fail_ins, wire_Reader_fail_outs, wire_Reader_fail n⟩), (99, ⟨wire_Reader_Left_ins, wire_Reader_Left_outs, wire_Reader_Left n⟩)]
def b77 : Code := bodyOf Tryz.f77
theorem wire_Reader_Text_ok {S : Nat → Addr} (ok : CfgOk P CC S) : ∀ n, SpecOk P CC S 77 ⟨wire_Reader_Text_ins, wire_Reader_Text_outs, wire_Reader_Text n⟩ :=
  fn_all ok (O := wire_Reader_Text_O) (H := wire_Reader_Text_H) (fn := Tryz.f77) (body := b77) (by kernel_rfl) (by kernel_rfl) (by kernel_rfl) (by decide) (by kernel_rfl)
    (fun x => by kernel_rfl) (fun n => by
      rintro ⟨⟨⟨⟩, x1, ⟨⟩⟩, ⟨⟨x2, x3, x4, ⟨⟩⟩, ⟨⟩⟩⟩
      kernel_rfl)
    (fun n => obl_of (by kernel_rfl) (by kernel_rfl) (lz) (cn (cn (cn (cn (cn (cn (cn (cn (cn (cn (cn (cn (cn (cz) (by kernel_rfl)) (by kernel_rfl)) (by kernel_rfl)) (by kernel_rfl)) (by kernel_rfl)) (by kernel_rfl)) (by kernel_rfl)) (by kernel_rfl)) (by kernel_rfl)) (by kernel_rfl)) (by kernel_rfl)) (by kernel_rfl)) (by kernel_rfl)) (hn fun _ => rfl))
    (fun n ih => asc_cons (wire_Reader_Num_ok ok n) <| asc_cons (wire_Reader_fail_ok ok n) <| asc_cons (wire_Reader_Left_ok ok n) <| asc_nil)
/-! ### (*pendulum/wire.Reader).Bool -/
abbrev wire_Reader_Bool_ins : Sh := ⟨[(.one (.ptr 0 0))], [(.obj 157 [(.val ty2), (.val (.int .i64)), (.val .err)])]⟩
abbrev wire_Reader_Bool_outs : List Sh := [⟨[(.one (.val .bool))], [(.obj 157 [(.val ty2), (.val (.int .i64)), (.val .err)])]⟩]
def wire_Reader_Bool : Nat → wire_Reader_Bool_ins.T → Option (OutsT wire_Reader_Bool_outs)
  | 0, _ => none
  | n + 1, ((_, _), ((x1, x2, x3, _), _)) =>
    match wire_Reader_Num n (((), 0, 1, ()), ((x1, x2, x3, ()), ())) with
    | some ((x4, _), ((x5, x6, x7, _), _)) => (
      some ((x4 == 1, ()), ((x5, x6, x7, ()), ())))
    | none => none
def wire_Reader_Bool_H (n : Nat) : Hints := ⟨[], fun _ => [], fun _ => none, fun _ => none, fun _ => none, fun _ => 0⟩
def wire_Reader_Bool_O (n : Nat) : FuncId → List FSpec := asc [(75, ⟨wire_Reader_Num_ins, wire_Reader_Num_outs, wire_Reader_Num n⟩)]
def b78 : Code := bodyOf Tryz.f78
theorem wire_Reader_Bool_ok {S : Nat → Addr} (ok : CfgOk P CC S) : ∀ n, SpecOk P CC S 78 ⟨wire_Reader_Bool_ins, wire_Reader_Bool_outs, wire_Reader_Bool n⟩ :=
  fn_all ok (O := wire_Reader_Bool_O) (H := wire_Reader_Bool_H) (fn := Tryz.f78) (body := b78) (by kernel_rfl) (by kernel_rfl) (by kernel_rfl) (by decide) (by kernel_rfl)
    (fun x => by kernel_rfl) (fun n => by
      rintro ⟨⟨⟨⟩, ⟨⟩⟩, ⟨⟨x1, x2, x3, ⟨⟩⟩, ⟨⟩⟩⟩
      kernel_rfl)
    (fun n => obl_of (by kernel_rfl) (by kernel_rfl) (lz) (cn (cn (cz) (by kernel_rfl)) (by kernel_rfl)) (hn fun _ => rfl))
    (fun n ih => asc_cons (wire_Reader_Num_ok ok n) <| asc_nil)
/-! ### pendulum/jour.parse -/
abbrev jour_parse_ins : Sh := ⟨[(.one (.arr 0))], [(.arr 5 (.int .u8))]⟩
abbrev jour_parse_outs : List Sh := [⟨[(.tup [(false, [(.val (.int .i64))]), (false, [(.arr 1)]), (false, [(.val .bool)])])], [(.frz 5 (.int .u8)), (.arr 55 ty0)]⟩]
abbrev jour_parse_l5_h : Sh := ⟨[(.one (.ptr 1 0)), (.one (.val (.int .i64))), (.one (.arr 2)), (.one (.val (.int .i64)))], [(.frz 5 (.int .u8)), (.obj 157 [(.val ty2), (.val (.int .i64)), (.val .err)]), (.arr 55 ty0)]⟩
abbrev jour_parse_l5_o : List Out := [⟨(.exit 0), [5, 6, 7], ⟨[(.one (.ptr 1 0)), (.one (.val (.int .i64))), (.one (.arr 2))], [(.frz 5 (.int .u8)), (.obj 157 [(.val ty2), (.val (.int .i64)), (.val .err)]), (.arr 55 ty0)]⟩⟩]
def jour_parse_l5 (n : Nat) : Nat → jour_parse_l5_h.T → Option (OutT jour_parse_l5_o)
  | 0, _ => none
  | k + 1, ((_, x1, _, x2, _), (l3, (x4, x5, x6, _), l7, _)) =>
    if decide (x2 > 0) then
      match wire_Reader_Err n (((), ()), ((x4, x5, x6, ()), ())) with
      | some ((x8, _), ((x9, x10, x11, _), _)) => (
        if errNil x8 then
          match wire_Reader_Text n (((), 40, ()), ((x9, x10, x11, ()), ())) with
          | some ((x12, _), ((x13, x14, x15, _), _)) => (
            match wire_Reader_Bool n (((), ()), ((x13, x14, x15, ()), ())) with
            | some ((x16, _), ((x17, x18, x19, _), _)) => (
              if !x16 then
                match wire_Reader_Text n (((), 32768, ()), ((x17, x18, x19, ()), ())) with
                | some ((x20, _), ((x21, x22, x23, _), _)) => (
                  if (l7.length + ([(x12, (x20, x16))] : List ty0.T).length) * 40 ≤ 140737488355328 then (
                    let v24 : Int := IntKind.i64.wrap (x2 - 1)
                    jour_parse_l5 n k (((), x1, (), v24, ()), (l3, (x21, x22, x23, ()), l7 ++ [(x12, (x20, x16))], ()))) else none)
                | none => none
              else
                if (l7.length + ([(x12, ((⟨#[]⟩ : ByteArray), x16))] : List ty0.T).length) * 40 ≤ 140737488355328 then (
                  let v25 : Int := IntKind.i64.wrap (x2 - 1)
                  jour_parse_l5 n k (((), x1, (), v25, ()), (l3, (x17, x18, x19, ()), l7 ++ [(x12, ((⟨#[]⟩ : ByteArray), x16))], ()))) else none)
            | none => none)
          | none => none
        else
          some (.inl (((), x1, (), ()), (l3, (x9, x10, x11, ()), l7, ()))))
      | none => none
    else
      some (.inl (((), x1, (), ()), (l3, (x4, x5, x6, ()), l7, ())))
def jour_parse : Nat → jour_parse_ins.T → Option (OutsT jour_parse_outs)
  | 0, _ => none
  | n + 1, ((_, _), (l1, _)) =>
    match wire_NewReader n (((), ()), (l1, ())) with
    | some ((_, _), (l2, (x3, x4, x5, _), _)) => (
      match wire_Reader_Num n (((), 0, 1, ()), ((x3, x4, x5, ()), ())) with
      | some ((x6, _), ((x7, x8, x9, _), _)) => (
        match wire_Reader_Num n (((), 0, 1073741824, ()), ((x7, x8, x9, ()), ())) with
        | some ((x10, _), ((x11, x12, x13, _), _)) => (
          match jour_parse_l5 n n (((), x6, (), x10, ()), (l2, (x11, x12, x13, ()), [], ())) with
          | some (.inl ((_, x14, _, _), (l15, (x16, x17, x18, _), l19, _))) => (
            match wire_Reader_Err n (((), ()), ((x16, x17, x18, ()), ())) with
            | some ((x20, _), ((x21, x22, x23, _), _)) => (
              some ((((x14, ()), ((), ()), (errNil x20, ()), ()), ()), (l15, l19, ())))
            | none => none)
          | some (.inr (_)) => none
          | none => none)
        | none => none)
      | none => none)
    | none => none
def jour_parse_H (n : Nat) : Hints := ⟨[], fun _ => [], fun k => match k with | 5 => some ⟨[5, 6, 7, 8], jour_parse_l5_h, jour_parse_l5_o, jour_parse_l5 n⟩ | _ => none, fun _ => none, fun _ => none, fun _ => 0⟩
def jour_parse_O (n : Nat) : FuncId → List FSpec := asc [(74, ⟨wire_NewReader_ins, wire_NewReader_outs, wire_NewReader n⟩), (75, ⟨wire_Reader_Num_ins, wire_Reader_Num_outs, wire_Reader_Num n⟩), (76, ⟨wire_Reader_Err_ins, wire_Reader_Err_outs, wire_Reader_Err n⟩), (77, ⟨wire_Reader_Text_ins, wire_Reader_Text_outs, wire_Reader_Text n⟩), (78, ⟨wire_Reader_Bool_ins, wire_Reader_Bool_outs, wire_Reader_Bool n⟩)]
def b55 : Code := bodyOf Tryz.f55
theorem jour_parse_l5_k0 (n : Nat) : LoopOk P CC (jour_parse_O n) n 1 46 (jour_parse_H n) ⟨[5, 6, 7, 8], jour_parse_l5_h, jour_parse_l5_o, jour_parse_l5 n⟩ ((loopsOf b55).getD 0 .skip) := by
  refine ⟨fun _ => by kernel_rfl, ?_⟩
  rintro k ⟨⟨⟨⟩, x1, ⟨⟩, x2, ⟨⟩⟩, ⟨x3, ⟨x4, x5, x6, ⟨⟩⟩, x7, ⟨⟩⟩⟩
  kernel_rfl
theorem jour_parse_ok {S : Nat → Addr} (ok : CfgOk P CC S) : ∀ n, SpecOk P CC S 55 ⟨jour_parse_ins, jour_parse_outs, jour_parse n⟩ :=
  fn_all ok (O := jour_parse_O) (H := jour_parse_H) (fn := Tryz.f55) (body := b55) (by kernel_rfl) (by kernel_rfl) (by kernel_rfl) (by decide) (by kernel_rfl)
    (fun x => by kernel_rfl) (fun n => by
      rintro ⟨⟨⟨⟩, ⟨⟩⟩, ⟨x1, ⟨⟩⟩⟩
      kernel_rfl)
    (fun n => obl_of (by kernel_rfl) (by kernel_rfl) (ls (lz) (by kernel_rfl) (jour_parse_l5_k0 n)) (cn (cn (cn (cn (cn (cn (cn (cn (cn (cn (cn (cn (cn (cn (cz) (by kernel_rfl)) (by kernel_rfl)) (by kernel_rfl)) (by kernel_rfl)) (by kernel_rfl)) (by kernel_rfl)) (by kernel_rfl)) (by kernel_rfl)) (by kernel_rfl)) (by kernel_rfl)) (by kernel_rfl)) (by kernel_rfl)) (by kernel_rfl)) (by kernel_rfl)) (hn fun _ => rfl))
    (fun n ih => asc_cons (wire_NewReader_ok ok n) <| asc_cons (wire_Reader_Num_ok ok n) <| asc_cons (wire_Reader_Err_ok ok n) <| asc_cons (wire_Reader_Text_ok ok n) <| asc_cons (wire_Reader_Bool_ok ok n) <| asc_nil)
/-! ### pendulum/jour.apply -/
abbrev jour_apply_ins : Sh := ⟨[(.one (.map 0)), (.one (.val ty3))], [(.map .str .str false)]⟩
abbrev jour_apply_outs : List Sh := [⟨[(.tup [])], [(.map .str .str false)]⟩]
abbrev jour_apply_l1_h : Sh := ⟨[(.one (.map 0)), (.one (.val ty3)), (.one (.val (.int .i64))), (.one (.val (.int .i64)))], [(.map .str .str false)]⟩
abbrev jour_apply_l1_o : List Out := [⟨(.exit 0), [], ⟨[], [(.map .str .str false)]⟩⟩]
def jour_apply_l1 (n : Nat) : Nat → jour_apply_l1_h.T → Option (OutT jour_apply_l1_o)
  | 0, _ => none
  | k + 1, ((_, x1, x2, x3, _), (m4, _)) =>
    if decide (x3 < x2) then
      if 0 ≤ x3 ∧ x3 < (x1.length : Int) then (
        if ((rdT ty0 x1 x3).2).2 then
          let v5 : Int := IntKind.i64.wrap (x3 + 1)
          jour_apply_l1 n k (((), x1, x2, v5, ()), (mdel (keyEq (.str : Ty)) ((rdT ty0 x1 x3).1) m4, ()))
        else
          let v6 : Int := IntKind.i64.wrap (x3 + 1)
          jour_apply_l1 n k (((), x1, x2, v6, ()), (mset (keyEq (.str : Ty)) ((rdT ty0 x1 x3).1) (((rdT ty0 x1 x3).2).1) m4, ()))) else none
    else
      some (.inl ((), (m4, ())))
def jour_apply : Nat → jour_apply_ins.T → Option (OutsT jour_apply_outs)
  | 0, _ => none
  | n + 1, ((_, x1, _), (m2, _)) =>
    match jour_apply_l1 n n (((), x1, (x1.length : Int), 0, ()), (m2, ())) with
    | some (.inl (_, (m3, _))) => (
      some (((), ()), (m3, ())))
    | some (.inr (_)) => none
    | none => none
def jour_apply_H (n : Nat) : Hints := ⟨[], fun _ => [], fun k => match k with | 1 => some ⟨[0, 6, 7, 8], jour_apply_l1_h, jour_apply_l1_o, jour_apply_l1 n⟩ | _ => none, fun _ => none, fun _ => none, fun _ => 0⟩
def jour_apply_O (n : Nat) : FuncId → List FSpec := asc []
def b42 : Code := bodyOf Tryz.f42
theorem jour_apply_l1_k0 (n : Nat) : LoopOk P CC (jour_apply_O n) n 1 23 (jour_apply_H n) ⟨[0, 6, 7, 8], jour_apply_l1_h, jour_apply_l1_o, jour_apply_l1 n⟩ ((loopsOf b42).getD 0 .skip) := by
  refine ⟨fun _ => by kernel_rfl, ?_⟩
  rintro k ⟨⟨⟨⟩, x1, x2, x3, ⟨⟩⟩, ⟨x4, ⟨⟩⟩⟩
  kernel_rfl
theorem jour_apply_ok {S : Nat → Addr} (ok : CfgOk P CC S) : ∀ n, SpecOk P CC S 42 ⟨jour_apply_ins, jour_apply_outs, jour_apply n⟩ :=
  fn_all ok (O := jour_apply_O) (H := jour_apply_H) (fn := Tryz.f42) (body := b42) (by kernel_rfl) (by kernel_rfl) (by kernel_rfl) (by decide) (by kernel_rfl)
    (fun x => by kernel_rfl) (fun n => by
      rintro ⟨⟨⟨⟩, x1, ⟨⟩⟩, ⟨x2, ⟨⟩⟩⟩
      kernel_rfl)
    (fun n => obl_of (by kernel_rfl) (by kernel_rfl) (ls (lz) (by kernel_rfl) (jour_apply_l1_k0 n)) (cn (cn (cn (cn (cn (cn (cn (cn (cz) (by kernel_rfl)) (by kernel_rfl)) (by kernel_rfl)) (by kernel_rfl)) (by kernel_rfl)) (by kernel_rfl)) (by kernel_rfl)) (by kernel_rfl)) (hn fun _ => rfl))
    (fun n ih => asc_nil)
/-! ### pendulum/jour.load -/
abbrev jour_load_ins : Sh := ⟨[(.one (.ptr 0 0)), (.one (.val (.int .i64)))], [(.obj 61 [(.val (.int .i64)), (.map 1), (.map 2), (.val (.int .i64)), (.val (.int .i64)), (.val .bool)]), (.map (.int .i64) ty2 false), (.map (.int .i64) ty2 false)]⟩
abbrev jour_load_outs : List Sh := [⟨[(.tup [(false, [(.map 3)]), (false, [(.val (.int .i64))]), (false, [(.val (.int .i64))]), (false, [(.val .err)])])], [(.obj 61 [(.val (.int .i64)), (.map 1), (.map 2), (.val (.int .i64)), (.val (.int .i64)), (.val .bool)]), (.map (.int .i64) ty2 false), (.map (.int .i64) ty2 false), (.map .str .str false)]⟩, ⟨[(.tup [(false, [.nilmap]), (false, [(.val (.int .i64))]), (false, [(.val (.int .i64))]), (false, [(.val .err)])])], [(.obj 61 [(.val (.int .i64)), (.map 1), (.map 2), (.val (.int .i64)), (.val (.int .i64)), (.val .bool)]), (.map (.int .i64) ty2 false), (.map (.int .i64) ty2 false)]⟩]
abbrev jour_load_l4_h : Sh := ⟨[(.one (.ptr 0 0)), (.one (.val (.int .i64))), (.one (.val (.int .i64))), (.one (.map 3)), (.one (.val (.int .i64)))], [(.obj 61 [(.val (.int .i64)), (.map 1), (.map 2), (.val (.int .i64)), (.val (.int .i64)), (.val .bool)]), (.map (.int .i64) ty2 false), (.map (.int .i64) ty2 false), (.map .str .str false)]⟩
abbrev jour_load_l4_o : List Out := [⟨.ret, [4, 5, 6, 7], ⟨[(.one (.map 3)), (.one (.val (.int .i64))), (.one (.val (.int .i64))), (.one (.val .err))], [(.obj 61 [(.val (.int .i64)), (.map 1), (.map 2), (.val (.int .i64)), (.val (.int .i64)), (.val .bool)]), (.map (.int .i64) ty2 false), (.map (.int .i64) ty2 false), (.map .str .str false)]⟩⟩, ⟨.ret, [4, 5, 6, 7], ⟨[(.one .nilmap), (.one (.val (.int .i64))), (.one (.val (.int .i64))), (.one (.val .err))], [(.obj 61 [(.val (.int .i64)), (.map 1), (.map 2), (.val (.int .i64)), (.val (.int .i64)), (.val .bool)]), (.map (.int .i64) ty2 false), (.map (.int .i64) ty2 false)]⟩⟩]
def jour_load_l4 (n : Nat) : Nat → jour_load_l4_h.T → Option (OutT jour_load_l4_o)
  | 0, _ => none
  | k + 1, ((_, x1, x2, _, x3, _), ((x4, _, _, x5, x6, x7, _), m8, m9, m10, _)) =>
    match jour_call n (((), x1, x2, x3, ()), ((x4, (), (), x5, x6, x7, ()), m8, m9, ())) with
    | some ((((x11, x12, x13, _, _), (x14, _), (x15, _), _), _), ((x16, _, _, x17, x18, x19, _), m20, m21, l22, _)) => (
      if !(errNil x15) then
        some (.inr (.inl (((), 0, 0, x15, ()), ((x16, (), (), x17, x18, x19, ()), m20, m21, ()))))
      else
        if !x14 then
          some (.inl (((), x1, x3, ErrV.nil, ()), ((x16, (), (), x17, x18, x19, ()), m20, m21, m10, ())))
        else
          match jour_parse n (((), ()), (l22, ())) with
          | some ((((x23, _), (_, _), (x24, _), _), _), (l25, l26, _)) => (
            if !x24 then
              some (.inl (((), x1, x3, ErrV.nil, ()), ((x16, (), (), x17, x18, x19, ()), m20, m21, m10, ())))
            else
              if !((x23 == 0) == (x3 == 0)) then
                some (.inl (((), x1, x3, ErrV.nil, ()), ((x16, (), (), x17, x18, x19, ()), m20, m21, m10, ())))
              else
                match jour_apply n (((), l26, ()), (m10, ())) with
                | some ((_, _), (m27, _)) => (
                  let v28 : Int := IntKind.i64.wrap (x1 + x13)
                  jour_load_l4 n k (((), v28, x2, (), x11, ()), ((x16, (), (), x17, x18, x19, ()), m20, m21, m27, ())))
                | none => none)
          | none => none)
    | none => none
def jour_load : Nat → jour_load_ins.T → Option (OutsT jour_load_outs)
  | 0, _ => none
  | n + 1, ((_, x1, _), ((x2, _, _, x3, x4, x5, _), m6, m7, _)) =>
    match jour_bounds n (((), x1, ()), ((x2, (), (), x3, x4, x5, ()), m6, m7, ())) with
    | some ((((x8, _), (x9, _), _), _), ((x10, _, _, x11, x12, x13, _), m14, m15, _)) => (
      match jour_load_l4 n n (((), x8, x9, (), 0, ()), ((x10, (), (), x11, x12, x13, ()), m14, m15, [], ())) with
      | some (.inl ((_, x16, x17, x18, _), ((x19, _, _, x20, x21, x22, _), m23, m24, m25, _))) => (
        some (.inl (((((), ()), (x16, ()), (x17, ()), (x18, ()), ()), ()), ((x19, (), (), x20, x21, x22, ()), m23, m24, m25, ()))))
      | some (.inr (.inl ((_, x26, x27, x28, _), ((x29, _, _, x30, x31, x32, _), m33, m34, _)))) => (
        some (.inr ((((((), ()), (x26, ()), (x27, ()), (x28, ()), ()), ()), ((x29, (), (), x30, x31, x32, ()), m33, m34, ())))))
      | some (.inr (.inr (_))) => none
      | none => none)
    | none => none
def jour_load_H (n : Nat) : Hints := ⟨[], fun _ => [], fun k => match k with | 4 => some ⟨[0, 8, 9, 10, 11], jour_load_l4_h, jour_load_l4_o, jour_load_l4 n⟩ | _ => none, fun _ => none, fun _ => none, fun _ => 0⟩
def jour_load_O (n : Nat) : FuncId → List FSpec := asc [(27, ⟨jour_bounds_ins, jour_bounds_outs, jour_bounds n⟩), (42, ⟨jour_apply_ins, jour_apply_outs, jour_apply n⟩), (54, ⟨jour_call_ins, jour_call_outs, jour_call n⟩), (55, ⟨jour_parse_ins, jour_parse_outs, jour_parse n⟩)]
def b36 : Code := bodyOf Tryz.f36
theorem jour_load_l4_k0 (n : Nat) : LoopOk P CC (jour_load_O n) n 3 70 (jour_load_H n) ⟨[0, 8, 9, 10, 11], jour_load_l4_h, jour_load_l4_o, jour_load_l4 n⟩ ((loopsOf b36).getD 0 .skip) := by
  refine ⟨fun _ => by kernel_rfl, ?_⟩
  rintro k ⟨⟨⟨⟩, x1, x2, ⟨⟩, x3, ⟨⟩⟩, ⟨⟨x4, ⟨⟩, ⟨⟩, x5, x6, x7, ⟨⟩⟩, x8, x9, x10, ⟨⟩⟩⟩
  kernel_rfl
theorem jour_load_ok {S : Nat → Addr} (ok : CfgOk P CC S) : ∀ n, SpecOk P CC S 36 ⟨jour_load_ins, jour_load_outs, jour_load n⟩ :=
  fn_all ok (O := jour_load_O) (H := jour_load_H) (fn := Tryz.f36) (body := b36) (by kernel_rfl) (by kernel_rfl) (by kernel_rfl) (by decide) (by kernel_rfl)
    (fun x => by kernel_rfl) (fun n => by
      rintro ⟨⟨⟨⟩, x1, ⟨⟩⟩, ⟨⟨x2, ⟨⟩, ⟨⟩, x3, x4, x5, ⟨⟩⟩, x6, x7, ⟨⟩⟩⟩
      kernel_rfl)
    (fun n => obl_of (by kernel_rfl) (by kernel_rfl) (ls (lz) (by kernel_rfl) (jour_load_l4_k0 n)) (cn (cn (cn (cn (cn (cn (cn (cn (cn (cn (cn (cn (cn (cn (cn (cn (cn (cz) (by kernel_rfl)) (by kernel_rfl)) (by kernel_rfl)) (by kernel_rfl)) (by kernel_rfl)) (by kernel_rfl)) (by kernel_rfl)) (by kernel_rfl)) (by kernel_rfl)) (by kernel_rfl)) (by kernel_rfl)) (by kernel_rfl)) (by kernel_rfl)) (by kernel_rfl)) (by kernel_rfl)) (by kernel_rfl)) (by kernel_rfl)) (hn fun _ => rfl))
    (fun n ih => asc_cons (jour_bounds_ok ok n) <| asc_cons (jour_apply_ok ok n) <| asc_cons (jour_call_ok ok n) <| asc_cons (jour_parse_ok ok n) <| asc_nil)
/-! ### pendulum/jour.Open -/
abbrev jour_Open_ins : Sh := ⟨[(.one (.ptr 0 0))], [(.obj 61 [(.val (.int .i64)), (.map 1), (.map 2), (.val (.int .i64)), (.val (.int .i64)), (.val .bool)]), (.map (.int .i64) ty2 false), (.map (.int .i64) ty2 false)]⟩
abbrev jour_Open_outs : List Sh := [⟨[(.tup [(false, [(.ptr 3 0)]), (false, [(.val .err)])])], [(.obj 61 [(.val (.int .i64)), (.map 1), (.map 2), (.val (.int .i64)), (.val (.int .i64)), (.val .bool)]), (.map (.int .i64) ty2 false), (.map (.int .i64) ty2 false), (.obj 68 [(.ptr 0 0), (.map 4), (.val (.int .i64)), (.val (.int .i64)), (.val (.int .i64))]), (.map .str .str false)]⟩, ⟨[(.tup [(false, [.nilp]), (false, [(.val .err)])])], [(.obj 61 [(.val (.int .i64)), (.map 1), (.map 2), (.val (.int .i64)), (.val (.int .i64)), (.val .bool)]), (.map (.int .i64) ty2 false), (.map (.int .i64) ty2 false)]⟩]
abbrev jour_Open_l4_h : Sh := ⟨[(.one (.ptr 0 0)), (.one (.ptr 3 0)), (.one (.val (.int .i64))), (.one (.val (.int .i64)))], [(.obj 61 [(.val (.int .i64)), (.map 1), (.map 2), (.val (.int .i64)), (.val (.int .i64)), (.val .bool)]), (.map (.int .i64) ty2 false), (.map (.int .i64) ty2 false), (.obj 68 [(.ptr 0 0), (.map 4), (.val (.int .i64)), (.val (.int .i64)), (.val (.int .i64))]), (.map .str .str false)]⟩
abbrev jour_Open_l4_o : List Out := [⟨(.exit 0), [0, 4], ⟨[(.one (.ptr 0 0)), (.one (.ptr 3 0))], [(.obj 61 [(.val (.int .i64)), (.map 1), (.map 2), (.val (.int .i64)), (.val (.int .i64)), (.val .bool)]), (.map (.int .i64) ty2 false), (.map (.int .i64) ty2 false), (.obj 68 [(.ptr 0 0), (.map 4), (.val (.int .i64)), (.val (.int .i64)), (.val (.int .i64))]), (.map .str .str false)]⟩⟩, ⟨.ret, [2, 3], ⟨[(.one .nilp), (.one (.val .err))], [(.obj 61 [(.val (.int .i64)), (.map 1), (.map 2), (.val (.int .i64)), (.val (.int .i64)), (.val .bool)]), (.map (.int .i64) ty2 false), (.map (.int .i64) ty2 false)]⟩⟩]
def jour_Open_l4 (n : Nat) : Nat → jour_Open_l4_h.T → Option (OutT jour_Open_l4_o)
  | 0, _ => none
  | k + 1, ((_, _, x1, x2, _), ((x3, _, _, x4, x5, x6, _), m7, m8, (_, _, x9, x10, x11, _), m12, _)) =>
    if decide (x2 < 2) then
      match jour_load n (((), x2, ()), ((x3, (), (), x4, x5, x6, ()), m7, m8, ())) with
      | some (.inl ((((_, _), (x13, _), (x14, _), (x15, _), _), _), ((x16, _, _, x17, x18, x19, _), m20, m21, m22, _))) => (
        if !(errNil x15) then
          some (.inr (.inl (((), x15, ()), ((x16, (), (), x17, x18, x19, ()), m20, m21, ()))))
        else
          if decide (x14 > x1) then
            let v32 : Int := IntKind.i64.wrap (x2 + 1)
            jour_Open_l4 n k (((), (), x14, v32, ()), ((x16, (), (), x17, x18, x19, ()), m20, m21, ((), (), x2, x13, x11, ()), m22, ()))
          else
            let v33 : Int := IntKind.i64.wrap (x2 + 1)
            jour_Open_l4 n k (((), (), x1, v33, ()), ((x16, (), (), x17, x18, x19, ()), m20, m21, ((), (), x9, x10, x11, ()), m12, ())))
      | some (.inr (((((_, _), (x23, _), (x24, _), (x25, _), _), _), ((x26, _, _, x27, x28, x29, _), m30, m31, _)))) => (
        if !(errNil x25) then
          some (.inr (.inl (((), x25, ()), ((x26, (), (), x27, x28, x29, ()), m30, m31, ()))))
        else
          if decide (x24 > x1) then
            let v34 : Int := IntKind.i64.wrap (x2 + 1)
            none
          else
            let v35 : Int := IntKind.i64.wrap (x2 + 1)
            jour_Open_l4 n k (((), (), x1, v35, ()), ((x26, (), (), x27, x28, x29, ()), m30, m31, ((), (), x9, x10, x11, ()), m12, ())))
      | none => none
    else
      some (.inl (((), (), ()), ((x3, (), (), x4, x5, x6, ()), m7, m8, ((), (), x9, x10, x11, ()), m12, ())))
abbrev jour_Open_l14_h : Sh := ⟨[(.one (.ptr 0 0)), (.one (.ptr 3 0)), (.one (.val (.int .i64))), (.one (.val (.int .i64)))], [(.obj 61 [(.val (.int .i64)), (.map 1), (.map 2), (.val (.int .i64)), (.val (.int .i64)), (.val .bool)]), (.map (.int .i64) ty2 false), (.map (.int .i64) ty2 false), (.obj 68 [(.ptr 0 0), (.map 4), (.val (.int .i64)), (.val (.int .i64)), (.val (.int .i64))]), (.map .str .str false)]⟩
abbrev jour_Open_l14_o : List Out := [⟨(.exit 2), [4], ⟨[(.one (.ptr 3 0))], [(.obj 61 [(.val (.int .i64)), (.map 1), (.map 2), (.val (.int .i64)), (.val (.int .i64)), (.val .bool)]), (.map (.int .i64) ty2 false), (.map (.int .i64) ty2 false), (.obj 68 [(.ptr 0 0), (.map 4), (.val (.int .i64)), (.val (.int .i64)), (.val (.int .i64))]), (.map .str .str false)]⟩⟩, ⟨.ret, [2, 3], ⟨[(.one .nilp), (.one (.val .err))], [(.obj 61 [(.val (.int .i64)), (.map 1), (.map 2), (.val (.int .i64)), (.val (.int .i64)), (.val .bool)]), (.map (.int .i64) ty2 false), (.map (.int .i64) ty2 false)]⟩⟩]
def jour_Open_l14 (n : Nat) : Nat → jour_Open_l14_h.T → Option (OutT jour_Open_l14_o)
  | 0, _ => none
  | k + 1, ((_, _, x1, x2, _), ((x3, _, _, x4, x5, x6, _), m7, m8, (_, _, x9, x10, x11, _), m12, _)) =>
    if decide (x2 < x1) then
      match jour_read n (((), x2, ()), ((x3, (), (), x4, x5, x6, ()), m7, m8, ())) with
      | some ((((x13, x14, x15, x16, _), (x17, _), (x18, _), _), _), ((x19, _, _, x20, x21, x22, _), m23, m24, _)) => (
        if !(errNil x18) then
          some (.inr (.inl (((), x18, ()), ((x19, (), (), x20, x21, x22, ()), m23, m24, ()))))
        else
          if x17 then
            let v25 : Int := IntKind.i64.wrap (x2 + 1)
            jour_Open_l14 n k (((), (), x1, v25, ()), ((x19, (), (), x20, x21, x22, ()), m23, m24, ((), (), x9, x10, mx x11 x13, ()), m12, ()))
          else
            let v26 : Int := IntKind.i64.wrap (x2 + 1)
            jour_Open_l14 n k (((), (), x1, v26, ()), ((x19, (), (), x20, x21, x22, ()), m23, m24, ((), (), x9, x10, x11, ()), m12, ())))
      | none => none
    else
      some (.inl (((), ()), ((x3, (), (), x4, x5, x6, ()), m7, m8, ((), (), x9, x10, x11, ()), m12, ())))
def jour_Open : Nat → jour_Open_ins.T → Option (OutsT jour_Open_outs)
  | 0, _ => none
  | n + 1, ((_, _), ((x1, _, _, x2, x3, x4, _), m5, m6, _)) =>
    match jour_Open_l4 n n (((), (), 0, 0, ()), ((x1, (), (), x2, x3, x4, ()), m5, m6, ((), (), (-1), 0, 0, ()), [], ())) with
    | some (.inl ((_, _, _), ((x7, _, _, x8, x9, x10, _), m11, m12, (_, _, x13, x14, x15, _), m16, _))) => (
      match disk_Disk_Sectors n (((), ()), ((x7, (), (), x8, x9, x10, ()), m11, m12, ())) with
      | some ((x24, _), ((x25, _, _, x26, x27, x28, _), m29, m30, _)) => (
        match jour_Open_l14 n n (((), (), x24, 0, ()), ((x25, (), (), x26, x27, x28, ()), m29, m30, ((), (), x13, x14, x15, ()), m16, ())) with
        | some (.inl ((_, _), ((x31, _, _, x32, x33, x34, _), m35, m36, (_, _, x37, x38, x39, _), m40, _))) => (
          some (.inl (((((), ()), (ErrV.nil, ()), ()), ()), ((x31, (), (), x32, x33, x34, ()), m35, m36, ((), (), x37, x38, x39, ()), m40, ()))))
        | some (.inr (.inl ((_, x41, _), ((x42, _, _, x43, x44, x45, _), m46, m47, _)))) => (
          some (.inr ((((((), ()), (x41, ()), ()), ()), ((x42, (), (), x43, x44, x45, ()), m46, m47, ())))))
        | some (.inr (.inr (_))) => none
        | none => none)
      | none => none)
    | some (.inr (.inl ((_, x17, _), ((x18, _, _, x19, x20, x21, _), m22, m23, _)))) => (
      some (.inr ((((((), ()), (x17, ()), ()), ()), ((x18, (), (), x19, x20, x21, ()), m22, m23, ())))))
    | some (.inr (.inr (_))) => none
    | none => none
def jour_Open_H (n : Nat) : Hints := ⟨[], fun _ => [], fun k => match k with | 4 => some ⟨[0, 4, 5, 19], jour_Open_l4_h, jour_Open_l4_o, jour_Open_l4 n⟩ | 14 => some ⟨[0, 4, 51, 52], jour_Open_l14_h, jour_Open_l14_o, jour_Open_l14 n⟩ | _ => none, fun _ => none, fun _ => none, fun _ => 0⟩
def jour_Open_O (n : Nat) : FuncId → List FSpec := asc [(36, ⟨jour_load_ins, jour_load_outs, jour_load n⟩), (37, ⟨disk_Disk_Sectors_ins, disk_Disk_Sectors_outs, disk_Disk_Sectors n⟩), (38, ⟨jour_read_ins, jour_read_outs, jour_read n⟩)]
def b17 : Code := bodyOf Tryz.f17
theorem jour_Open_l4_k0 (n : Nat) : LoopOk P CC (jour_Open_O n) n 3 78 (jour_Open_H n) ⟨[0, 4, 5, 19], jour_Open_l4_h, jour_Open_l4_o, jour_Open_l4 n⟩ ((loopsOf b17).getD 0 .skip) := by
  refine ⟨fun _ => by kernel_rfl, ?_⟩
  rintro k ⟨⟨⟨⟩, ⟨⟩, x1, x2, ⟨⟩⟩, ⟨⟨x3, ⟨⟩, ⟨⟩, x4, x5, x6, ⟨⟩⟩, x7, x8, ⟨⟨⟩, ⟨⟩, x9, x10, x11, ⟨⟩⟩, x12, ⟨⟩⟩⟩
  kernel_rfl
theorem jour_Open_l14_k1 (n : Nat) : LoopOk P CC (jour_Open_O n) n 3 78 (jour_Open_H n) ⟨[0, 4, 51, 52], jour_Open_l14_h, jour_Open_l14_o, jour_Open_l14 n⟩ ((loopsOf b17).getD 1 .skip) := by
  refine ⟨fun _ => by kernel_rfl, ?_⟩
  rintro k ⟨⟨⟨⟩, ⟨⟩, x1, x2, ⟨⟩⟩, ⟨⟨x3, ⟨⟩, ⟨⟩, x4, x5, x6, ⟨⟩⟩, x7, x8, ⟨⟨⟩, ⟨⟩, x9, x10, x11, ⟨⟩⟩, x12, ⟨⟩⟩⟩
  kernel_rfl
theorem jour_Open_ok {S : Nat → Addr} (ok : CfgOk P CC S) : ∀ n, SpecOk P CC S 17 ⟨jour_Open_ins, jour_Open_outs, jour_Open n⟩ :=
  fn_all ok (O := jour_Open_O) (H := jour_Open_H) (fn := Tryz.f17) (body := b17) (by kernel_rfl) (by kernel_rfl) (by kernel_rfl) (by decide) (by kernel_rfl)
    (fun x => by kernel_rfl) (fun n => by
      rintro ⟨⟨⟨⟩, ⟨⟩⟩, ⟨⟨x1, ⟨⟩, ⟨⟩, x2, x3, x4, ⟨⟩⟩, x5, x6, ⟨⟩⟩⟩
      kernel_rfl)
    (fun n => obl_of (by kernel_rfl) (by kernel_rfl) (ls (ls (lz) (by kernel_rfl) (jour_Open_l4_k0 n)) (by kernel_rfl) (jour_Open_l14_k1 n)) (cn (cn (cn (cn (cn (cn (cn (cn (cn (cn (cn (cn (cn (cn (cn (cn (cn (cn (cn (cn (cn (cn (cn (cn (cn (cn (cn (cz) (by kernel_rfl)) (by kernel_rfl)) (by kernel_rfl)) (by kernel_rfl)) (by kernel_rfl)) (by kernel_rfl)) (by kernel_rfl)) (by kernel_rfl)) (by kernel_rfl)) (by kernel_rfl)) (by kernel_rfl)) (by kernel_rfl)) (by kernel_rfl)) (by kernel_rfl)) (by kernel_rfl)) (by kernel_rfl)) (by kernel_rfl)) (by kernel_rfl)) (by kernel_rfl)) (by kernel_rfl)) (by kernel_rfl)) (by kernel_rfl)) (by kernel_rfl)) (by kernel_rfl)) (by kernel_rfl)) (by kernel_rfl)) (by kernel_rfl)) (hn fun _ => rfl))
    (fun n ih => asc_cons (jour_load_ok ok n) <| asc_cons (disk_Disk_Sectors_ok ok n) <| asc_cons (jour_read_ok ok n) <| asc_nil)
/-! ### pendulum/pendulumlaw4.opened -/
abbrev law4_opened_ins : Sh := ⟨[(.one (.val (.int .i64)))], []⟩
abbrev law4_opened_outs : List Sh := [⟨[(.tup [(false, [(.ptr 0 0)]), (false, [(.ptr 1 0)])])], [(.obj 68 [(.ptr 1 0), (.map 2), (.val (.int .i64)), (.val (.int .i64)), (.val (.int .i64))]), (.obj 61 [(.val (.int .i64)), (.map 3), (.map 4), (.val (.int .i64)), (.val (.int .i64)), (.val .bool)]), (.map .str .str false), (.map (.int .i64) ty2 false), (.map (.int .i64) ty2 false)]⟩, ⟨[(.tup [(false, [.nilp]), (false, [(.ptr 0 0)])])], [(.obj 61 [(.val (.int .i64)), (.map 1), (.map 2), (.val (.int .i64)), (.val (.int .i64)), (.val .bool)]), (.map (.int .i64) ty2 false), (.map (.int .i64) ty2 false)]⟩, ⟨[(.tup [(false, [.nilp]), (false, [.nilp])])], []⟩]
def law4_opened : Nat → law4_opened_ins.T → Option (OutsT law4_opened_outs)
  | 0, _ => none
  | n + 1, ((x1, _), _) =>
    match disk_New n ((x1, ()), ()) with
    | some (.inl ((((_, _), (x2, _), _), _), ((x3, _, _, x4, x5, x6, _), m7, m8, _))) => (
      if !(errNil x2) then
        some (.inr (.inr ((((((), ()), ((), ()), ()), ()), ()))))
      else
        match jour_Open n (((), ()), ((x3, (), (), x4, x5, x6, ()), m7, m8, ())) with
        | some (.inl ((((_, _), (x10, _), _), _), ((x11, _, _, x12, x13, x14, _), m15, m16, (_, _, x17, x18, x19, _), m20, _))) => (
          if !(errNil x10) then
            some (.inr (.inr ((((((), ()), ((), ()), ()), ()), ()))))
          else
            some (.inl (((((), ()), ((), ()), ()), ()), (((), (), x17, x18, x19, ()), (x11, (), (), x12, x13, x14, ()), m20, m15, m16, ()))))
        | some (.inr (((((_, _), (x21, _), _), _), ((x22, _, _, x23, x24, x25, _), m26, m27, _)))) => (
          if !(errNil x21) then
            some (.inr (.inr ((((((), ()), ((), ()), ()), ()), ()))))
          else
            some (.inr (.inl (((((), ()), ((), ()), ()), ()), ((x22, (), (), x23, x24, x25, ()), m26, m27, ())))))
        | none => none)
    | some (.inr (((((_, _), (x9, _), _), _), _))) => (
      some (.inr (.inr ((((((), ()), ((), ()), ()), ()), ())))))
    | none => none
def law4_opened_H (n : Nat) : Hints := ⟨[], fun _ => [], fun _ => none, fun _ => none, fun _ => none, fun _ => 0⟩
def law4_opened_O (n : Nat) : FuncId → List FSpec := asc [(17, ⟨jour_Open_ins, jour_Open_outs, jour_Open n⟩), (22, ⟨disk_New_ins, disk_New_outs, disk_New n⟩)]
def b7 : Code := bodyOf Tryz.f7
theorem law4_opened_ok {S : Nat → Addr} (ok : CfgOk P CC S) : ∀ n, SpecOk P CC S 7 ⟨law4_opened_ins, law4_opened_outs, law4_opened n⟩ :=
  fn_all ok (O := law4_opened_O) (H := law4_opened_H) (fn := Tryz.f7) (body := b7) (by kernel_rfl) (by kernel_rfl) (by kernel_rfl) (by decide) (by kernel_rfl)
    (fun x => by kernel_rfl) (fun n => by
      rintro ⟨⟨x1, ⟨⟩⟩, ⟨⟩⟩
      kernel_rfl)
    (fun n => obl_of (by kernel_rfl) (by kernel_rfl) (lz) (cn (cn (cn (cn (cn (cn (cn (cn (cn (cn (cz) (by kernel_rfl)) (by kernel_rfl)) (by kernel_rfl)) (by kernel_rfl)) (by kernel_rfl)) (by kernel_rfl)) (by kernel_rfl)) (by kernel_rfl)) (by kernel_rfl)) (by kernel_rfl)) (hn fun _ => rfl))
    (fun n ih => asc_cons (jour_Open_ok ok n) <| asc_cons (disk_New_ok ok n) <| asc_nil)
/-! ### maps.Clone[map[string]string,string,string] (by hand) -/
abbrev maps_Clone_33_ins : Sh := ⟨[(.one (.map 0))], [(.map .str .str false)]⟩
abbrev maps_Clone_33_outs : List Sh := [⟨[(.one (.map 1))], [(.map .str .str false), (.map .str .str false)]⟩]
def maps_Clone_33 : Nat → maps_Clone_33_ins.T → Option (OutsT maps_Clone_33_outs) := fun _ => cloneSem .str .str false
theorem maps_Clone_33_ok {S : Nat → Addr} (ok : CfgOk P CC S) : ∀ n, SpecOk P CC S 33 ⟨maps_Clone_33_ins, maps_Clone_33_outs, maps_Clone_33 n⟩ := fun n => mclone_spec ⟨Tryz.f33, by kernel_rfl, by kernel_rfl, by kernel_rfl⟩ Sq.clone_calls_string0
/-! ### (*pendulum/jour.Store).fits -/
abbrev jour_Store_fits_ins : Sh := ⟨[(.one (.ptr 0 0)), (.one (.val ty3))], [(.obj 68 [(.ptr 1 0), (.map 2), (.val (.int .i64)), (.val (.int .i64)), (.val (.int .i64))]), (.obj 61 [(.val (.int .i64)), (.map 3), (.map 4), (.val (.int .i64)), (.val (.int .i64)), (.val .bool)]), (.map .str .str false), (.map (.int .i64) ty2 false), (.map (.int .i64) ty2 false)]⟩
abbrev jour_Store_fits_outs : List Sh := [⟨[(.tup [(false, [(.map 5)]), (false, [(.val .err)])])], [(.obj 68 [(.ptr 1 0), (.map 2), (.val (.int .i64)), (.val (.int .i64)), (.val (.int .i64))]), (.obj 61 [(.val (.int .i64)), (.map 3), (.map 4), (.val (.int .i64)), (.val (.int .i64)), (.val .bool)]), (.map .str .str false), (.map (.int .i64) ty2 false), (.map (.int .i64) ty2 false), (.map .str .str false)]⟩, ⟨[(.tup [(false, [.nilmap]), (false, [(.val .err)])])], [(.obj 68 [(.ptr 1 0), (.map 2), (.val (.int .i64)), (.val (.int .i64)), (.val (.int .i64))]), (.obj 61 [(.val (.int .i64)), (.map 3), (.map 4), (.val (.int .i64)), (.val (.int .i64)), (.val .bool)]), (.map .str .str false), (.map (.int .i64) ty2 false), (.map (.int .i64) ty2 false)]⟩]
abbrev jour_Store_fits_l2_h : Sh := ⟨[(.one (.ptr 0 0)), (.one (.val ty3)), (.one (.val ty3)), (.one (.val (.int .i64))), (.one (.val (.int .i64)))], [(.obj 68 [(.ptr 1 0), (.map 2), (.val (.int .i64)), (.val (.int .i64)), (.val (.int .i64))]), (.obj 61 [(.val (.int .i64)), (.map 3), (.map 4), (.val (.int .i64)), (.val (.int .i64)), (.val .bool)]), (.map .str .str false), (.map (.int .i64) ty2 false), (.map (.int .i64) ty2 false)]⟩
abbrev jour_Store_fits_l2_o : List Out := [⟨(.exit 0), [0, 1], ⟨[(.one (.ptr 0 0)), (.one (.val ty3))], [(.obj 68 [(.ptr 1 0), (.map 2), (.val (.int .i64)), (.val (.int .i64)), (.val (.int .i64))]), (.obj 61 [(.val (.int .i64)), (.map 3), (.map 4), (.val (.int .i64)), (.val (.int .i64)), (.val .bool)]), (.map .str .str false), (.map (.int .i64) ty2 false), (.map (.int .i64) ty2 false)]⟩⟩, ⟨.ret, [4, 5], ⟨[(.one .nilmap), (.one (.val .err))], [(.obj 68 [(.ptr 1 0), (.map 2), (.val (.int .i64)), (.val (.int .i64)), (.val (.int .i64))]), (.obj 61 [(.val (.int .i64)), (.map 3), (.map 4), (.val (.int .i64)), (.val (.int .i64)), (.val .bool)]), (.map .str .str false), (.map (.int .i64) ty2 false), (.map (.int .i64) ty2 false)]⟩⟩]
def jour_Store_fits_l2 (n : Nat) : Nat → jour_Store_fits_l2_h.T → Option (OutT jour_Store_fits_l2_o)
  | 0, _ => none
  | k + 1, ((_, x1, x2, x3, x4, _), ((_, _, x5, x6, x7, _), (x8, _, _, x9, x10, x11, _), m12, m13, m14, _)) =>
    if decide (x4 < x3) then
      if 0 ≤ x4 ∧ x4 < (x2.length : Int) then (
        if decide ((((rdT ty0 x2 x4).1).size : Int) < 1) then
          some (.inr (.inl (((), ErrV.sent 104, ()), (((), (), x5, x6, x7, ()), (x8, (), (), x9, x10, x11, ()), m12, m13, m14, ()))))
        else
          if decide ((((rdT ty0 x2 x4).1).size : Int) > 40) then
            some (.inr (.inl (((), ErrV.sent 104, ()), (((), (), x5, x6, x7, ()), (x8, (), (), x9, x10, x11, ()), m12, m13, m14, ()))))
          else
            let v15 : Int := IntKind.i64.wrap (x4 + 1)
            jour_Store_fits_l2 n k (((), x1, x2, x3, v15, ()), (((), (), x5, x6, x7, ()), (x8, (), (), x9, x10, x11, ()), m12, m13, m14, ()))) else none
    else
      some (.inl (((), x1, ()), (((), (), x5, x6, x7, ()), (x8, (), (), x9, x10, x11, ()), m12, m13, m14, ())))
abbrev jour_Store_fits_l8_h : Sh := ⟨[(.one (.ptr 0 0)), (.one (.val ty3)), (.one (.val ty3)), (.one (.val (.int .i64))), (.one (.val (.int .i64)))], [(.obj 68 [(.ptr 1 0), (.map 2), (.val (.int .i64)), (.val (.int .i64)), (.val (.int .i64))]), (.obj 61 [(.val (.int .i64)), (.map 3), (.map 4), (.val (.int .i64)), (.val (.int .i64)), (.val .bool)]), (.map .str .str false), (.map (.int .i64) ty2 false), (.map (.int .i64) ty2 false)]⟩
abbrev jour_Store_fits_l8_o : List Out := [⟨(.exit 2), [0, 1], ⟨[(.one (.ptr 0 0)), (.one (.val ty3))], [(.obj 68 [(.ptr 1 0), (.map 2), (.val (.int .i64)), (.val (.int .i64)), (.val (.int .i64))]), (.obj 61 [(.val (.int .i64)), (.map 3), (.map 4), (.val (.int .i64)), (.val (.int .i64)), (.val .bool)]), (.map .str .str false), (.map (.int .i64) ty2 false), (.map (.int .i64) ty2 false)]⟩⟩, ⟨.ret, [4, 5], ⟨[(.one .nilmap), (.one (.val .err))], [(.obj 68 [(.ptr 1 0), (.map 2), (.val (.int .i64)), (.val (.int .i64)), (.val (.int .i64))]), (.obj 61 [(.val (.int .i64)), (.map 3), (.map 4), (.val (.int .i64)), (.val (.int .i64)), (.val .bool)]), (.map .str .str false), (.map (.int .i64) ty2 false), (.map (.int .i64) ty2 false)]⟩⟩]
def jour_Store_fits_l8 (n : Nat) : Nat → jour_Store_fits_l8_h.T → Option (OutT jour_Store_fits_l8_o)
  | 0, _ => none
  | k + 1, ((_, x1, x2, x3, x4, _), ((_, _, x5, x6, x7, _), (x8, _, _, x9, x10, x11, _), m12, m13, m14, _)) =>
    if decide (x4 < x3) then
      if 0 ≤ x4 ∧ x4 < (x2.length : Int) then (
        if decide (((((rdT ty0 x2 x4).2).1).size : Int) > 32768) then
          some (.inr (.inl (((), ErrV.sent 103, ()), (((), (), x5, x6, x7, ()), (x8, (), (), x9, x10, x11, ()), m12, m13, m14, ()))))
        else
          let v15 : Int := IntKind.i64.wrap (x4 + 1)
          jour_Store_fits_l8 n k (((), x1, x2, x3, v15, ()), (((), (), x5, x6, x7, ()), (x8, (), (), x9, x10, x11, ()), m12, m13, m14, ()))) else none
    else
      some (.inl (((), x1, ()), (((), (), x5, x6, x7, ()), (x8, (), (), x9, x10, x11, ()), m12, m13, m14, ())))
def jour_Store_fits : Nat → jour_Store_fits_ins.T → Option (OutsT jour_Store_fits_outs)
  | 0, _ => none
  | n + 1, ((_, x1, _), ((_, _, x2, x3, x4, _), (x5, _, _, x6, x7, x8, _), m9, m10, m11, _)) =>
    match jour_Store_fits_l2 n n (((), x1, x1, (x1.length : Int), 0, ()), (((), (), x2, x3, x4, ()), (x5, (), (), x6, x7, x8, ()), m9, m10, m11, ())) with
    | some (.inl ((_, x12, _), ((_, _, x13, x14, x15, _), (x16, _, _, x17, x18, x19, _), m20, m21, m22, _))) => (
      match jour_Store_fits_l8 n n (((), x12, x12, (x12.length : Int), 0, ()), (((), (), x13, x14, x15, ()), (x16, (), (), x17, x18, x19, ()), m20, m21, m22, ())) with
      | some (.inl ((_, x34, _), ((_, _, x35, x36, x37, _), (x38, _, _, x39, x40, x41, _), m42, m43, m44, _))) => (
        match maps_Clone_33 n (((), ()), (m42, ())) with
        | some ((_, _), (m56, m57, _)) => (
          match jour_apply n (((), x34, ()), (m57, ())) with
          | some ((_, _), (m58, _)) => (
            if decide ((m58.length : Int) > 256) then
              some (.inr ((((((), ()), (ErrV.sent 103, ()), ()), ()), (((), (), x35, x36, x37, ()), (x38, (), (), x39, x40, x41, ()), m56, m43, m44, ()))))
            else
              some (.inl (((((), ()), (ErrV.nil, ()), ()), ()), (((), (), x35, x36, x37, ()), (x38, (), (), x39, x40, x41, ()), m56, m43, m44, m58, ()))))
          | none => none)
        | none => none)
      | some (.inr (.inl ((_, x45, _), ((_, _, x46, x47, x48, _), (x49, _, _, x50, x51, x52, _), m53, m54, m55, _)))) => (
        some (.inr ((((((), ()), (x45, ()), ()), ()), (((), (), x46, x47, x48, ()), (x49, (), (), x50, x51, x52, ()), m53, m54, m55, ())))))
      | some (.inr (.inr (_))) => none
      | none => none)
    | some (.inr (.inl ((_, x23, _), ((_, _, x24, x25, x26, _), (x27, _, _, x28, x29, x30, _), m31, m32, m33, _)))) => (
      some (.inr ((((((), ()), (x23, ()), ()), ()), (((), (), x24, x25, x26, ()), (x27, (), (), x28, x29, x30, ()), m31, m32, m33, ())))))
    | some (.inr (.inr (_))) => none
    | none => none
def jour_Store_fits_H (n : Nat) : Hints := ⟨[], fun _ => [], fun k => match k with | 2 => some ⟨[0, 1, 11, 12, 13], jour_Store_fits_l2_h, jour_Store_fits_l2_o, jour_Store_fits_l2 n⟩ | 8 => some ⟨[0, 1, 29, 30, 31], jour_Store_fits_l8_h, jour_Store_fits_l8_o, jour_Store_fits_l8 n⟩ | _ => none, fun _ => none, fun _ => none, fun _ => 0⟩
def jour_Store_fits_O (n : Nat) : FuncId → List FSpec := asc [(33, ⟨maps_Clone_33_ins, maps_Clone_33_outs, maps_Clone_33 n⟩), (42, ⟨jour_apply_ins, jour_apply_outs, jour_apply n⟩)]
def b24 : Code := bodyOf Tryz.f24
theorem jour_Store_fits_l2_k0 (n : Nat) : LoopOk P CC (jour_Store_fits_O n) n 5 54 (jour_Store_fits_H n) ⟨[0, 1, 11, 12, 13], jour_Store_fits_l2_h, jour_Store_fits_l2_o, jour_Store_fits_l2 n⟩ ((loopsOf b24).getD 0 .skip) := by
  refine ⟨fun _ => by kernel_rfl, ?_⟩
  rintro k ⟨⟨⟨⟩, x1, x2, x3, x4, ⟨⟩⟩, ⟨⟨⟨⟩, ⟨⟩, x5, x6, x7, ⟨⟩⟩, ⟨x8, ⟨⟩, ⟨⟩, x9, x10, x11, ⟨⟩⟩, x12, x13, x14, ⟨⟩⟩⟩
  kernel_rfl
theorem jour_Store_fits_l8_k1 (n : Nat) : LoopOk P CC (jour_Store_fits_O n) n 5 54 (jour_Store_fits_H n) ⟨[0, 1, 29, 30, 31], jour_Store_fits_l8_h, jour_Store_fits_l8_o, jour_Store_fits_l8 n⟩ ((loopsOf b24).getD 1 .skip) := by
  refine ⟨fun _ => by kernel_rfl, ?_⟩
  rintro k ⟨⟨⟨⟩, x1, x2, x3, x4, ⟨⟩⟩, ⟨⟨⟨⟩, ⟨⟩, x5, x6, x7, ⟨⟩⟩, ⟨x8, ⟨⟩, ⟨⟩, x9, x10, x11, ⟨⟩⟩, x12, x13, x14, ⟨⟩⟩⟩
  kernel_rfl
theorem jour_Store_fits_ok {S : Nat → Addr} (ok : CfgOk P CC S) : ∀ n, SpecOk P CC S 24 ⟨jour_Store_fits_ins, jour_Store_fits_outs, jour_Store_fits n⟩ :=
  fn_all ok (O := jour_Store_fits_O) (H := jour_Store_fits_H) (fn := Tryz.f24) (body := b24) (by kernel_rfl) (by kernel_rfl) (by kernel_rfl) (by decide) (by kernel_rfl)
    (fun x => by kernel_rfl) (fun n => by
      rintro ⟨⟨⟨⟩, x1, ⟨⟩⟩, ⟨⟨⟨⟩, ⟨⟩, x2, x3, x4, ⟨⟩⟩, ⟨x5, ⟨⟩, ⟨⟩, x6, x7, x8, ⟨⟩⟩, x9, x10, x11, ⟨⟩⟩⟩
      kernel_rfl)
    (fun n => obl_of (by kernel_rfl) (by kernel_rfl) (ls (ls (lz) (by kernel_rfl) (jour_Store_fits_l2_k0 n)) (by kernel_rfl) (jour_Store_fits_l8_k1 n)) (cn (cn (cn (cn (cn (cn (cn (cn (cn (cn (cn (cn (cn (cn (cn (cn (cn (cn (cn (cn (cn (cn (cn (cz) (by kernel_rfl)) (by kernel_rfl)) (by kernel_rfl)) (by kernel_rfl)) (by kernel_rfl)) (by kernel_rfl)) (by kernel_rfl)) (by kernel_rfl)) (by kernel_rfl)) (by kernel_rfl)) (by kernel_rfl)) (by kernel_rfl)) (by kernel_rfl)) (by kernel_rfl)) (by kernel_rfl)) (by kernel_rfl)) (by kernel_rfl)) (by kernel_rfl)) (by kernel_rfl)) (by kernel_rfl)) (by kernel_rfl)) (by kernel_rfl)) (by kernel_rfl)) (hn fun _ => rfl))
    (fun n ih => asc_cons (maps_Clone_33_ok ok n) <| asc_cons (jour_apply_ok ok n) <| asc_nil)
/-! ### maps.Equal[map[string]string,map[string]string,string,string] (by hand) -/
abbrev maps_Equal_25_ins : Sh := ⟨[(.one (.map 0)), (.one (.map 1))], [(.map .str .str false), (.map .str .str false)]⟩
abbrev maps_Equal_25_outs : List Sh := [⟨[(.one (.val .bool))], [(.map .str .str false), (.map .str .str false)]⟩]
def maps_Equal_25 : Nat → maps_Equal_25_ins.T → Option (OutsT maps_Equal_25_outs) := fun _ => equalSem
theorem maps_Equal_25_ok {S : Nat → Addr} (ok : CfgOk P CC S) : ∀ n, SpecOk P CC S 25 ⟨maps_Equal_25_ins, maps_Equal_25_outs, maps_Equal_25 n⟩ := fun n => equal_spec (ty := 9) ⟨Tryz.f25, by kernel_rfl, by kernel_rfl, by kernel_rfl⟩ (by kernel_rfl) Sq.equal_calls_0
/-! ### pendulum/wire.put -/
abbrev wire_put_ins : Sh := ⟨[(.one (.arr 0)), (.one (.val (.int .i64)))], [(.arr 5 (.int .u8))]⟩
abbrev wire_put_outs : List Sh := [⟨[(.one (.arr 1))], [.dead, (.arr 5 (.int .u8))]⟩]
abbrev wire_put_l2_h : Sh := ⟨[(.one (.arr 1)), (.one (.val (.int .u64)))], [.dead, (.arr 5 (.int .u8))]⟩
abbrev wire_put_l2_o : List Out := [⟨(.exit 0), [0, 5], ⟨[(.one (.arr 1)), (.one (.val (.int .u64)))], [.dead, (.arr 5 (.int .u8))]⟩⟩]
def wire_put_l2 (n : Nat) : Nat → wire_put_l2_h.T → Option (OutT wire_put_l2_o)
  | 0, _ => none
  | k + 1, ((_, x1, _), (_, l2, _)) =>
    if decide (x1 ≥ 128) then
      let v3 : Int := bitsOp .or .u8 (IntKind.u8.wrap x1) 128
      if (l2.length + ([v3] : List ((.int .u8) : Ty).T).length) * 1 ≤ 140737488355328 then (
        wire_put_l2 n k (((), shrOp .u64 x1 7, ()), ((), l2 ++ [v3], ()))) else none
    else
      some (.inl (((), x1, ()), ((), l2, ())))
def wire_put : Nat → wire_put_ins.T → Option (OutsT wire_put_outs)
  | 0, _ => none
  | n + 1, ((_, x1, _), (l2, _)) =>
    let v3 : Int := shlOp .u64 (IntKind.u64.wrap x1) 1
    let v4 : Int := IntKind.u64.wrap (shrOp .i64 x1 63)
    match wire_put_l2 n n (((), bitsOp .xor .u64 v3 v4, ()), ((), l2, ())) with
    | some (.inl ((_, x5, _), (_, l6, _))) => (
      if (l6.length + ([IntKind.u8.wrap x5] : List ((.int .u8) : Ty).T).length) * 1 ≤ 140737488355328 then (
        some (((), ()), ((), l6 ++ [IntKind.u8.wrap x5], ()))) else none)
    | some (.inr (_)) => none
    | none => none
def wire_put_H (n : Nat) : Hints := ⟨[], fun _ => [], fun k => match k with | 2 => some ⟨[0, 5], wire_put_l2_h, wire_put_l2_o, wire_put_l2 n⟩ | _ => none, fun _ => none, fun _ => none, fun _ => 0⟩
def wire_put_O (n : Nat) : FuncId → List FSpec := asc []
def b63 : Code := bodyOf Tryz.f63
theorem wire_put_l2_k0 (n : Nat) : LoopOk P CC (wire_put_O n) n 1 28 (wire_put_H n) ⟨[0, 5], wire_put_l2_h, wire_put_l2_o, wire_put_l2 n⟩ ((loopsOf b63).getD 0 .skip) := by
  refine ⟨fun _ => by kernel_rfl, ?_⟩
  rintro k ⟨⟨⟨⟩, x1, ⟨⟩⟩, ⟨⟨⟩, x2, ⟨⟩⟩⟩
  kernel_rfl
theorem wire_put_ok {S : Nat → Addr} (ok : CfgOk P CC S) : ∀ n, SpecOk P CC S 63 ⟨wire_put_ins, wire_put_outs, wire_put n⟩ :=
  fn_all ok (O := wire_put_O) (H := wire_put_H) (fn := Tryz.f63) (body := b63) (by kernel_rfl) (by kernel_rfl) (by kernel_rfl) (by decide) (by kernel_rfl)
    (fun x => by kernel_rfl) (fun n => by
      rintro ⟨⟨⟨⟩, x1, ⟨⟩⟩, ⟨x2, ⟨⟩⟩⟩
      kernel_rfl)
    (fun n => obl_of (by kernel_rfl) (by kernel_rfl) (ls (lz) (by kernel_rfl) (wire_put_l2_k0 n)) (cn (cn (cn (cn (cn (cn (cn (cz) (by kernel_rfl)) (by kernel_rfl)) (by kernel_rfl)) (by kernel_rfl)) (by kernel_rfl)) (by kernel_rfl)) (by kernel_rfl)) (hn fun _ => rfl))
    (fun n ih => asc_nil)
/-! ### pendulum/wire.Put -/
abbrev wire_Put_ins : Sh := ⟨[(.one (.arr 0)), (.one (.val (.int .i64)))], [(.arr 5 (.int .u8))]⟩
abbrev wire_Put_outs : List Sh := [⟨[(.one (.arr 1))], [(.frz 5 (.int .u8)), (.arr 5 (.int .u8))]⟩]
def wire_Put : Nat → wire_Put_ins.T → Option (OutsT wire_Put_outs)
  | 0, _ => none
  | n + 1, ((_, x1, _), (l2, _)) =>
    match slices_Clone_byte_byte n ((l2, ()), ()) with
    | some ((_, _), (l3, _)) => (
      match wire_put n (((), x1, ()), (l3, ())) with
      | some ((_, _), (_, l4, _)) => (
        some (((), ()), (l2, l4, ())))
      | none => none)
    | none => none
def wire_Put_H (n : Nat) : Hints := ⟨[], fun _ => [], fun _ => none, fun _ => none, fun _ => none, fun _ => 0⟩
def wire_Put_O (n : Nat) : FuncId → List FSpec := asc [(63, ⟨wire_put_ins, wire_put_outs, wire_put n⟩), (64, ⟨slices_Clone_byte_byte_ins, slices_Clone_byte_byte_outs, slices_Clone_byte_byte n⟩)]
def b43 : Code := bodyOf Tryz.f43
theorem wire_Put_ok {S : Nat → Addr} (ok : CfgOk P CC S) : ∀ n, SpecOk P CC S 43 ⟨wire_Put_ins, wire_Put_outs, wire_Put n⟩ :=
  fn_all ok (O := wire_Put_O) (H := wire_Put_H) (fn := Tryz.f43) (body := b43) (by kernel_rfl) (by kernel_rfl) (by kernel_rfl) (by decide) (by kernel_rfl)
    (fun x => by kernel_rfl) (fun n => by
      rintro ⟨⟨⟨⟩, x1, ⟨⟩⟩, ⟨x2, ⟨⟩⟩⟩
      kernel_rfl)
    (fun n => obl_of (by kernel_rfl) (by kernel_rfl) (lz) (cn (cn (cz) (by kernel_rfl)) (by kernel_rfl)) (hn fun _ => rfl))
    (fun n ih => asc_cons (wire_put_ok ok n) <| asc_cons (slices_Clone_byte_byte_ok ok n) <| asc_nil)
/-! ### pendulum/wire.PutText -/
abbrev wire_PutText_ins : Sh := ⟨[(.one (.arr 0)), (.one (.val .str))], [(.arr 5 (.int .u8))]⟩
abbrev wire_PutText_outs : List Sh := [⟨[(.one (.arr 1))], [(.frz 5 (.int .u8)), (.arr 5 (.int .u8))]⟩]
def wire_PutText : Nat → wire_PutText_ins.T → Option (OutsT wire_PutText_outs)
  | 0, _ => none
  | n + 1, ((_, x1, _), (l2, _)) =>
    match slices_Clone_byte_byte n ((l2, ()), ()) with
    | some ((_, _), (l3, _)) => (
      match wire_put n (((), (x1.size : Int), ()), (l3, ())) with
      | some ((_, _), (_, l4, _)) => (
        if (l4.length + (bytesL x1).length) * 1 ≤ 140737488355328 then (
          some (((), ()), (l2, l4 ++ (bytesL x1), ()))) else none)
      | none => none)
    | none => none
def wire_PutText_H (n : Nat) : Hints := ⟨[], fun _ => [], fun _ => none, fun _ => none, fun _ => none, fun _ => 0⟩
def wire_PutText_O (n : Nat) : FuncId → List FSpec := asc [(63, ⟨wire_put_ins, wire_put_outs, wire_put n⟩), (64, ⟨slices_Clone_byte_byte_ins, slices_Clone_byte_byte_outs, slices_Clone_byte_byte n⟩)]
def b44 : Code := bodyOf Tryz.f44
theorem wire_PutText_ok {S : Nat → Addr} (ok : CfgOk P CC S) : ∀ n, SpecOk P CC S 44 ⟨wire_PutText_ins, wire_PutText_outs, wire_PutText n⟩ :=
  fn_all ok (O := wire_PutText_O) (H := wire_PutText_H) (fn := Tryz.f44) (body := b44) (by kernel_rfl) (by kernel_rfl) (by kernel_rfl) (by decide) (by kernel_rfl)
    (fun x => by kernel_rfl) (fun n => by
      rintro ⟨⟨⟨⟩, x1, ⟨⟩⟩, ⟨x2, ⟨⟩⟩⟩
      kernel_rfl)
    (fun n => obl_of (by kernel_rfl) (by kernel_rfl) (lz) (cn (cn (cz) (by kernel_rfl)) (by kernel_rfl)) (hn fun _ => rfl))
    (fun n ih => asc_cons (wire_put_ok ok n) <| asc_cons (slices_Clone_byte_byte_ok ok n) <| asc_nil)
/-! ### pendulum/jour.bytes -/
abbrev jour_bytes_ins : Sh := ⟨[(.one (.val (.int .i64))), (.one (.val ty3))], []⟩
abbrev jour_bytes_outs : List Sh := [⟨[(.one (.arr 0))], [(.arr 5 (.int .u8))]⟩]
abbrev jour_bytes_c9_h : Sh := ⟨[(.one (.arr 0)), (.one (.ptr 1 0)), (.one (.val (.int .i64))), (.one (.val ty3)), (.one (.val (.int .i64))), (.one (.val (.int .i64)))], [(.arr 5 (.int .u8)), (.obj 55 [(.val .str), (.val .str), (.val .bool)])]⟩
abbrev jour_bytes_c9_o : List Out := [⟨.normal, [5, 7, 8, 15, 16, 17], ⟨[(.one (.arr 0)), (.one (.ptr 1 0)), (.one (.val (.int .i64))), (.one (.val ty3)), (.one (.val (.int .i64))), (.one (.val (.int .i64)))], [(.arr 5 (.int .u8)), (.obj 55 [(.val .str), (.val .str), (.val .bool)])]⟩⟩]
def jour_bytes_c9 (n : Nat) : jour_bytes_c9_h.T → Option (OutT jour_bytes_c9_o)
  | ((_, _, x1, x2, x3, x4, _), (l5, (x6, x7, x8, _), _)) =>
    if x8 then
      some (.inl (((), (), 1, x2, x3, x4, ()), (l5, (x6, x7, x8, ()), ())))
    else
      some (.inl (((), (), x1, x2, x3, x4, ()), (l5, (x6, x7, x8, ()), ())))
abbrev jour_bytes_l4_h : Sh := ⟨[(.one (.arr 0)), (.one (.val ty3)), (.one (.val (.int .i64))), (.one (.val (.int .i64)))], [(.arr 5 (.int .u8))]⟩
abbrev jour_bytes_l4_o : List Out := [⟨(.exit 0), [5], ⟨[(.one (.arr 0))], [(.arr 5 (.int .u8))]⟩⟩]
def jour_bytes_l4 (n : Nat) : Nat → jour_bytes_l4_h.T → Option (OutT jour_bytes_l4_o)
  | 0, _ => none
  | k + 1, ((_, x1, x2, x3, _), (l4, _)) =>
    if decide (x3 < x2) then
      if 0 ≤ x3 ∧ x3 < (x1.length : Int) then (
        match jour_bytes_c9 n (((), (), 0, x1, x2, x3, ()), (l4, ((rdT ty0 x1 x3).1, ((rdT ty0 x1 x3).2).1, ((rdT ty0 x1 x3).2).2, ()), ())) with
        | some (.inl ((_, _, x5, x6, x7, x8, _), (l9, (x10, x11, x12, _), _))) => (
          match wire_PutText n (((), x10, ()), ([], ())) with
          | some ((_, _), (l13, l14, _)) => (
            match wire_Put n (((), x5, ()), (l14, ())) with
            | some ((_, _), (l15, l16, _)) => (
              if (l9.length + l16.length) * 1 ≤ 140737488355328 then (
                if !x12 then
                  match wire_PutText n (((), x11, ()), ([], ())) with
                  | some ((_, _), (l17, l18, _)) => (
                    if ((l9 ++ l16).length + l18.length) * 1 ≤ 140737488355328 then (
                      let v19 : Int := IntKind.i64.wrap (x8 + 1)
                      jour_bytes_l4 n k (((), x6, x7, v19, ()), ((l9 ++ l16) ++ l18, ()))) else none)
                  | none => none
                else
                  let v20 : Int := IntKind.i64.wrap (x8 + 1)
                  jour_bytes_l4 n k (((), x6, x7, v20, ()), (l9 ++ l16, ()))) else none)
            | none => none)
          | none => none)
        | some (.inr (_)) => none
        | none => none) else none
    else
      some (.inl (((), ()), (l4, ())))
def jour_bytes : Nat → jour_bytes_ins.T → Option (OutsT jour_bytes_outs)
  | 0, _ => none
  | n + 1, ((x1, x2, _), _) =>
    match wire_Put n (((), x1, ()), ([], ())) with
    | some ((_, _), (l3, l4, _)) => (
      match wire_Put n (((), (x2.length : Int), ()), (l4, ())) with
      | some ((_, _), (l5, l6, _)) => (
        match jour_bytes_l4 n n (((), x2, (x2.length : Int), 0, ()), (l6, ())) with
        | some (.inl ((_, _), (l7, _))) => (
          some (((), ()), (l7, ())))
        | some (.inr (_)) => none
        | none => none)
      | none => none)
    | none => none
def jour_bytes_H (n : Nat) : Hints := ⟨[], fun _ => [], fun k => match k with | 4 => some ⟨[5, 15, 16, 17], jour_bytes_l4_h, jour_bytes_l4_o, jour_bytes_l4 n⟩ | _ => none, fun k => match k with | 9 => some ⟨[5, 7, 8, 15, 16, 17], jour_bytes_c9_h, jour_bytes_c9_o, fun n => jour_bytes_c9 n⟩ | _ => none, fun _ => none, fun _ => 0⟩
def jour_bytes_O (n : Nat) : FuncId → List FSpec := asc [(43, ⟨wire_Put_ins, wire_Put_outs, wire_Put n⟩), (44, ⟨wire_PutText_ins, wire_PutText_outs, wire_PutText n⟩)]
def b26 : Code := bodyOf Tryz.f26
theorem jour_bytes_l4_k0 (n : Nat) : LoopOk P CC (jour_bytes_O n) n 0 40 (jour_bytes_H n) ⟨[5, 15, 16, 17], jour_bytes_l4_h, jour_bytes_l4_o, jour_bytes_l4 n⟩ ((loopsOf b26).getD 0 .skip) := by
  refine ⟨fun _ => by kernel_rfl, ?_⟩
  rintro k ⟨⟨⟨⟩, x1, x2, x3, ⟨⟩⟩, ⟨x4, ⟨⟩⟩⟩
  kernel_rfl
theorem jour_bytes_c9_k10 (n : Nat) : CutOk P CC (jour_bytes_O n) n 0 40 (jour_bytes_H n) ⟨[5, 7, 8, 15, 16, 17], jour_bytes_c9_h, jour_bytes_c9_o, fun n => jour_bytes_c9 n⟩ ((cutsOf b26).getD 10 (0, .skip)).2 := by
  rintro ⟨⟨⟨⟩, ⟨⟩, x1, x2, x3, x4, ⟨⟩⟩, ⟨x5, ⟨x6, x7, x8, ⟨⟩⟩, ⟨⟩⟩⟩
  kernel_rfl
theorem jour_bytes_ok {S : Nat → Addr} (ok : CfgOk P CC S) : ∀ n, SpecOk P CC S 26 ⟨jour_bytes_ins, jour_bytes_outs, jour_bytes n⟩ :=
  fn_all ok (O := jour_bytes_O) (H := jour_bytes_H) (fn := Tryz.f26) (body := b26) (by kernel_rfl) (by kernel_rfl) (by kernel_rfl) (by decide) (by kernel_rfl)
    (fun x => by kernel_rfl) (fun n => by
      rintro ⟨⟨x1, x2, ⟨⟩⟩, ⟨⟩⟩
      kernel_rfl)
    (fun n => obl_of (by kernel_rfl) (by kernel_rfl) (ls (lz) (by kernel_rfl) (jour_bytes_l4_k0 n)) (cn (cn (cn (cn (cs (cn (cn (cn (cn (cn (cn (cn (cn (cn (cn (cz) (by kernel_rfl)) (by kernel_rfl)) (by kernel_rfl)) (by kernel_rfl)) (by kernel_rfl)) (by kernel_rfl)) (by kernel_rfl)) (by kernel_rfl)) (by kernel_rfl)) (by kernel_rfl)) (by kernel_rfl) (jour_bytes_c9_k10 n)) (by kernel_rfl)) (by kernel_rfl)) (by kernel_rfl)) (by kernel_rfl)) (hn fun _ => rfl))
    (fun n ih => asc_cons (wire_Put_ok ok n) <| asc_cons (wire_PutText_ok ok n) <| asc_nil)
/-! ### pendulum/jour.sectors -/
abbrev jour_sectors_ins : Sh := ⟨[(.one (.arr 0))], [(.arr 5 (.int .u8))]⟩
abbrev jour_sectors_outs : List Sh := [⟨[(.one (.val (.int .i64)))], [(.arr 5 (.int .u8))]⟩]
def jour_sectors : Nat → jour_sectors_ins.T → Option (OutsT jour_sectors_outs)
  | 0, _ => none
  | n + 1, ((_, _), (l1, _)) =>
    let v2 : Int := IntKind.i64.wrap ((l1.length : Int) + 116)
    let v3 : Int := IntKind.i64.wrap (v2 - 1)
    let v4 : Int := IntKind.i64.wrap (Int.tdiv v3 116)
    some ((v4, ()), (l1, ()))
def jour_sectors_H (n : Nat) : Hints := ⟨[], fun _ => [], fun _ => none, fun _ => none, fun _ => none, fun _ => 0⟩
def jour_sectors_O (n : Nat) : FuncId → List FSpec := asc []
def b28 : Code := bodyOf Tryz.f28
theorem jour_sectors_ok {S : Nat → Addr} (ok : CfgOk P CC S) : ∀ n, SpecOk P CC S 28 ⟨jour_sectors_ins, jour_sectors_outs, jour_sectors n⟩ :=
  fn_all ok (O := jour_sectors_O) (H := jour_sectors_H) (fn := Tryz.f28) (body := b28) (by kernel_rfl) (by kernel_rfl) (by kernel_rfl) (by decide) (by kernel_rfl)
    (fun x => by kernel_rfl) (fun n => by
      rintro ⟨⟨⟨⟩, ⟨⟩⟩, ⟨x1, ⟨⟩⟩⟩
      kernel_rfl)
    (fun n => obl_of (by kernel_rfl) (by kernel_rfl) (lz) (cn (cn (cz) (by kernel_rfl)) (by kernel_rfl)) (hn fun _ => rfl))
    (fun n ih => asc_nil)
/-! ### pendulum/jour.sectors -/
abbrev jour_sectors_2_ins : Sh := ⟨[(.one (.val ty2))], []⟩
abbrev jour_sectors_2_outs : List Sh := [⟨[(.one (.val (.int .i64)))], []⟩]
def jour_sectors_2 : Nat → jour_sectors_2_ins.T → Option (OutsT jour_sectors_2_outs)
  | 0, _ => none
  | n + 1, ((x1, _), _) =>
    let v2 : Int := IntKind.i64.wrap ((x1.length : Int) + 116)
    let v3 : Int := IntKind.i64.wrap (v2 - 1)
    let v4 : Int := IntKind.i64.wrap (Int.tdiv v3 116)
    some ((v4, ()), ())
def jour_sectors_2_H (n : Nat) : Hints := ⟨[], fun _ => [], fun _ => none, fun _ => none, fun _ => none, fun _ => 0⟩
def jour_sectors_2_O (n : Nat) : FuncId → List FSpec := asc []
theorem jour_sectors_2_ok {S : Nat → Addr} (ok : CfgOk P CC S) : ∀ n, SpecOk P CC S 28 ⟨jour_sectors_2_ins, jour_sectors_2_outs, jour_sectors_2 n⟩ :=
  fn_all ok (O := jour_sectors_2_O) (H := jour_sectors_2_H) (fn := Tryz.f28) (body := b28) (by kernel_rfl) (by kernel_rfl) (by kernel_rfl) (by decide) (by kernel_rfl)
    (fun x => by kernel_rfl) (fun n => by
      rintro ⟨⟨x1, ⟨⟩⟩, ⟨⟩⟩
      kernel_rfl)
    (fun n => obl_of (by kernel_rfl) (by kernel_rfl) (lz) (cn (cn (cz) (by kernel_rfl)) (by kernel_rfl)) (hn fun _ => rfl))
    (fun n ih => asc_nil)
/-! ### pendulum/jour.number -/
abbrev jour_number_ins : Sh := ⟨[(.one (.arr 0)), (.one (.val (.int .i64))), (.one (.val (.int .i64)))], [(.arr 5 (.int .u8))]⟩
abbrev jour_number_outs : List Sh := [⟨[(.one (.arr 1))], [.dead, (.arr 5 (.int .u8))]⟩]
abbrev jour_number_l2_h : Sh := ⟨[(.one (.arr 1)), (.one (.val (.int .i64))), (.one (.val (.int .i64))), (.one (.val (.int .i64)))], [.dead, (.arr 5 (.int .u8))]⟩
abbrev jour_number_l2_o : List Out := [⟨(.exit 0), [0], ⟨[(.one (.arr 1))], [.dead, (.arr 5 (.int .u8))]⟩⟩]
def jour_number_l2 (n : Nat) : Nat → jour_number_l2_h.T → Option (OutT jour_number_l2_o)
  | 0, _ => none
  | k + 1, ((_, x1, x2, x3, _), (_, l4, _)) =>
    if decide (x3 < x2) then
      let v5 : Int := IntKind.i64.wrap (8 * x3)
      if v5 < 0 then
        none
      else
        let v6 : Int := IntKind.u8.wrap (shrOp .i64 x1 v5)
        if (l4.length + ([v6] : List ((.int .u8) : Ty).T).length) * 1 ≤ 140737488355328 then (
          let v7 : Int := IntKind.i64.wrap (x3 + 1)
          jour_number_l2 n k (((), x1, x2, v7, ()), ((), l4 ++ [v6], ()))) else none
    else
      some (.inl (((), ()), ((), l4, ())))
def jour_number : Nat → jour_number_ins.T → Option (OutsT jour_number_outs)
  | 0, _ => none
  | n + 1, ((_, x1, x2, _), (l3, _)) =>
    match jour_number_l2 n n (((), x1, x2, 0, ()), ((), l3, ())) with
    | some (.inl ((_, _), (_, l4, _))) => (
      some (((), ()), ((), l4, ())))
    | some (.inr (_)) => none
    | none => none
def jour_number_H (n : Nat) : Hints := ⟨[], fun _ => [], fun k => match k with | 2 => some ⟨[0, 1, 8, 9], jour_number_l2_h, jour_number_l2_o, jour_number_l2 n⟩ | _ => none, fun _ => none, fun _ => none, fun _ => 0⟩
def jour_number_O (n : Nat) : FuncId → List FSpec := asc []
def b45 : Code := bodyOf Tryz.f45
theorem jour_number_l2_k0 (n : Nat) : LoopOk P CC (jour_number_O n) n 1 22 (jour_number_H n) ⟨[0, 1, 8, 9], jour_number_l2_h, jour_number_l2_o, jour_number_l2 n⟩ ((loopsOf b45).getD 0 .skip) := by
  refine ⟨fun _ => by kernel_rfl, ?_⟩
  rintro k ⟨⟨⟨⟩, x1, x2, x3, ⟨⟩⟩, ⟨⟨⟩, x4, ⟨⟩⟩⟩
  kernel_rfl
theorem jour_number_ok {S : Nat → Addr} (ok : CfgOk P CC S) : ∀ n, SpecOk P CC S 45 ⟨jour_number_ins, jour_number_outs, jour_number n⟩ :=
  fn_all ok (O := jour_number_O) (H := jour_number_H) (fn := Tryz.f45) (body := b45) (by kernel_rfl) (by kernel_rfl) (by kernel_rfl) (by decide) (by kernel_rfl)
    (fun x => by kernel_rfl) (fun n => by
      rintro ⟨⟨⟨⟩, x1, x2, ⟨⟩⟩, ⟨x3, ⟨⟩⟩⟩
      kernel_rfl)
    (fun n => obl_of (by kernel_rfl) (by kernel_rfl) (ls (lz) (by kernel_rfl) (jour_number_l2_k0 n)) (cn (cn (cn (cn (cn (cn (cn (cn (cz) (by kernel_rfl)) (by kernel_rfl)) (by kernel_rfl)) (by kernel_rfl)) (by kernel_rfl)) (by kernel_rfl)) (by kernel_rfl)) (by kernel_rfl)) (hn fun _ => rfl))
    (fun n ih => asc_nil)
/-! ### (*pendulum/disk.Disk).up -/
abbrev disk_Disk_up_ins : Sh := ⟨[(.one (.ptr 0 0))], [(.obj 61 [(.val (.int .i64)), (.map 1), (.map 2), (.val (.int .i64)), (.val (.int .i64)), (.val .bool)]), (.map (.int .i64) ty2 false), (.map (.int .i64) ty2 false)]⟩
abbrev disk_Disk_up_outs : List Sh := [⟨[(.one (.val .bool))], [(.obj 61 [(.val (.int .i64)), (.map 1), (.map 2), (.val (.int .i64)), (.val (.int .i64)), (.val .bool)]), (.map (.int .i64) ty2 false), (.map (.int .i64) ty2 false)]⟩]
abbrev disk_Disk_up_c4_h : Sh := ⟨[(.one (.ptr 0 0))], [(.obj 61 [(.val (.int .i64)), (.map 1), (.map 2), (.val (.int .i64)), (.val (.int .i64)), (.val .bool)]), (.map (.int .i64) ty2 false), (.map (.int .i64) ty2 false)]⟩
abbrev disk_Disk_up_c4_o : List Out := [⟨.normal, [0], ⟨[(.one (.ptr 0 0))], [(.obj 61 [(.val (.int .i64)), (.map 1), (.map 2), (.val (.int .i64)), (.val (.int .i64)), (.val .bool)]), (.map (.int .i64) ty2 false), (.map (.int .i64) ty2 false)]⟩⟩]
def disk_Disk_up_c4 (n : Nat) : disk_Disk_up_c4_h.T → Option (OutT disk_Disk_up_c4_o)
  | ((_, _), ((x1, _, _, x2, x3, x4, _), m5, m6, _)) =>
    if !x4 then
      if decide (x3 > 0) then
        let v7 : Int := IntKind.i64.wrap (x3 - 1)
        some (.inl (((), ()), ((x1, (), (), x2, v7, v7 == 0, ()), m5, m6, ())))
      else
        some (.inl (((), ()), ((x1, (), (), x2, x3, x4, ()), m5, m6, ())))
    else
      some (.inl (((), ()), ((x1, (), (), x2, x3, x4, ()), m5, m6, ())))
def disk_Disk_up : Nat → disk_Disk_up_ins.T → Option (OutsT disk_Disk_up_outs)
  | 0, _ => none
  | n + 1, ((_, _), ((x1, _, _, x2, x3, x4, _), m5, m6, _)) =>
    match disk_Disk_up_c4 n (((), ()), ((x1, (), (), x2, x3, x4, ()), m5, m6, ())) with
    | some (.inl ((_, _), ((x7, _, _, x8, x9, x10, _), m11, m12, _))) => (
      some ((!x10, ()), ((x7, (), (), x8, x9, x10, ()), m11, m12, ())))
    | some (.inr (_)) => none
    | none => none
def disk_Disk_up_H (n : Nat) : Hints := ⟨[], fun _ => [], fun _ => none, fun k => match k with | 4 => some ⟨[0], disk_Disk_up_c4_h, disk_Disk_up_c4_o, fun n => disk_Disk_up_c4 n⟩ | _ => none, fun _ => none, fun _ => 0⟩
def disk_Disk_up_O (n : Nat) : FuncId → List FSpec := asc []
def b65 : Code := bodyOf Tryz.f65
theorem disk_Disk_up_c4_k1 (n : Nat) : CutOk P CC (disk_Disk_up_O n) n 3 35 (disk_Disk_up_H n) ⟨[0], disk_Disk_up_c4_h, disk_Disk_up_c4_o, fun n => disk_Disk_up_c4 n⟩ ((cutsOf b65).getD 1 (0, .skip)).2 := by
  rintro ⟨⟨⟨⟩, ⟨⟩⟩, ⟨⟨x1, ⟨⟩, ⟨⟩, x2, x3, x4, ⟨⟩⟩, x5, x6, ⟨⟩⟩⟩
  kernel_rfl
theorem disk_Disk_up_ok {S : Nat → Addr} (ok : CfgOk P CC S) : ∀ n, SpecOk P CC S 65 ⟨disk_Disk_up_ins, disk_Disk_up_outs, disk_Disk_up n⟩ :=
  fn_all ok (O := disk_Disk_up_O) (H := disk_Disk_up_H) (fn := Tryz.f65) (body := b65) (by kernel_rfl) (by kernel_rfl) (by kernel_rfl) (by decide) (by kernel_rfl)
    (fun x => by kernel_rfl) (fun n => by
      rintro ⟨⟨⟨⟩, ⟨⟩⟩, ⟨⟨x1, ⟨⟩, ⟨⟩, x2, x3, x4, ⟨⟩⟩, x5, x6, ⟨⟩⟩⟩
      kernel_rfl)
    (fun n => obl_of (by kernel_rfl) (by kernel_rfl) (lz) (cn (cn (cn (cs (cn (cz) (by kernel_rfl)) (by kernel_rfl) (disk_Disk_up_c4_k1 n)) (by kernel_rfl)) (by kernel_rfl)) (by kernel_rfl)) (hn fun _ => rfl))
    (fun n ih => asc_nil)
/-! ### (*pendulum/disk.Disk).Write -/
abbrev disk_Disk_Write_ins : Sh := ⟨[(.one (.ptr 0 0)), (.one (.val (.int .i64))), (.one (.arr 1))], [(.obj 61 [(.val (.int .i64)), (.map 2), (.map 3), (.val (.int .i64)), (.val (.int .i64)), (.val .bool)]), (.arr 5 (.int .u8)), (.map (.int .i64) ty2 false), (.map (.int .i64) ty2 false)]⟩
abbrev disk_Disk_Write_outs : List Sh := [⟨[(.one (.val .err))], [(.obj 61 [(.val (.int .i64)), (.map 2), (.map 3), (.val (.int .i64)), (.val (.int .i64)), (.val .bool)]), .dead, (.map (.int .i64) ty2 false), (.map (.int .i64) ty2 false)]⟩]
def disk_Disk_Write : Nat → disk_Disk_Write_ins.T → Option (OutsT disk_Disk_Write_outs)
  | 0, _ => none
  | n + 1, ((_, x1, _, _), ((x2, _, _, x3, x4, x5, _), l6, m7, m8, _)) =>
    match disk_Disk_up n (((), ()), ((x2, (), (), x3, x4, x5, ()), m7, m8, ())) with
    | some ((x9, _), ((x10, _, _, x11, x12, x13, _), m14, m15, _)) => (
      if !x9 then
        some ((ErrV.sent 119, ()), ((x10, (), (), x11, x12, x13, ()), (), m14, m15, ()))
      else
        if decide (x1 < 0) then
          some ((ErrV.sent 118, ()), ((x10, (), (), x11, x12, x13, ()), (), m14, m15, ()))
        else
          if decide (x1 ≥ x10) then
            some ((ErrV.sent 118, ()), ((x10, (), (), x11, x12, x13, ()), (), m14, m15, ()))
          else
            if decide ((l6.length : Int) > 128) then
              some ((ErrV.sent 103, ()), ((x10, (), (), x11, x12, x13, ()), (), m14, m15, ()))
            else
              match slices_Clone_byte_byte n ((l6, ()), ()) with
              | some ((_, _), (l16, _)) => (
                let v17 : Int := IntKind.i64.wrap (x11 + 1)
                some ((ErrV.nil, ()), ((x10, (), (), v17, x12, x13, ()), (), m14, mset (keyEq ((.int .i64) : Ty)) x1 l16 m15, ())))
              | none => none)
    | none => none
def disk_Disk_Write_H (n : Nat) : Hints := ⟨[], fun _ => [], fun _ => none, fun _ => none, fun _ => none, fun _ => 0⟩
def disk_Disk_Write_O (n : Nat) : FuncId → List FSpec := asc [(64, ⟨slices_Clone_byte_byte_ins, slices_Clone_byte_byte_outs, slices_Clone_byte_byte n⟩), (65, ⟨disk_Disk_up_ins, disk_Disk_up_outs, disk_Disk_up n⟩)]
def b46 : Code := bodyOf Tryz.f46
theorem disk_Disk_Write_ok {S : Nat → Addr} (ok : CfgOk P CC S) : ∀ n, SpecOk P CC S 46 ⟨disk_Disk_Write_ins, disk_Disk_Write_outs, disk_Disk_Write n⟩ :=
  fn_all ok (O := disk_Disk_Write_O) (H := disk_Disk_Write_H) (fn := Tryz.f46) (body := b46) (by kernel_rfl) (by kernel_rfl) (by kernel_rfl) (by decide) (by kernel_rfl)
    (fun x => by kernel_rfl) (fun n => by
      rintro ⟨⟨⟨⟩, x1, ⟨⟩, ⟨⟩⟩, ⟨⟨x2, ⟨⟩, ⟨⟩, x3, x4, x5, ⟨⟩⟩, x6, x7, x8, ⟨⟩⟩⟩
      kernel_rfl)
    (fun n => obl_of (by kernel_rfl) (by kernel_rfl) (lz) (cn (cn (cn (cn (cn (cn (cn (cn (cn (cn (cn (cz) (by kernel_rfl)) (by kernel_rfl)) (by kernel_rfl)) (by kernel_rfl)) (by kernel_rfl)) (by kernel_rfl)) (by kernel_rfl)) (by kernel_rfl)) (by kernel_rfl)) (by kernel_rfl)) (by kernel_rfl)) (hn fun _ => rfl))
    (fun n ih => asc_cons (slices_Clone_byte_byte_ok ok n) <| asc_cons (disk_Disk_up_ok ok n) <| asc_nil)
/-! ### maps.Copy[map[int][]byte,map[int][]byte,int,[]byte] (by hand) -/
abbrev maps_Copy_66_ins : Sh := ⟨[(.one (.map 0)), (.one (.map 1))], [(.map (.int .i64) ty2 false), (.map (.int .i64) ty2 false)]⟩
abbrev maps_Copy_66_outs : List Sh := [⟨[(.tup [])], [(.map (.int .i64) ty2 false), (.map (.int .i64) ty2 false)]⟩]
def maps_Copy_66 : Nat → maps_Copy_66_ins.T → Option (OutsT maps_Copy_66_outs) := fun _ => copySem ty2 false
theorem maps_Copy_66_ok {S : Nat → Addr} (ok : CfgOk P CC S) : ∀ n, SpecOk P CC S 66 ⟨maps_Copy_66_ins, maps_Copy_66_outs, maps_Copy_66 n⟩ := fun n => copy_spec (ty := 3) (vT := 3) ⟨Tryz.f66, by kernel_rfl, by kernel_rfl, by kernel_rfl⟩ (by kernel_rfl) Sq.copy_calls_int0
/-! ### (*pendulum/disk.Disk).Flush -/
abbrev disk_Disk_Flush_ins : Sh := ⟨[(.one (.ptr 0 0))], [(.obj 61 [(.val (.int .i64)), (.map 1), (.map 2), (.val (.int .i64)), (.val (.int .i64)), (.val .bool)]), (.map (.int .i64) ty2 false), (.map (.int .i64) ty2 false)]⟩
abbrev disk_Disk_Flush_outs : List Sh := [⟨[(.one (.val .err))], [(.obj 61 [(.val (.int .i64)), (.map 1), (.map 2), (.val (.int .i64)), (.val (.int .i64)), (.val .bool)]), (.map (.int .i64) ty2 false), (.map (.int .i64) ty2 false)]⟩]
def disk_Disk_Flush : Nat → disk_Disk_Flush_ins.T → Option (OutsT disk_Disk_Flush_outs)
  | 0, _ => none
  | n + 1, ((_, _), ((x1, _, _, x2, x3, x4, _), m5, m6, _)) =>
    match disk_Disk_up n (((), ()), ((x1, (), (), x2, x3, x4, ()), m5, m6, ())) with
    | some ((x7, _), ((x8, _, _, x9, x10, x11, _), m12, m13, _)) => (
      if !x7 then
        some ((ErrV.sent 119, ()), ((x8, (), (), x9, x10, x11, ()), m12, m13, ()))
      else
        match maps_Copy_66 n (((), (), ()), (m12, m13, ())) with
        | some ((_, _), (m14, m15, _)) => (
          let v16 : Int := IntKind.i64.wrap (x9 + 1)
          some ((ErrV.nil, ()), ((x8, (), (), v16, x10, x11, ()), m14, [], ())))
        | none => none)
    | none => none
def disk_Disk_Flush_H (n : Nat) : Hints := ⟨[], fun _ => [], fun _ => none, fun _ => none, fun _ => none, fun _ => 0⟩
def disk_Disk_Flush_O (n : Nat) : FuncId → List FSpec := asc [(65, ⟨disk_Disk_up_ins, disk_Disk_up_outs, disk_Disk_up n⟩), (66, ⟨maps_Copy_66_ins, maps_Copy_66_outs, maps_Copy_66 n⟩)]
def b47 : Code := bodyOf Tryz.f47
theorem disk_Disk_Flush_ok {S : Nat → Addr} (ok : CfgOk P CC S) : ∀ n, SpecOk P CC S 47 ⟨disk_Disk_Flush_ins, disk_Disk_Flush_outs, disk_Disk_Flush n⟩ :=
  fn_all ok (O := disk_Disk_Flush_O) (H := disk_Disk_Flush_H) (fn := Tryz.f47) (body := b47) (by kernel_rfl) (by kernel_rfl) (by kernel_rfl) (by decide) (by kernel_rfl)
    (fun x => by kernel_rfl) (fun n => by
      rintro ⟨⟨⟨⟩, ⟨⟩⟩, ⟨⟨x1, ⟨⟩, ⟨⟩, x2, x3, x4, ⟨⟩⟩, x5, x6, ⟨⟩⟩⟩
      kernel_rfl)
    (fun n => obl_of (by kernel_rfl) (by kernel_rfl) (lz) (cn (cn (cn (cn (cn (cn (cn (cn (cz) (by kernel_rfl)) (by kernel_rfl)) (by kernel_rfl)) (by kernel_rfl)) (by kernel_rfl)) (by kernel_rfl)) (by kernel_rfl)) (by kernel_rfl)) (hn fun _ => rfl))
    (fun n ih => asc_cons (disk_Disk_up_ok ok n) <| asc_cons (maps_Copy_66_ok ok n) <| asc_nil)
/-! ### (*pendulum/jour.Store).write -/
abbrev jour_Store_write_ins : Sh := ⟨[(.one (.ptr 0 0)), (.one (.val (.int .i64))), (.one (.val ty2))], [(.obj 68 [(.ptr 1 0), (.map 2), (.val (.int .i64)), (.val (.int .i64)), (.val (.int .i64))]), (.obj 61 [(.val (.int .i64)), (.map 3), (.map 4), (.val (.int .i64)), (.val (.int .i64)), (.val .bool)]), (.map .str .str false), (.map (.int .i64) ty2 false), (.map (.int .i64) ty2 false)]⟩
abbrev jour_Store_write_outs : List Sh := [⟨[(.one (.val .err))], [(.obj 68 [(.ptr 1 0), (.map 2), (.val (.int .i64)), (.val (.int .i64)), (.val (.int .i64))]), (.obj 61 [(.val (.int .i64)), (.map 3), (.map 4), (.val (.int .i64)), (.val (.int .i64)), (.val .bool)]), (.map .str .str false), (.map (.int .i64) ty2 false), (.map (.int .i64) ty2 false)]⟩]
abbrev jour_Store_write_l4_h : Sh := ⟨[(.one (.ptr 0 0)), (.one (.val (.int .i64))), (.one (.val ty2)), (.one (.val (.int .i64))), (.one (.val (.int .i64))), (.one (.val (.int .i64)))], [(.obj 68 [(.ptr 1 0), (.map 2), (.val (.int .i64)), (.val (.int .i64)), (.val (.int .i64))]), (.obj 61 [(.val (.int .i64)), (.map 3), (.map 4), (.val (.int .i64)), (.val (.int .i64)), (.val .bool)]), (.map .str .str false), (.map (.int .i64) ty2 false), (.map (.int .i64) ty2 false)]⟩
abbrev jour_Store_write_l4_o : List Out := [⟨(.exit 0), [0], ⟨[(.one (.ptr 0 0))], [(.obj 68 [(.ptr 1 0), (.map 2), (.val (.int .i64)), (.val (.int .i64)), (.val (.int .i64))]), (.obj 61 [(.val (.int .i64)), (.map 3), (.map 4), (.val (.int .i64)), (.val (.int .i64)), (.val .bool)]), (.map .str .str false), (.map (.int .i64) ty2 false), (.map (.int .i64) ty2 false)]⟩⟩, ⟨.ret, [6], ⟨[(.one (.val .err))], [(.obj 68 [(.ptr 1 0), (.map 2), (.val (.int .i64)), (.val (.int .i64)), (.val (.int .i64))]), (.obj 61 [(.val (.int .i64)), (.map 3), (.map 4), (.val (.int .i64)), (.val (.int .i64)), (.val .bool)]), (.map .str .str false), (.map (.int .i64) ty2 false), (.map (.int .i64) ty2 false)]⟩⟩]
def jour_Store_write_l4 (n : Nat) : Nat → jour_Store_write_l4_h.T → Option (OutT jour_Store_write_l4_o)
  | 0, _ => none
  | k + 1, ((_, x1, x2, x3, x4, x5, _), ((_, _, x6, x7, x8, _), (x9, _, _, x10, x11, x12, _), m13, m14, m15, _)) =>
    if decide (x5 < x4) then
      match jour_number n (((), x8, 8, ()), ([], ())) with
      | some ((_, _), (_, l16, _)) => (
        match jour_number n (((), x5, 2, ()), (l16, ())) with
        | some ((_, _), (_, l17, _)) => (
          match jour_number n (((), x3, 2, ()), (l17, ())) with
          | some ((_, _), (_, l18, _)) => (
            let v19 : Int := IntKind.i64.wrap (x5 * 116)
            let v20 : Int := IntKind.i64.wrap (x5 + 1)
            let v21 : Int := IntKind.i64.wrap (v20 * 116)
            if 0 ≤ v19 ∧ v19 ≤ mn (x2.length : Int) v21 ∧ mn (x2.length : Int) v21 ≤ (x2.length : Int) then (
              let v22 : List Int := cutL x2 v19 (mn (x2.length : Int) v21)
              if (l18.length + v22.length) * 1 ≤ 140737488355328 then (
                let v23 : Int := IntKind.i64.wrap (x1 + x5)
                match disk_Disk_Write n (((), v23, (), ()), ((x9, (), (), x10, x11, x12, ()), l18 ++ v22, m14, m15, ())) with
                | some ((x24, _), ((x25, _, _, x26, x27, x28, _), _, m29, m30, _)) => (
                  if !(errNil x24) then
                    some (.inr (.inl ((x24, ()), (((), (), x6, x7, x8, ()), (x25, (), (), x26, x27, x28, ()), m13, m29, m30, ()))))
                  else
                    let v31 : Int := IntKind.i64.wrap (x5 + 1)
                    jour_Store_write_l4 n k (((), x1, x2, x3, x4, v31, ()), (((), (), x6, x7, x8, ()), (x25, (), (), x26, x27, x28, ()), m13, m29, m30, ())))
                | none => none) else none) else none)
          | none => none)
        | none => none)
      | none => none
    else
      some (.inl (((), ()), (((), (), x6, x7, x8, ()), (x9, (), (), x10, x11, x12, ()), m13, m14, m15, ())))
def jour_Store_write : Nat → jour_Store_write_ins.T → Option (OutsT jour_Store_write_outs)
  | 0, _ => none
  | n + 1, ((_, x1, x2, _), ((_, _, x3, x4, x5, _), (x6, _, _, x7, x8, x9, _), m10, m11, m12, _)) =>
    let v13 : Int := IntKind.i64.wrap (x5 + 1)
    match jour_sectors_2 n ((x2, ()), ()) with
    | some ((x14, _), _) => (
      match jour_Store_write_l4 n n (((), x1, x2, x14, x14, 0, ()), (((), (), x3, x4, v13, ()), (x6, (), (), x7, x8, x9, ()), m10, m11, m12, ())) with
      | some (.inl ((_, _), ((_, _, x15, x16, x17, _), (x18, _, _, x19, x20, x21, _), m22, m23, m24, _))) => (
        match disk_Disk_Flush n (((), ()), ((x18, (), (), x19, x20, x21, ()), m23, m24, ())) with
        | some ((x36, _), ((x37, _, _, x38, x39, x40, _), m41, m42, _)) => (
          some ((x36, ()), (((), (), x15, x16, x17, ()), (x37, (), (), x38, x39, x40, ()), m22, m41, m42, ())))
        | none => none)
      | some (.inr (.inl ((x25, _), ((_, _, x26, x27, x28, _), (x29, _, _, x30, x31, x32, _), m33, m34, m35, _)))) => (
        some ((x25, ()), (((), (), x26, x27, x28, ()), (x29, (), (), x30, x31, x32, ()), m33, m34, m35, ())))
      | some (.inr (.inr (_))) => none
      | none => none)
    | none => none
def jour_Store_write_H (n : Nat) : Hints := ⟨[], fun _ => [], fun k => match k with | 4 => some ⟨[0, 1, 2, 7, 20, 21], jour_Store_write_l4_h, jour_Store_write_l4_o, jour_Store_write_l4 n⟩ | _ => none, fun _ => none, fun _ => none, fun _ => 0⟩
def jour_Store_write_O (n : Nat) : FuncId → List FSpec := asc [(28, ⟨jour_sectors_2_ins, jour_sectors_2_outs, jour_sectors_2 n⟩), (45, ⟨jour_number_ins, jour_number_outs, jour_number n⟩), (46, ⟨disk_Disk_Write_ins, disk_Disk_Write_outs, disk_Disk_Write n⟩), (47, ⟨disk_Disk_Flush_ins, disk_Disk_Flush_outs, disk_Disk_Flush n⟩)]
def b29 : Code := bodyOf Tryz.f29
theorem jour_Store_write_l4_k0 (n : Nat) : LoopOk P CC (jour_Store_write_O n) n 5 63 (jour_Store_write_H n) ⟨[0, 1, 2, 7, 20, 21], jour_Store_write_l4_h, jour_Store_write_l4_o, jour_Store_write_l4 n⟩ ((loopsOf b29).getD 0 .skip) := by
  refine ⟨fun _ => by kernel_rfl, ?_⟩
  rintro k ⟨⟨⟨⟩, x1, x2, x3, x4, x5, ⟨⟩⟩, ⟨⟨⟨⟩, ⟨⟩, x6, x7, x8, ⟨⟩⟩, ⟨x9, ⟨⟩, ⟨⟩, x10, x11, x12, ⟨⟩⟩, x13, x14, x15, ⟨⟩⟩⟩
  kernel_rfl
theorem jour_Store_write_ok {S : Nat → Addr} (ok : CfgOk P CC S) : ∀ n, SpecOk P CC S 29 ⟨jour_Store_write_ins, jour_Store_write_outs, jour_Store_write n⟩ :=
  fn_all ok (O := jour_Store_write_O) (H := jour_Store_write_H) (fn := Tryz.f29) (body := b29) (by kernel_rfl) (by kernel_rfl) (by kernel_rfl) (by decide) (by kernel_rfl)
    (fun x => by kernel_rfl) (fun n => by
      rintro ⟨⟨⟨⟩, x1, x2, ⟨⟩⟩, ⟨⟨⟨⟩, ⟨⟩, x3, x4, x5, ⟨⟩⟩, ⟨x6, ⟨⟩, ⟨⟩, x7, x8, x9, ⟨⟩⟩, x10, x11, x12, ⟨⟩⟩⟩
      kernel_rfl)
    (fun n => obl_of (by kernel_rfl) (by kernel_rfl) (ls (lz) (by kernel_rfl) (jour_Store_write_l4_k0 n)) (cn (cn (cn (cn (cn (cn (cn (cn (cn (cn (cn (cn (cn (cn (cn (cz) (by kernel_rfl)) (by kernel_rfl)) (by kernel_rfl)) (by kernel_rfl)) (by kernel_rfl)) (by kernel_rfl)) (by kernel_rfl)) (by kernel_rfl)) (by kernel_rfl)) (by kernel_rfl)) (by kernel_rfl)) (by kernel_rfl)) (by kernel_rfl)) (by kernel_rfl)) (by kernel_rfl)) (hn fun _ => rfl))
    (fun n ih => asc_cons (jour_sectors_2_ok ok n) <| asc_cons (jour_number_ok ok n) <| asc_cons (disk_Disk_Write_ok ok n) <| asc_cons (disk_Disk_Flush_ok ok n) <| asc_nil)
/-! ### maps.Keys[map[string]string,string,string] -/
abbrev maps_Keys_map_string_string_string_string_ins : Sh := ⟨[(.one (.map 0))], [(.map .str .str false)]⟩
abbrev maps_Keys_map_string_string_string_string_outs : List Sh := [⟨[(.one (.fn 62 [1]))], [(.map .str .str false), (.obj 63 [(.map 0)])]⟩]
def maps_Keys_map_string_string_string_string : Nat → maps_Keys_map_string_string_string_string_ins.T → Option (OutsT maps_Keys_map_string_string_string_string_outs)
  | 0, _ => none
  | n + 1, ((_, _), (m1, _)) =>
    some (((), ()), (m1, ((), ()), ()))
def maps_Keys_map_string_string_string_string_H (n : Nat) : Hints := ⟨[], fun _ => [], fun _ => none, fun _ => none, fun _ => none, fun _ => 0⟩
def maps_Keys_map_string_string_string_string_O (n : Nat) : FuncId → List FSpec := asc []
def b41 : Code := bodyOf Tryz.f41
theorem maps_Keys_map_string_string_string_string_ok {S : Nat → Addr} (ok : CfgOk P CC S) : ∀ n, SpecOk P CC S 41 ⟨maps_Keys_map_string_string_string_string_ins, maps_Keys_map_string_string_string_string_outs, maps_Keys_map_string_string_string_string n⟩ :=
  fn_all ok (O := maps_Keys_map_string_string_string_string_O) (H := maps_Keys_map_string_string_string_string_H) (fn := Tryz.f41) (body := b41) (by kernel_rfl) (by kernel_rfl) (by kernel_rfl) (by decide) (by kernel_rfl)
    (fun x => by kernel_rfl) (fun n => by
      rintro ⟨⟨⟨⟩, ⟨⟩⟩, ⟨x1, ⟨⟩⟩⟩
      kernel_rfl)
    (fun n => obl_of (by kernel_rfl) (by kernel_rfl) (lz) (cn (cn (cz) (by kernel_rfl)) (by kernel_rfl)) (hn fun _ => rfl))
    (fun n ih => asc_nil)
/-! ### slices.Sorted[string] (by hand) -/
abbrev slices_Sorted_62_ins : Sh := ⟨[(.one (.fn 62 [0]))], [(.obj 63 [(.map 1)]), (.map .str .str false)]⟩
abbrev slices_Sorted_62_outs : List Sh := [⟨[(.one (.arr 2))], [(.obj 63 [(.map 1)]), (.map .str .str false), (.arr 9 .str)]⟩]
def slices_Sorted_62 : Nat → slices_Sorted_62_ins.T → Option (OutsT slices_Sorted_62_outs) := fun _ => sortedSSem 63 9 .str false 62
theorem slices_Sorted_62_ok {S : Nat → Addr} (ok : CfgOk P CC S) : ∀ n, SpecOk P CC S 40 ⟨slices_Sorted_62_ins, slices_Sorted_62_outs, slices_Sorted_62 n⟩ := fun n => sortedS_spec (ty := 9) ⟨Tryz.f40, by kernel_rfl, by kernel_rfl, by kernel_rfl⟩ (by kernel_rfl) Sq.sorted_calls_62
/-! ### (*pendulum/disk.Disk).Down -/
abbrev disk_Disk_Down_ins : Sh := ⟨[(.one (.ptr 0 0))], [(.obj 61 [(.val (.int .i64)), (.map 1), (.map 2), (.val (.int .i64)), (.val (.int .i64)), (.val .bool)]), (.map (.int .i64) ty2 false), (.map (.int .i64) ty2 false)]⟩
abbrev disk_Disk_Down_outs : List Sh := [⟨[(.one (.val .bool))], [(.obj 61 [(.val (.int .i64)), (.map 1), (.map 2), (.val (.int .i64)), (.val (.int .i64)), (.val .bool)]), (.map (.int .i64) ty2 false), (.map (.int .i64) ty2 false)]⟩]
def disk_Disk_Down : Nat → disk_Disk_Down_ins.T → Option (OutsT disk_Disk_Down_outs)
  | 0, _ => none
  | n + 1, ((_, _), ((x1, _, _, x2, x3, x4, _), m5, m6, _)) =>
    some ((x4, ()), ((x1, (), (), x2, x3, x4, ()), m5, m6, ()))
def disk_Disk_Down_H (n : Nat) : Hints := ⟨[], fun _ => [], fun _ => none, fun _ => none, fun _ => none, fun _ => 0⟩
def disk_Disk_Down_O (n : Nat) : FuncId → List FSpec := asc []
def b12 : Code := bodyOf Tryz.f12
theorem disk_Disk_Down_ok {S : Nat → Addr} (ok : CfgOk P CC S) : ∀ n, SpecOk P CC S 12 ⟨disk_Disk_Down_ins, disk_Disk_Down_outs, disk_Disk_Down n⟩ :=
  fn_all ok (O := disk_Disk_Down_O) (H := disk_Disk_Down_H) (fn := Tryz.f12) (body := b12) (by kernel_rfl) (by kernel_rfl) (by kernel_rfl) (by decide) (by kernel_rfl)
    (fun x => by kernel_rfl) (fun n => by
      rintro ⟨⟨⟨⟩, ⟨⟩⟩, ⟨⟨x1, ⟨⟩, ⟨⟩, x2, x3, x4, ⟨⟩⟩, x5, x6, ⟨⟩⟩⟩
      kernel_rfl)
    (fun n => obl_of (by kernel_rfl) (by kernel_rfl) (lz) (cn (cn (cz) (by kernel_rfl)) (by kernel_rfl)) (hn fun _ => rfl))
    (fun n ih => asc_nil)
/-! ### (*pendulum/jour.Store).all -/
abbrev jour_Store_all_ins : Sh := ⟨[(.one (.ptr 0 0)), (.one (.map 1))], [(.obj 68 [(.ptr 2 0), (.map 3), (.val (.int .i64)), (.val (.int .i64)), (.val (.int .i64))]), (.map .str .str false), (.obj 61 [(.val (.int .i64)), (.map 4), (.map 5), (.val (.int .i64)), (.val (.int .i64)), (.val .bool)]), (.map .str .str false), (.map (.int .i64) ty2 false), (.map (.int .i64) ty2 false)]⟩
abbrev jour_Store_all_outs : List Sh := [⟨[(.one (.val .err))], [(.obj 68 [(.ptr 2 0), (.map 3), (.val (.int .i64)), (.val (.int .i64)), (.val (.int .i64))]), (.map .str .str false), (.obj 61 [(.val (.int .i64)), (.map 4), (.map 5), (.val (.int .i64)), (.val (.int .i64)), (.val .bool)]), (.map .str .str false), (.map (.int .i64) ty2 false), (.map (.int .i64) ty2 false)]⟩, ⟨[(.one (.val .err))], [(.obj 68 [(.ptr 2 0), (.map 1), (.val (.int .i64)), (.val (.int .i64)), (.val (.int .i64))]), (.map .str .str false), (.obj 61 [(.val (.int .i64)), (.map 4), (.map 5), (.val (.int .i64)), (.val (.int .i64)), (.val .bool)]), (.map .str .str false), (.map (.int .i64) ty2 false), (.map (.int .i64) ty2 false)]⟩]
abbrev jour_Store_all_l3_h : Sh := ⟨[(.one (.ptr 0 0)), (.one (.map 1)), (.one (.arr 6)), (.one (.arr 7)), (.one (.val (.int .i64))), (.one (.val (.int .i64)))], [(.obj 68 [(.ptr 2 0), (.map 3), (.val (.int .i64)), (.val (.int .i64)), (.val (.int .i64))]), (.map .str .str false), (.obj 61 [(.val (.int .i64)), (.map 4), (.map 5), (.val (.int .i64)), (.val (.int .i64)), (.val .bool)]), (.map .str .str false), (.map (.int .i64) ty2 false), (.map (.int .i64) ty2 false), (.arr 55 ty0), (.arr 9 .str)]⟩
abbrev jour_Store_all_l3_o : List Out := [⟨(.exit 0), [0, 1, 5], ⟨[(.one (.ptr 0 0)), (.one (.map 1)), (.one (.arr 6))], [(.obj 68 [(.ptr 2 0), (.map 3), (.val (.int .i64)), (.val (.int .i64)), (.val (.int .i64))]), (.map .str .str false), (.obj 61 [(.val (.int .i64)), (.map 4), (.map 5), (.val (.int .i64)), (.val (.int .i64)), (.val .bool)]), (.map .str .str false), (.map (.int .i64) ty2 false), (.map (.int .i64) ty2 false), (.arr 55 ty0)]⟩⟩]
def jour_Store_all_l3 (n : Nat) : Nat → jour_Store_all_l3_h.T → Option (OutT jour_Store_all_l3_o)
  | 0, _ => none
  | k + 1, ((_, _, _, _, x1, x2, _), ((_, _, x3, x4, x5, _), m6, (x7, _, _, x8, x9, x10, _), m11, m12, m13, l14, l15, _)) =>
    if decide (x2 < x1) then
      if 0 ≤ x2 ∧ x2 < (l15.length : Int) then (
        let v16 : ByteArray := (mfind (keyEq (.str : Ty)) (rdT (.str : Ty) l15 x2) m6).getD (⟨#[]⟩ : ByteArray)
        if (l14.length + ([(rdT (.str : Ty) l15 x2, (v16, false))] : List ty0.T).length) * 40 ≤ 140737488355328 then (
          let v17 : Int := IntKind.i64.wrap (x2 + 1)
          jour_Store_all_l3 n k (((), (), (), (), x1, v17, ()), (((), (), x3, x4, x5, ()), m6, (x7, (), (), x8, x9, x10, ()), m11, m12, m13, l14 ++ [(rdT (.str : Ty) l15 x2, (v16, false))], l15, ()))) else none) else none
    else
      some (.inl (((), (), (), ()), (((), (), x3, x4, x5, ()), m6, (x7, (), (), x8, x9, x10, ()), m11, m12, m13, l14, ())))
abbrev jour_Store_all_c11_h : Sh := ⟨[(.one (.ptr 0 0)), (.one (.map 1)), (.one (.arr 6)), (.one (.val (.int .i64)))], [(.obj 68 [(.ptr 2 0), (.map 3), (.val (.int .i64)), (.val (.int .i64)), (.val (.int .i64))]), (.map .str .str false), (.obj 61 [(.val (.int .i64)), (.map 4), (.map 5), (.val (.int .i64)), (.val (.int .i64)), (.val .bool)]), (.map .str .str false), (.map (.int .i64) ty2 false), (.map (.int .i64) ty2 false), (.arr 5 (.int .u8))]⟩
abbrev jour_Store_all_c11_o : List Out := [⟨.normal, [0, 1, 8, 9], ⟨[(.one (.ptr 0 0)), (.one (.map 1)), (.one (.arr 6)), (.one (.val (.int .i64)))], [(.obj 68 [(.ptr 2 0), (.map 3), (.val (.int .i64)), (.val (.int .i64)), (.val (.int .i64))]), (.map .str .str false), (.obj 61 [(.val (.int .i64)), (.map 4), (.map 5), (.val (.int .i64)), (.val (.int .i64)), (.val .bool)]), (.map .str .str false), (.map (.int .i64) ty2 false), (.map (.int .i64) ty2 false), (.arr 5 (.int .u8))]⟩⟩]
def jour_Store_all_c11 (n : Nat) : jour_Store_all_c11_h.T → Option (OutT jour_Store_all_c11_o)
  | ((_, _, _, x1, _), ((_, _, x2, x3, x4, _), m5, (x6, _, _, x7, x8, x9, _), m10, m11, m12, l13, _)) =>
    if x2 == 0 then
      some (.inl (((), (), (), 1, ()), (((), (), x2, x3, x4, ()), m5, (x6, (), (), x7, x8, x9, ()), m10, m11, m12, l13, ())))
    else
      some (.inl (((), (), (), x1, ()), (((), (), x2, x3, x4, ()), m5, (x6, (), (), x7, x8, x9, ()), m10, m11, m12, l13, ())))
def jour_Store_all : Nat → jour_Store_all_ins.T → Option (OutsT jour_Store_all_outs)
  | 0, _ => none
  | n + 1, ((_, _, _), ((_, _, x1, x2, x3, _), m4, (x5, _, _, x6, x7, x8, _), m9, m10, m11, _)) =>
    match maps_Keys_map_string_string_string_string n (((), ()), (m4, ())) with
    | some ((_, _), (m12, (_, _), _)) => (
      match slices_Sorted_62 n (((), ()), (((), ()), m12, ())) with
      | some ((_, _), ((_, _), m13, l14, _)) => (
        match jour_Store_all_l3 n n (((), (), (), (), (l14.length : Int), 0, ()), (((), (), x1, x2, x3, ()), m13, (x5, (), (), x6, x7, x8, ()), m9, m10, m11, [], l14, ())) with
        | some (.inl ((_, _, _, _), ((_, _, x15, x16, x17, _), m18, (x19, _, _, x20, x21, x22, _), m23, m24, m25, l26, _))) => (
          match jour_bytes n ((0, l26, ()), ()) with
          | some ((_, _), (l27, _)) => (
            match jour_Store_all_c11 n (((), (), (), 0, ()), (((), (), x15, x16, x17, ()), m18, (x19, (), (), x20, x21, x22, ()), m23, m24, m25, l27, ())) with
            | some (.inl ((_, _, _, x28, _), ((_, _, x29, x30, x31, _), m32, (x33, _, _, x34, x35, x36, _), m37, m38, m39, l40, _))) => (
              match jour_bounds n (((), x28, ()), ((x33, (), (), x34, x35, x36, ()), m38, m39, ())) with
              | some ((((x41, _), (x42, _), _), _), ((x43, _, _, x44, x45, x46, _), m47, m48, _)) => (
                match disk_Disk_Down n (((), ()), ((x43, (), (), x44, x45, x46, ()), m47, m48, ())) with
                | some ((x49, _), ((x50, _, _, x51, x52, x53, _), m54, m55, _)) => (
                  if x49 then
                    some (.inl ((ErrV.sent 119, ()), (((), (), x29, x30, x31, ()), m32, (x50, (), (), x51, x52, x53, ()), m37, m54, m55, ())))
                  else
                    match jour_sectors n (((), ()), (l40, ())) with
                    | some ((x56, _), (l57, _)) => (
                      let v58 : Int := IntKind.i64.wrap (x42 - x41)
                      if decide (x56 > v58) then
                        some (.inl ((ErrV.sent 118, ()), (((), (), x29, x30, x31, ()), m32, (x50, (), (), x51, x52, x53, ()), m37, m54, m55, ())))
                      else
                        match jour_Store_write n (((), x41, l57, ()), (((), (), x29, x30, x31, ()), (x50, (), (), x51, x52, x53, ()), m37, m54, m55, ())) with
                        | some ((x59, _), ((_, _, x60, x61, x62, _), (x63, _, _, x64, x65, x66, _), m67, m68, m69, _)) => (
                          if !(errNil x59) then
                            some (.inl ((x59, ()), (((), (), x60, x61, x62, ()), m32, (x63, (), (), x64, x65, x66, ()), m67, m68, m69, ())))
                          else
                            match jour_sectors_2 n ((l57, ()), ()) with
                            | some ((x70, _), _) => (
                              let v71 : Int := IntKind.i64.wrap (x41 + x70)
                              some (.inr (((ErrV.nil, ()), (((), (), x28, v71, x62, ()), m32, (x63, (), (), x64, x65, x66, ()), m67, m68, m69, ())))))
                            | none => none)
                        | none => none)
                    | none => none)
                | none => none)
              | none => none)
            | some (.inr (_)) => none
            | none => none)
          | none => none)
        | some (.inr (_)) => none
        | none => none)
      | none => none)
    | none => none
def jour_Store_all_H (n : Nat) : Hints := ⟨[], fun _ => [], fun k => match k with | 3 => some ⟨[0, 1, 5, 15, 16, 17], jour_Store_all_l3_h, jour_Store_all_l3_o, jour_Store_all_l3 n⟩ | _ => none, fun k => match k with | 11 => some ⟨[0, 1, 8, 9], jour_Store_all_c11_h, jour_Store_all_c11_o, fun n => jour_Store_all_c11 n⟩ | _ => none, fun _ => none, fun _ => 0⟩
def jour_Store_all_O (n : Nat) : FuncId → List FSpec := asc [(12, ⟨disk_Disk_Down_ins, disk_Disk_Down_outs, disk_Disk_Down n⟩), (26, ⟨jour_bytes_ins, jour_bytes_outs, jour_bytes n⟩), (27, ⟨jour_bounds_ins, jour_bounds_outs, jour_bounds n⟩), (28, ⟨jour_sectors_ins, jour_sectors_outs, jour_sectors n⟩), (28, ⟨jour_sectors_2_ins, jour_sectors_2_outs, jour_sectors_2 n⟩), (29, ⟨jour_Store_write_ins, jour_Store_write_outs, jour_Store_write n⟩), (40, ⟨slices_Sorted_62_ins, slices_Sorted_62_outs, slices_Sorted_62 n⟩), (41, ⟨maps_Keys_map_string_string_string_string_ins, maps_Keys_map_string_string_string_string_outs, maps_Keys_map_string_string_string_string n⟩)]
def b30 : Code := bodyOf Tryz.f30
theorem jour_Store_all_l3_k0 (n : Nat) : LoopOk P CC (jour_Store_all_O n) n 6 81 (jour_Store_all_H n) ⟨[0, 1, 5, 15, 16, 17], jour_Store_all_l3_h, jour_Store_all_l3_o, jour_Store_all_l3 n⟩ ((loopsOf b30).getD 0 .skip) := by
  refine ⟨fun _ => by kernel_rfl, ?_⟩
  rintro k ⟨⟨⟨⟩, ⟨⟩, ⟨⟩, ⟨⟩, x1, x2, ⟨⟩⟩, ⟨⟨⟨⟩, ⟨⟩, x3, x4, x5, ⟨⟩⟩, x6, ⟨x7, ⟨⟩, ⟨⟩, x8, x9, x10, ⟨⟩⟩, x11, x12, x13, x14, x15, ⟨⟩⟩⟩
  kernel_rfl
theorem jour_Store_all_c11_k10 (n : Nat) : CutOk P CC (jour_Store_all_O n) n 6 81 (jour_Store_all_H n) ⟨[0, 1, 8, 9], jour_Store_all_c11_h, jour_Store_all_c11_o, fun n => jour_Store_all_c11 n⟩ ((cutsOf b30).getD 10 (0, .skip)).2 := by
  rintro ⟨⟨⟨⟩, ⟨⟩, ⟨⟩, x1, ⟨⟩⟩, ⟨⟨⟨⟩, ⟨⟩, x2, x3, x4, ⟨⟩⟩, x5, ⟨x6, ⟨⟩, ⟨⟩, x7, x8, x9, ⟨⟩⟩, x10, x11, x12, x13, ⟨⟩⟩⟩
  kernel_rfl
theorem jour_Store_all_ok {S : Nat → Addr} (ok : CfgOk P CC S) : ∀ n, SpecOk P CC S 30 ⟨jour_Store_all_ins, jour_Store_all_outs, jour_Store_all n⟩ :=
  fn_all ok (O := jour_Store_all_O) (H := jour_Store_all_H) (fn := Tryz.f30) (body := b30) (by kernel_rfl) (by kernel_rfl) (by kernel_rfl) (by decide) (by kernel_rfl)
    (fun x => by kernel_rfl) (fun n => by
      rintro ⟨⟨⟨⟩, ⟨⟩, ⟨⟩⟩, ⟨⟨⟨⟩, ⟨⟩, x1, x2, x3, ⟨⟩⟩, x4, ⟨x5, ⟨⟩, ⟨⟩, x6, x7, x8, ⟨⟩⟩, x9, x10, x11, ⟨⟩⟩⟩
      kernel_rfl)
    (fun n => obl_of (by kernel_rfl) (by kernel_rfl) (ls (lz) (by kernel_rfl) (jour_Store_all_l3_k0 n)) (cn (cn (cn (cn (cn (cn (cn (cn (cn (cn (cn (cn (cn (cn (cs (cn (cn (cn (cn (cn (cn (cn (cn (cn (cn (cz) (by kernel_rfl)) (by kernel_rfl)) (by kernel_rfl)) (by kernel_rfl)) (by kernel_rfl)) (by kernel_rfl)) (by kernel_rfl)) (by kernel_rfl)) (by kernel_rfl)) (by kernel_rfl)) (by kernel_rfl) (jour_Store_all_c11_k10 n)) (by kernel_rfl)) (by kernel_rfl)) (by kernel_rfl)) (by kernel_rfl)) (by kernel_rfl)) (by kernel_rfl)) (by kernel_rfl)) (by kernel_rfl)) (by kernel_rfl)) (by kernel_rfl)) (by kernel_rfl)) (by kernel_rfl)) (by kernel_rfl)) (by kernel_rfl)) (hn fun _ => rfl))
    (fun n ih => asc_cons (disk_Disk_Down_ok ok n) <| asc_cons (jour_bytes_ok ok n) <| asc_cons (jour_bounds_ok ok n) <| asc_cons (jour_sectors_ok ok n) <| asc_cons (jour_sectors_2_ok ok n) <| asc_cons (jour_Store_write_ok ok n) <| asc_cons (slices_Sorted_62_ok ok n) <| asc_cons (maps_Keys_map_string_string_string_string_ok ok n) <| asc_nil)
end
end Go.Proofs.YthbbokndogjopaaGreatDoor.Cm

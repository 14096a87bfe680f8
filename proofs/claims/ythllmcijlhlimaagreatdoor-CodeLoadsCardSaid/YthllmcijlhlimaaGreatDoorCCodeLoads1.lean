/- Printed by cmtext.py: the code as plain functions. -/
import Derived.Test.YthllmcijlhlimaaGreatDoorCCodeLoads0
namespace Go.Proofs.YthllmcijlhlimaaGreatDoor.Cm
open Go
noncomputable section
set_option linter.unusedVariables false
set_option maxRecDepth 100000
/-! ### (*pendulum/wire.Reader).number -/
abbrev wire_Reader_number_ins : Sh := ⟨[(.one (.ptr 0 0))], [(.obj 93 [(.val ty19), (.val (.int .i64)), (.val .err)])]⟩
abbrev wire_Reader_number_outs : List Sh := [⟨[(.tup [(false, [(.val (.int .i64))]), (false, [(.val (.int .i64))]), (false, [(.val .err)])])], [(.obj 93 [(.val ty19), (.val (.int .i64)), (.val .err)])]⟩]
abbrev wire_Reader_number_c9_h : Sh := ⟨[(.one (.ptr 0 0)), (.one (.val (.int .u64))), (.one (.val (.int .i64))), (.one (.val (.int .u8)))], [(.obj 93 [(.val ty19), (.val (.int .i64)), (.val .err)])]⟩
abbrev wire_Reader_number_c9_o : List Out := [⟨.normal, [0, 5, 6, 7], ⟨[(.one (.ptr 0 0)), (.one (.val (.int .u64))), (.one (.val (.int .i64))), (.one (.val (.int .u8)))], [(.obj 93 [(.val ty19), (.val (.int .i64)), (.val .err)])]⟩⟩, ⟨.ret, [2, 3, 4], ⟨[(.one (.val (.int .i64))), (.one (.val (.int .i64))), (.one (.val .err))], [(.obj 93 [(.val ty19), (.val (.int .i64)), (.val .err)])]⟩⟩]
def wire_Reader_number_c9 (n : Nat) : wire_Reader_number_c9_h.T → Option (OutT wire_Reader_number_c9_o)
  | ((_, x1, x2, x3, _), ((x4, x5, x6, _), _)) =>
    if x2 == 9 then
      if decide (x3 > 1) then
        some (.inr (.inl ((0, 0, ErrV.sent 102, ()), ((x4, x5, x6, ()), ()))))
      else
        some (.inl (((), x1, x2, x3, ()), ((x4, x5, x6, ()), ())))
    else
      some (.inl (((), x1, x2, x3, ()), ((x4, x5, x6, ()), ())))
abbrev wire_Reader_number_c13_h : Sh := ⟨[(.one (.val (.int .u64))), (.one (.val (.int .i64))), (.one (.val (.int .u8)))], [(.obj 93 [(.val ty19), (.val (.int .i64)), (.val .err)])]⟩
abbrev wire_Reader_number_c13_o : List Out := [⟨.normal, [5, 6], ⟨[(.one (.val (.int .u64))), (.one (.val (.int .i64)))], [(.obj 93 [(.val ty19), (.val (.int .i64)), (.val .err)])]⟩⟩, ⟨.ret, [2, 3, 4], ⟨[(.one (.val (.int .i64))), (.one (.val (.int .i64))), (.one (.val .err))], [(.obj 93 [(.val ty19), (.val (.int .i64)), (.val .err)])]⟩⟩]
def wire_Reader_number_c13 (n : Nat) : wire_Reader_number_c13_h.T → Option (OutT wire_Reader_number_c13_o)
  | ((x1, x2, x3, _), ((x4, x5, x6, _), _)) =>
    if x3 == 0 then
      if decide (x2 > 0) then
        some (.inr (.inl ((0, 0, ErrV.sent 102, ()), ((x4, x5, x6, ()), ()))))
      else
        some (.inl ((x1, x2, ()), ((x4, x5, x6, ()), ())))
    else
      some (.inl ((x1, x2, ()), ((x4, x5, x6, ()), ())))
abbrev wire_Reader_number_l4_h : Sh := ⟨[(.one (.ptr 0 0)), (.one (.val (.int .u64))), (.one (.val (.int .i64)))], [(.obj 93 [(.val ty19), (.val (.int .i64)), (.val .err)])]⟩
abbrev wire_Reader_number_l4_o : List Out := [⟨.ret, [2, 3, 4], ⟨[(.one (.val (.int .i64))), (.one (.val (.int .i64))), (.one (.val .err))], [(.obj 93 [(.val ty19), (.val (.int .i64)), (.val .err)])]⟩⟩]
def wire_Reader_number_l4 (n : Nat) : Nat → wire_Reader_number_l4_h.T → Option (OutT wire_Reader_number_l4_o)
  | 0, _ => none
  | k + 1, ((_, x1, x2, _), ((x3, x4, x5, _), _)) =>
    let v6 : Int := IntKind.i64.wrap (x4 + x2)
    if decide (v6 ≥ (x3.length : Int)) then
      some (.inl ((0, 0, ErrV.sent 101, ()), ((x3, x4, x5, ()), ())))
    else
      let v7 : Int := IntKind.i64.wrap (x4 + x2)
      if 0 ≤ v7 ∧ v7 < (x3.length : Int) then (
        let v8 : Int := rdT ((.int .u8) : Ty) x3 v7
        match wire_Reader_number_c9 n (((), x1, x2, v8, ()), ((x3, x4, x5, ()), ())) with
        | some (.inl ((_, x9, x10, x11, _), ((x12, x13, x14, _), _))) => (
          let v21 : Int := bitsOp .andNot .u8 x11 128
          let v22 : Int := IntKind.i64.wrap (7 * x10)
          if v22 < 0 then
            none
          else
            let v23 : Int := shlOp .u64 (IntKind.u64.wrap v21) v22
            if decide (x11 ≥ 128) then
              let v40 : Int := IntKind.i64.wrap (x10 + 1)
              wire_Reader_number_l4 n k (((), bitsOp .or .u64 x9 v23, v40, ()), ((x12, x13, x14, ()), ()))
            else
              match wire_Reader_number_c13 n ((bitsOp .or .u64 x9 v23, x10, x11, ()), ((x12, x13, x14, ()), ())) with
              | some (.inl ((x24, x25, _), ((x26, x27, x28, _), _))) => (
                let v35 : Int := IntKind.i64.wrap (shrOp .u64 x24 1)
                let v36 : Int := IntKind.i64.wrap (bitsOp .and .u64 x24 1)
                let v37 : Int := IntKind.i64.wrap (0 - v36)
                let v38 : Int := bitsOp .xor .i64 v35 v37
                let v39 : Int := IntKind.i64.wrap (x25 + 1)
                some (.inl ((v38, v39, ErrV.nil, ()), ((x26, x27, x28, ()), ()))))
              | some (.inr (.inl ((x29, x30, x31, _), ((x32, x33, x34, _), _)))) => (
                some (.inl ((x29, x30, x31, ()), ((x32, x33, x34, ()), ()))))
              | some (.inr (.inr (_))) => none
              | none => none)
        | some (.inr (.inl ((x15, x16, x17, _), ((x18, x19, x20, _), _)))) => (
          some (.inl ((x15, x16, x17, ()), ((x18, x19, x20, ()), ()))))
        | some (.inr (.inr (_))) => none
        | none => none) else none
def wire_Reader_number : Nat → wire_Reader_number_ins.T → Option (OutsT wire_Reader_number_outs)
  | 0, _ => none
  | n + 1, ((_, _), ((x1, x2, x3, _), _)) =>
    match wire_Reader_number_l4 n n (((), 0, 0, ()), ((x1, x2, x3, ()), ())) with
    | some (.inl ((x4, x5, x6, _), ((x7, x8, x9, _), _))) => (
      some ((((x4, ()), (x5, ()), (x6, ()), ()), ()), ((x7, x8, x9, ()), ())))
    | some (.inr (_)) => none
    | none => none
def wire_Reader_number_H (n : Nat) : Hints := ⟨[], fun _ => [], fun k => match k with | 4 => some ⟨[0, 5, 6], wire_Reader_number_l4_h, wire_Reader_number_l4_o, wire_Reader_number_l4 n⟩ | _ => none, fun k => match k with | 9 => some ⟨[0, 5, 6, 7], wire_Reader_number_c9_h, wire_Reader_number_c9_o, fun n => wire_Reader_number_c9 n⟩ | 13 => some ⟨[5, 6, 7], wire_Reader_number_c13_h, wire_Reader_number_c13_o, fun n => wire_Reader_number_c13 n⟩ | _ => none, fun _ => none, fun _ => 0⟩
def wire_Reader_number_O (n : Nat) : FuncId → List FSpec := asc []
def b43 : Code := bodyOf Tryz.f43
theorem wire_Reader_number_l4_k0 (n : Nat) : LoopOk P CC (wire_Reader_number_O n) n 1 69 (wire_Reader_number_H n) ⟨[0, 5, 6], wire_Reader_number_l4_h, wire_Reader_number_l4_o, wire_Reader_number_l4 n⟩ ((loopsOf b43).getD 0 .skip) := by
  refine ⟨fun _ => by kernel_rfl, ?_⟩
  rintro k ⟨⟨⟨⟩, x1, x2, ⟨⟩⟩, ⟨⟨x3, x4, x5, ⟨⟩⟩, ⟨⟩⟩⟩
  kernel_rfl
theorem wire_Reader_number_c9_k8 (n : Nat) : CutOk P CC (wire_Reader_number_O n) n 1 69 (wire_Reader_number_H n) ⟨[0, 5, 6, 7], wire_Reader_number_c9_h, wire_Reader_number_c9_o, fun n => wire_Reader_number_c9 n⟩ ((cutsOf b43).getD 8 (0, .skip)).2 := by
  rintro ⟨⟨⟨⟩, x1, x2, x3, ⟨⟩⟩, ⟨⟨x4, x5, x6, ⟨⟩⟩, ⟨⟩⟩⟩
  kernel_rfl
theorem wire_Reader_number_c13_k14 (n : Nat) : CutOk P CC (wire_Reader_number_O n) n 1 69 (wire_Reader_number_H n) ⟨[5, 6, 7], wire_Reader_number_c13_h, wire_Reader_number_c13_o, fun n => wire_Reader_number_c13 n⟩ ((cutsOf b43).getD 14 (0, .skip)).2 := by
  rintro ⟨⟨x1, x2, x3, ⟨⟩⟩, ⟨⟨x4, x5, x6, ⟨⟩⟩, ⟨⟩⟩⟩
  kernel_rfl
theorem wire_Reader_number_ok {S : Nat → Addr} (ok : CfgOk P CC S) : ∀ n, SpecOk P CC S 43 ⟨wire_Reader_number_ins, wire_Reader_number_outs, wire_Reader_number n⟩ :=
  fn_all ok (O := wire_Reader_number_O) (H := wire_Reader_number_H) (fn := Tryz.f43) (body := b43) (by kernel_rfl) (by kernel_rfl) (by kernel_rfl) (by decide) (by kernel_rfl)
    (fun x => by kernel_rfl) (fun n => by
      rintro ⟨⟨⟨⟩, ⟨⟩⟩, ⟨⟨x1, x2, x3, ⟨⟩⟩, ⟨⟩⟩⟩
      kernel_rfl)
    (fun n => obl_of (by kernel_rfl) (by kernel_rfl) (ls (lz) (by kernel_rfl) (wire_Reader_number_l4_k0 n)) (cn (cn (cn (cs (cn (cn (cn (cn (cn (cs (cn (cn (cn (cn (cn (cn (cn (cn (cz) (by kernel_rfl)) (by kernel_rfl)) (by kernel_rfl)) (by kernel_rfl)) (by kernel_rfl)) (by kernel_rfl)) (by kernel_rfl)) (by kernel_rfl)) (by kernel_rfl) (wire_Reader_number_c9_k8 n)) (by kernel_rfl)) (by kernel_rfl)) (by kernel_rfl)) (by kernel_rfl)) (by kernel_rfl)) (by kernel_rfl) (wire_Reader_number_c13_k14 n)) (by kernel_rfl)) (by kernel_rfl)) (by kernel_rfl)) (hn fun _ => rfl))
    (fun n ih => asc_nil)
/-! ### (*pendulum/wire.Reader).fail -/
abbrev wire_Reader_fail_ins : Sh := ⟨[(.one (.ptr 0 0)), (.one (.val .err))], [(.obj 93 [(.val ty19), (.val (.int .i64)), (.val .err)])]⟩
abbrev wire_Reader_fail_outs : List Sh := [⟨[(.tup [])], [(.obj 93 [(.val ty19), (.val (.int .i64)), (.val .err)])]⟩]
def wire_Reader_fail : Nat → wire_Reader_fail_ins.T → Option (OutsT wire_Reader_fail_outs)
  | 0, _ => none
  | n + 1, ((_, x1, _), ((x2, x3, x4, _), _)) =>
    some (((), ()), ((x2, x3, ErrV.at_ x3 x1, ()), ()))
def wire_Reader_fail_H (n : Nat) : Hints := ⟨[], fun _ => [], fun _ => none, fun _ => none, fun _ => none, fun _ => 0⟩
def wire_Reader_fail_O (n : Nat) : FuncId → List FSpec := asc []
def b42 : Code := bodyOf Tryz.f42
theorem wire_Reader_fail_ok {S : Nat → Addr} (ok : CfgOk P CC S) : ∀ n, SpecOk P CC S 42 ⟨wire_Reader_fail_ins, wire_Reader_fail_outs, wire_Reader_fail n⟩ :=
  fn_all ok (O := wire_Reader_fail_O) (H := wire_Reader_fail_H) (fn := Tryz.f42) (body := b42) (by kernel_rfl) (by kernel_rfl) (by kernel_rfl) (by decide) (by kernel_rfl)
    (fun x => by kernel_rfl) (fun n => by
      rintro ⟨⟨⟨⟩, x1, ⟨⟩⟩, ⟨⟨x2, x3, x4, ⟨⟩⟩, ⟨⟩⟩⟩
      kernel_rfl)
    (fun n => obl_of (by kernel_rfl) (by kernel_rfl) (lz) (cz) (hn fun _ => rfl))
    (fun n ih => asc_nil)
/-! ### (*pendulum/wire.Reader).Num -/
abbrev wire_Reader_Num_ins : Sh := ⟨[(.one (.ptr 0 0)), (.one (.val (.int .i64))), (.one (.val (.int .i64)))], [(.obj 93 [(.val ty19), (.val (.int .i64)), (.val .err)])]⟩
abbrev wire_Reader_Num_outs : List Sh := [⟨[(.one (.val (.int .i64)))], [(.obj 93 [(.val ty19), (.val (.int .i64)), (.val .err)])]⟩]
abbrev wire_Reader_Num_c6_h : Sh := ⟨[(.one (.ptr 0 0)), (.one (.val (.int .i64))), (.one (.val (.int .i64))), (.one (.val (.int .i64))), (.one (.val (.int .i64))), (.one (.val .err))], [(.obj 93 [(.val ty19), (.val (.int .i64)), (.val .err)])]⟩
abbrev wire_Reader_Num_c6_o : List Out := [⟨.normal, [0, 7, 8, 9], ⟨[(.one (.ptr 0 0)), (.one (.val (.int .i64))), (.one (.val (.int .i64))), (.one (.val .err))], [(.obj 93 [(.val ty19), (.val (.int .i64)), (.val .err)])]⟩⟩]
def wire_Reader_Num_c6 (n : Nat) : wire_Reader_Num_c6_h.T → Option (OutT wire_Reader_Num_c6_o)
  | ((_, x1, x2, x3, x4, x5, _), ((x6, x7, x8, _), _)) =>
    if errNil x5 then
      if decide (x3 < x1) then
        some (.inl (((), x3, x4, ErrV.sent 104, ()), ((x6, x7, x8, ()), ())))
      else
        if decide (x3 > x2) then
          some (.inl (((), x3, x4, ErrV.sent 104, ()), ((x6, x7, x8, ()), ())))
        else
          some (.inl (((), x3, x4, x5, ()), ((x6, x7, x8, ()), ())))
    else
      some (.inl (((), x3, x4, x5, ()), ((x6, x7, x8, ()), ())))
def wire_Reader_Num : Nat → wire_Reader_Num_ins.T → Option (OutsT wire_Reader_Num_outs)
  | 0, _ => none
  | n + 1, ((_, x1, x2, _), ((x3, x4, x5, _), _)) =>
    if !(errNil x5) then
      some ((0, ()), ((x3, x4, x5, ()), ()))
    else
      match wire_Reader_number n (((), ()), ((x3, x4, x5, ()), ())) with
      | some ((((x6, _), (x7, _), (x8, _), _), _), ((x9, x10, x11, _), _)) => (
        match wire_Reader_Num_c6 n (((), x1, x2, x6, x7, x8, ()), ((x9, x10, x11, ()), ())) with
        | some (.inl ((_, x12, x13, x14, _), ((x15, x16, x17, _), _))) => (
          if !(errNil x14) then
            match wire_Reader_fail n (((), x14, ()), ((x15, x16, x17, ()), ())) with
            | some ((_, _), ((x18, x19, x20, _), _)) => (
              some ((0, ()), ((x18, x19, x20, ()), ())))
            | none => none
          else
            let v21 : Int := IntKind.i64.wrap (x16 + x13)
            some ((x12, ()), ((x15, v21, x17, ()), ())))
        | some (.inr (_)) => none
        | none => none)
      | none => none
def wire_Reader_Num_H (n : Nat) : Hints := ⟨[], fun _ => [], fun _ => none, fun k => match k with | 6 => some ⟨[0, 1, 2, 7, 8, 9], wire_Reader_Num_c6_h, wire_Reader_Num_c6_o, fun n => wire_Reader_Num_c6 n⟩ | _ => none, fun _ => none, fun _ => 0⟩
def wire_Reader_Num_O (n : Nat) : FuncId → List FSpec := asc [(42, ⟨wire_Reader_fail_ins, wire_Reader_fail_outs, wire_Reader_fail n⟩), (43, ⟨wire_Reader_number_ins, wire_Reader_number_outs, wire_Reader_number n⟩)]
def b24 : Code := bodyOf Tryz.f24
theorem wire_Reader_Num_c6_k5 (n : Nat) : CutOk P CC (wire_Reader_Num_O n) n 1 48 (wire_Reader_Num_H n) ⟨[0, 1, 2, 7, 8, 9], wire_Reader_Num_c6_h, wire_Reader_Num_c6_o, fun n => wire_Reader_Num_c6 n⟩ ((cutsOf b24).getD 5 (0, .skip)).2 := by
  rintro ⟨⟨⟨⟩, x1, x2, x3, x4, x5, ⟨⟩⟩, ⟨⟨x6, x7, x8, ⟨⟩⟩, ⟨⟩⟩⟩
  kernel_rfl
theorem wire_Reader_Num_ok {S : Nat → Addr} (ok : CfgOk P CC S) : ∀ n, SpecOk P CC S 24 ⟨wire_Reader_Num_ins, wire_Reader_Num_outs, wire_Reader_Num n⟩ :=
  fn_all ok (O := wire_Reader_Num_O) (H := wire_Reader_Num_H) (fn := Tryz.f24) (body := b24) (by kernel_rfl) (by kernel_rfl) (by kernel_rfl) (by decide) (by kernel_rfl)
    (fun x => by kernel_rfl) (fun n => by
      rintro ⟨⟨⟨⟩, x1, x2, ⟨⟩⟩, ⟨⟨x3, x4, x5, ⟨⟩⟩, ⟨⟩⟩⟩
      kernel_rfl)
    (fun n => obl_of (by kernel_rfl) (by kernel_rfl) (lz) (cn (cn (cn (cn (cn (cn (cn (cs (cn (cn (cn (cn (cn (cz) (by kernel_rfl)) (by kernel_rfl)) (by kernel_rfl)) (by kernel_rfl)) (by kernel_rfl)) (by kernel_rfl) (wire_Reader_Num_c6_k5 n)) (by kernel_rfl)) (by kernel_rfl)) (by kernel_rfl)) (by kernel_rfl)) (by kernel_rfl)) (by kernel_rfl)) (by kernel_rfl)) (hn fun _ => rfl))
    (fun n ih => asc_cons (wire_Reader_fail_ok ok n) <| asc_cons (wire_Reader_number_ok ok n) <| asc_nil)
/-! ### (*pendulum/wire.Reader).Left -/
abbrev wire_Reader_Left_ins : Sh := ⟨[(.one (.ptr 0 0))], [(.obj 93 [(.val ty19), (.val (.int .i64)), (.val .err)])]⟩
abbrev wire_Reader_Left_outs : List Sh := [⟨[(.one (.val (.int .i64)))], [(.obj 93 [(.val ty19), (.val (.int .i64)), (.val .err)])]⟩]
def wire_Reader_Left : Nat → wire_Reader_Left_ins.T → Option (OutsT wire_Reader_Left_outs)
  | 0, _ => none
  | n + 1, ((_, _), ((x1, x2, x3, _), _)) =>
    let v4 : Int := IntKind.i64.wrap ((x1.length : Int) - x2)
    some ((v4, ()), ((x1, x2, x3, ()), ()))
def wire_Reader_Left_H (n : Nat) : Hints := ⟨[], fun _ => [], fun _ => none, fun _ => none, fun _ => none, fun _ => 0⟩
def wire_Reader_Left_O (n : Nat) : FuncId → List FSpec := asc []
def b28 : Code := bodyOf Tryz.f28
theorem wire_Reader_Left_ok {S : Nat → Addr} (ok : CfgOk P CC S) : ∀ n, SpecOk P CC S 28 ⟨wire_Reader_Left_ins, wire_Reader_Left_outs, wire_Reader_Left n⟩ :=
  fn_all ok (O := wire_Reader_Left_O) (H := wire_Reader_Left_H) (fn := Tryz.f28) (body := b28) (by kernel_rfl) (by kernel_rfl) (by kernel_rfl) (by decide) (by kernel_rfl)
    (fun x => by kernel_rfl) (fun n => by
      rintro ⟨⟨⟨⟩, ⟨⟩⟩, ⟨⟨x1, x2, x3, ⟨⟩⟩, ⟨⟩⟩⟩
      kernel_rfl)
    (fun n => obl_of (by kernel_rfl) (by kernel_rfl) (lz) (cn (cn (cz) (by kernel_rfl)) (by kernel_rfl)) (hn fun _ => rfl))
    (fun n ih => asc_nil)
/-! ### (*pendulum/wire.Reader).Text -/
abbrev wire_Reader_Text_ins : Sh := ⟨[(.one (.ptr 0 0)), (.one (.val (.int .i64)))], [(.obj 93 [(.val ty19), (.val (.int .i64)), (.val .err)])]⟩
abbrev wire_Reader_Text_outs : List Sh := [⟨[(.one (.val .str))], [(.obj 93 [(.val ty19), (.val (.int .i64)), (.val .err)])]⟩]
def wire_Reader_Text : Nat → wire_Reader_Text_ins.T → Option (OutsT wire_Reader_Text_outs)
  | 0, _ => none
  | n + 1, ((_, x1, _), ((x2, x3, x4, _), _)) =>
    match wire_Reader_Num n (((), 0, x1, ()), ((x2, x3, x4, ()), ())) with
    | some ((x5, _), ((x6, x7, x8, _), _)) => (
      if !(errNil x8) then
        some (((⟨#[]⟩ : ByteArray), ()), ((x6, x7, x8, ()), ()))
      else
        match wire_Reader_Left n (((), ()), ((x6, x7, x8, ()), ())) with
        | some ((x9, _), ((x10, x11, x12, _), _)) => (
          if decide (x5 > x9) then
            match wire_Reader_fail n (((), ErrV.sent 101, ()), ((x10, x3, x12, ()), ())) with
            | some ((_, _), ((x13, x14, x15, _), _)) => (
              some (((⟨#[]⟩ : ByteArray), ()), ((x13, x14, x15, ()), ())))
            | none => none
          else
            let v16 : Int := IntKind.i64.wrap (x11 + x5)
            let v17 : Int := IntKind.i64.wrap (v16 - x5)
            if 0 ≤ v17 ∧ v17 ≤ v16 ∧ v16 ≤ (x10.length : Int) then (
              let v18 : ByteArray := strOfNums (cutL x10 v17 v16)
              some ((v18, ()), ((x10, v16, x12, ()), ()))) else none)
        | none => none)
    | none => none
def wire_Reader_Text_H (n : Nat) : Hints := ⟨[], fun _ => [], fun _ => none, fun _ => none, fun _ => none, fun _ => 0⟩
def wire_Reader_Text_O (n : Nat) : FuncId → List FSpec := asc [(24, ⟨wire_Reader_Num_ins, wire_Reader_Num_outs, wire_Reader_Num n⟩), (28, ⟨wire_Reader_Left_ins, wire_Reader_Left_outs, wire_Reader_Left n⟩), (42, ⟨wire_Reader_fail_ins, wire_Reader_fail_outs, wire_Reader_fail n⟩)]
def b23 : Code := bodyOf Tryz.f23
theorem wire_Reader_Text_ok {S : Nat → Addr} (ok : CfgOk P CC S) : ∀ n, SpecOk P CC S 23 ⟨wire_Reader_Text_ins, wire_Reader_Text_outs, wire_Reader_Text n⟩ :=
  fn_all ok (O := wire_Reader_Text_O) (H := wire_Reader_Text_H) (fn := Tryz.f23) (body := b23) (by kernel_rfl) (by kernel_rfl) (by kernel_rfl) (by decide) (by kernel_rfl)
    (fun x => by kernel_rfl) (fun n => by
      rintro ⟨⟨⟨⟩, x1, ⟨⟩⟩, ⟨⟨x2, x3, x4, ⟨⟩⟩, ⟨⟩⟩⟩
      kernel_rfl)
    (fun n => obl_of (by kernel_rfl) (by kernel_rfl) (lz) (cn (cn (cn (cn (cn (cn (cn (cn (cn (cn (cn (cn (cn (cz) (by kernel_rfl)) (by kernel_rfl)) (by kernel_rfl)) (by kernel_rfl)) (by kernel_rfl)) (by kernel_rfl)) (by kernel_rfl)) (by kernel_rfl)) (by kernel_rfl)) (by kernel_rfl)) (by kernel_rfl)) (by kernel_rfl)) (by kernel_rfl)) (hn fun _ => rfl))
    (fun n ih => asc_cons (wire_Reader_Num_ok ok n) <| asc_cons (wire_Reader_Left_ok ok n) <| asc_cons (wire_Reader_fail_ok ok n) <| asc_nil)
/-! ### (*pendulum/wire.Reader).Err -/
abbrev wire_Reader_Err_ins : Sh := ⟨[(.one (.ptr 0 0))], [(.obj 93 [(.val ty19), (.val (.int .i64)), (.val .err)])]⟩
abbrev wire_Reader_Err_outs : List Sh := [⟨[(.one (.val .err))], [(.obj 93 [(.val ty19), (.val (.int .i64)), (.val .err)])]⟩]
def wire_Reader_Err : Nat → wire_Reader_Err_ins.T → Option (OutsT wire_Reader_Err_outs)
  | 0, _ => none
  | n + 1, ((_, _), ((x1, x2, x3, _), _)) =>
    some ((x3, ()), ((x1, x2, x3, ()), ()))
def wire_Reader_Err_H (n : Nat) : Hints := ⟨[], fun _ => [], fun _ => none, fun _ => none, fun _ => none, fun _ => 0⟩
def wire_Reader_Err_O (n : Nat) : FuncId → List FSpec := asc []
def b25 : Code := bodyOf Tryz.f25
theorem wire_Reader_Err_ok {S : Nat → Addr} (ok : CfgOk P CC S) : ∀ n, SpecOk P CC S 25 ⟨wire_Reader_Err_ins, wire_Reader_Err_outs, wire_Reader_Err n⟩ :=
  fn_all ok (O := wire_Reader_Err_O) (H := wire_Reader_Err_H) (fn := Tryz.f25) (body := b25) (by kernel_rfl) (by kernel_rfl) (by kernel_rfl) (by decide) (by kernel_rfl)
    (fun x => by kernel_rfl) (fun n => by
      rintro ⟨⟨⟨⟩, ⟨⟩⟩, ⟨⟨x1, x2, x3, ⟨⟩⟩, ⟨⟩⟩⟩
      kernel_rfl)
    (fun n => obl_of (by kernel_rfl) (by kernel_rfl) (lz) (cn (cn (cz) (by kernel_rfl)) (by kernel_rfl)) (hn fun _ => rfl))
    (fun n ih => asc_nil)
/-! ### (*pendulum/wire.Reader).At -/
abbrev wire_Reader_At_ins : Sh := ⟨[(.one (.ptr 0 0))], [(.obj 93 [(.val ty19), (.val (.int .i64)), (.val .err)])]⟩
abbrev wire_Reader_At_outs : List Sh := [⟨[(.one (.val (.int .i64)))], [(.obj 93 [(.val ty19), (.val (.int .i64)), (.val .err)])]⟩]
def wire_Reader_At : Nat → wire_Reader_At_ins.T → Option (OutsT wire_Reader_At_outs)
  | 0, _ => none
  | n + 1, ((_, _), ((x1, x2, x3, _), _)) =>
    some ((x2, ()), ((x1, x2, x3, ()), ()))
def wire_Reader_At_H (n : Nat) : Hints := ⟨[], fun _ => [], fun _ => none, fun _ => none, fun _ => none, fun _ => 0⟩
def wire_Reader_At_O (n : Nat) : FuncId → List FSpec := asc []
def b26 : Code := bodyOf Tryz.f26
theorem wire_Reader_At_ok {S : Nat → Addr} (ok : CfgOk P CC S) : ∀ n, SpecOk P CC S 26 ⟨wire_Reader_At_ins, wire_Reader_At_outs, wire_Reader_At n⟩ :=
  fn_all ok (O := wire_Reader_At_O) (H := wire_Reader_At_H) (fn := Tryz.f26) (body := b26) (by kernel_rfl) (by kernel_rfl) (by kernel_rfl) (by decide) (by kernel_rfl)
    (fun x => by kernel_rfl) (fun n => by
      rintro ⟨⟨⟨⟩, ⟨⟩⟩, ⟨⟨x1, x2, x3, ⟨⟩⟩, ⟨⟩⟩⟩
      kernel_rfl)
    (fun n => obl_of (by kernel_rfl) (by kernel_rfl) (lz) (cn (cn (cz) (by kernel_rfl)) (by kernel_rfl)) (hn fun _ => rfl))
    (fun n ih => asc_nil)
/-! ### pendulum/code.types -/
abbrev code_types_ins : Sh := ⟨[(.one (.ptr 0 0))], [(.obj 93 [(.val ty19), (.val (.int .i64)), (.val .err)])]⟩
abbrev code_types_outs : List Sh := [⟨[(.one (.arr 1))], [(.obj 93 [(.val ty19), (.val (.int .i64)), (.val .err)]), (.arr 3 (.int .i64))]⟩]
abbrev code_types_l3_h : Sh := ⟨[(.one (.ptr 0 0)), (.one (.arr 1)), (.one (.val (.int .i64)))], [(.obj 93 [(.val ty19), (.val (.int .i64)), (.val .err)]), (.arr 3 (.int .i64))]⟩
abbrev code_types_l3_o : List Out := [⟨(.exit 0), [3], ⟨[(.one (.arr 1))], [(.obj 93 [(.val ty19), (.val (.int .i64)), (.val .err)]), (.arr 3 (.int .i64))]⟩⟩]
def code_types_l3 (n : Nat) : Nat → code_types_l3_h.T → Option (OutT code_types_l3_o)
  | 0, _ => none
  | k + 1, ((_, _, x1, _), ((x2, x3, x4, _), l5, _)) =>
    if decide (x1 > 0) then
      match wire_Reader_Err n (((), ()), ((x2, x3, x4, ()), ())) with
      | some ((x6, _), ((x7, x8, x9, _), _)) => (
        if errNil x6 then
          match wire_Reader_Num n (((), 1, 2, ()), ((x7, x8, x9, ()), ())) with
          | some ((x10, _), ((x11, x12, x13, _), _)) => (
            if (l5.length + ([x10] : List ((.int .i64) : Ty).T).length) * 8 ≤ 140737488355328 then (
              let v14 : Int := IntKind.i64.wrap (x1 - 1)
              code_types_l3 n k (((), (), v14, ()), ((x11, x12, x13, ()), l5 ++ [x10], ()))) else none)
          | none => none
        else
          some (.inl (((), ()), ((x7, x8, x9, ()), l5, ()))))
      | none => none
    else
      some (.inl (((), ()), ((x2, x3, x4, ()), l5, ())))
def code_types : Nat → code_types_ins.T → Option (OutsT code_types_outs)
  | 0, _ => none
  | n + 1, ((_, _), ((x1, x2, x3, _), _)) =>
    match wire_Reader_Num n (((), 0, 64, ()), ((x1, x2, x3, ()), ())) with
    | some ((x4, _), ((x5, x6, x7, _), _)) => (
      match code_types_l3 n n (((), (), x4, ()), ((x5, x6, x7, ()), [], ())) with
      | some (.inl ((_, _), ((x8, x9, x10, _), l11, _))) => (
        some (((), ()), ((x8, x9, x10, ()), l11, ())))
      | some (.inr (_)) => none
      | none => none)
    | none => none
def code_types_H (n : Nat) : Hints := ⟨[], fun _ => [], fun k => match k with | 3 => some ⟨[0, 3, 4], code_types_l3_h, code_types_l3_o, code_types_l3 n⟩ | _ => none, fun _ => none, fun _ => none, fun _ => 0⟩
def code_types_O (n : Nat) : FuncId → List FSpec := asc [(24, ⟨wire_Reader_Num_ins, wire_Reader_Num_outs, wire_Reader_Num n⟩), (25, ⟨wire_Reader_Err_ins, wire_Reader_Err_outs, wire_Reader_Err n⟩)]
def b44 : Code := bodyOf Tryz.f44
theorem code_types_l3_k0 (n : Nat) : LoopOk P CC (code_types_O n) n 1 22 (code_types_H n) ⟨[0, 3, 4], code_types_l3_h, code_types_l3_o, code_types_l3 n⟩ ((loopsOf b44).getD 0 .skip) := by
  refine ⟨fun _ => by kernel_rfl, ?_⟩
  rintro k ⟨⟨⟨⟩, ⟨⟩, x1, ⟨⟩⟩, ⟨⟨x2, x3, x4, ⟨⟩⟩, x5, ⟨⟩⟩⟩
  kernel_rfl
theorem code_types_ok {S : Nat → Addr} (ok : CfgOk P CC S) : ∀ n, SpecOk P CC S 44 ⟨code_types_ins, code_types_outs, code_types n⟩ :=
  fn_all ok (O := code_types_O) (H := code_types_H) (fn := Tryz.f44) (body := b44) (by kernel_rfl) (by kernel_rfl) (by kernel_rfl) (by decide) (by kernel_rfl)
    (fun x => by kernel_rfl) (fun n => by
      rintro ⟨⟨⟨⟩, ⟨⟩⟩, ⟨⟨x1, x2, x3, ⟨⟩⟩, ⟨⟩⟩⟩
      kernel_rfl)
    (fun n => obl_of (by kernel_rfl) (by kernel_rfl) (ls (lz) (by kernel_rfl) (code_types_l3_k0 n)) (cn (cn (cn (cn (cn (cn (cn (cn (cz) (by kernel_rfl)) (by kernel_rfl)) (by kernel_rfl)) (by kernel_rfl)) (by kernel_rfl)) (by kernel_rfl)) (by kernel_rfl)) (by kernel_rfl)) (hn fun _ => rfl))
    (fun n ih => asc_cons (wire_Reader_Num_ok ok n) <| asc_cons (wire_Reader_Err_ok ok n) <| asc_nil)
/-! ### pendulum/code.any64 -/
abbrev code_any64_ins : Sh := ⟨[(.one (.ptr 0 0))], [(.obj 93 [(.val ty19), (.val (.int .i64)), (.val .err)])]⟩
abbrev code_any64_outs : List Sh := [⟨[(.one (.val (.int .i64)))], [(.obj 93 [(.val ty19), (.val (.int .i64)), (.val .err)])]⟩]
def code_any64 : Nat → code_any64_ins.T → Option (OutsT code_any64_outs)
  | 0, _ => none
  | n + 1, ((_, _), ((x1, x2, x3, _), _)) =>
    match wire_Reader_Num n (((), (-9223372036854775808), 9223372036854775807, ()), ((x1, x2, x3, ()), ())) with
    | some ((x4, _), ((x5, x6, x7, _), _)) => (
      some ((x4, ()), ((x5, x6, x7, ()), ())))
    | none => none
def code_any64_H (n : Nat) : Hints := ⟨[], fun _ => [], fun _ => none, fun _ => none, fun _ => none, fun _ => 0⟩
def code_any64_O (n : Nat) : FuncId → List FSpec := asc [(24, ⟨wire_Reader_Num_ins, wire_Reader_Num_outs, wire_Reader_Num n⟩)]
def b45 : Code := bodyOf Tryz.f45
theorem code_any64_ok {S : Nat → Addr} (ok : CfgOk P CC S) : ∀ n, SpecOk P CC S 45 ⟨code_any64_ins, code_any64_outs, code_any64 n⟩ :=
  fn_all ok (O := code_any64_O) (H := code_any64_H) (fn := Tryz.f45) (body := b45) (by kernel_rfl) (by kernel_rfl) (by kernel_rfl) (by decide) (by kernel_rfl)
    (fun x => by kernel_rfl) (fun n => by
      rintro ⟨⟨⟨⟩, ⟨⟩⟩, ⟨⟨x1, x2, x3, ⟨⟩⟩, ⟨⟩⟩⟩
      kernel_rfl)
    (fun n => obl_of (by kernel_rfl) (by kernel_rfl) (lz) (cn (cn (cz) (by kernel_rfl)) (by kernel_rfl)) (hn fun _ => rfl))
    (fun n ih => asc_cons (wire_Reader_Num_ok ok n) <| asc_nil)
/-! ### pendulum/code.object -/
abbrev code_object_ins : Sh := ⟨[(.one (.ptr 0 0))], [(.obj 93 [(.val ty19), (.val (.int .i64)), (.val .err)])]⟩
abbrev code_object_outs : List Sh := [⟨[(.agg [(.val .str), (.arr 1), (.arr 2), (.val (.int .i64)), (.arr 3), (.arr 4), (.arr 5)])], [(.obj 93 [(.val ty19), (.val (.int .i64)), (.val .err)]), (.arr 3 (.int .i64)), (.arr 3 (.int .i64)), (.arr 76 ty7), (.arr 78 ty11), (.arr 48 ty13)]⟩]
abbrev code_object_l5_h : Sh := ⟨[(.one (.ptr 0 0)), (.one (.ptr 1 0)), (.one (.ptr 2 0)), (.one (.val (.int .i64)))], [(.obj 93 [(.val ty19), (.val (.int .i64)), (.val .err)]), (.obj 37 [(.val .str), (.emp true), (.emp true), (.val (.int .i64)), (.emp true), (.emp true), (.emp true)]), (.obj 37 [(.val .str), (.arr 3), (.arr 4), (.val (.int .i64)), (.arr 5), (.emp true), (.emp true)]), (.arr 3 (.int .i64)), (.arr 3 (.int .i64)), (.arr 76 ty7)]⟩
abbrev code_object_l5_o : List Out := [⟨(.exit 0), [0, 2, 3], ⟨[(.one (.ptr 0 0)), (.one (.ptr 1 0)), (.one (.ptr 2 0))], [(.obj 93 [(.val ty19), (.val (.int .i64)), (.val .err)]), (.obj 37 [(.val .str), (.emp true), (.emp true), (.val (.int .i64)), (.emp true), (.emp true), (.emp true)]), (.obj 37 [(.val .str), (.arr 3), (.arr 4), (.val (.int .i64)), (.arr 5), (.emp true), (.emp true)]), (.arr 3 (.int .i64)), (.arr 3 (.int .i64)), (.arr 76 ty7)]⟩⟩]
def code_object_l5 (n : Nat) : Nat → code_object_l5_h.T → Option (OutT code_object_l5_o)
  | 0, _ => none
  | k + 1, ((_, _, _, x1, _), ((x2, x3, x4, _), (x5, _, _, x6, _, _, _, _), (x7, _, _, x8, _, _, _, _), l9, l10, l11, _)) =>
    if decide (x1 > 0) then
      match wire_Reader_Err n (((), ()), ((x2, x3, x4, ()), ())) with
      | some ((x12, _), ((x13, x14, x15, _), _)) => (
        if errNil x12 then
          match wire_Reader_Text n (((), 200, ()), ((x13, x14, x15, ()), ())) with
          | some ((x16, _), ((x17, x18, x19, _), _)) => (
            match wire_Reader_Num n (((), 1, 2, ()), ((x17, x18, x19, ()), ())) with
            | some ((x20, _), ((x21, x22, x23, _), _)) => (
              match code_any64 n (((), ()), ((x21, x22, x23, ()), ())) with
              | some ((x24, _), ((x25, x26, x27, _), _)) => (
                if (l11.length + ([(x16, (x20, x24))] : List ty7.T).length) * 32 ≤ 140737488355328 then (
                  let v28 : Int := IntKind.i64.wrap (x1 - 1)
                  code_object_l5 n k (((), (), (), v28, ()), ((x25, x26, x27, ()), (x5, (), (), x6, (), (), (), ()), (x7, (), (), x8, (), (), (), ()), l9, l10, l11 ++ [(x16, (x20, x24))], ()))) else none)
              | none => none)
            | none => none)
          | none => none
        else
          some (.inl (((), (), (), ()), ((x13, x14, x15, ()), (x5, (), (), x6, (), (), (), ()), (x7, (), (), x8, (), (), (), ()), l9, l10, l11, ()))))
      | none => none
    else
      some (.inl (((), (), (), ()), ((x2, x3, x4, ()), (x5, (), (), x6, (), (), (), ()), (x7, (), (), x8, (), (), (), ()), l9, l10, l11, ())))
abbrev code_object_l12_h : Sh := ⟨[(.one (.ptr 0 0)), (.one (.ptr 1 0)), (.one (.ptr 2 0)), (.one (.val (.int .i64)))], [(.obj 93 [(.val ty19), (.val (.int .i64)), (.val .err)]), (.obj 37 [(.val .str), (.emp true), (.emp true), (.val (.int .i64)), (.emp true), (.emp true), (.emp true)]), (.obj 37 [(.val .str), (.arr 3), (.arr 4), (.val (.int .i64)), (.arr 5), (.arr 6), (.emp true)]), (.arr 3 (.int .i64)), (.arr 3 (.int .i64)), (.arr 76 ty7), (.arr 78 ty11)]⟩
abbrev code_object_l12_o : List Out := [⟨(.exit 2), [0, 2, 3], ⟨[(.one (.ptr 0 0)), (.one (.ptr 1 0)), (.one (.ptr 2 0))], [(.obj 93 [(.val ty19), (.val (.int .i64)), (.val .err)]), (.obj 37 [(.val .str), (.emp true), (.emp true), (.val (.int .i64)), (.emp true), (.emp true), (.emp true)]), (.obj 37 [(.val .str), (.arr 3), (.arr 4), (.val (.int .i64)), (.arr 5), (.arr 6), (.emp true)]), (.arr 3 (.int .i64)), (.arr 3 (.int .i64)), (.arr 76 ty7), (.arr 78 ty11)]⟩⟩]
def code_object_l12 (n : Nat) : Nat → code_object_l12_h.T → Option (OutT code_object_l12_o)
  | 0, _ => none
  | k + 1, ((_, _, _, x1, _), ((x2, x3, x4, _), (x5, _, _, x6, _, _, _, _), (x7, _, _, x8, _, _, _, _), l9, l10, l11, l12, _)) =>
    if decide (x1 > 0) then
      match wire_Reader_Err n (((), ()), ((x2, x3, x4, ()), ())) with
      | some ((x13, _), ((x14, x15, x16, _), _)) => (
        if errNil x13 then
          match wire_Reader_Text n (((), 200, ()), ((x14, x15, x16, ()), ())) with
          | some ((x17, _), ((x18, x19, x20, _), _)) => (
            match wire_Reader_Text n (((), 200, ()), ((x18, x19, x20, ()), ())) with
            | some ((x21, _), ((x22, x23, x24, _), _)) => (
              if (l12.length + ([(x17, x21)] : List ty11.T).length) * 32 ≤ 140737488355328 then (
                let v25 : Int := IntKind.i64.wrap (x1 - 1)
                code_object_l12 n k (((), (), (), v25, ()), ((x22, x23, x24, ()), (x5, (), (), x6, (), (), (), ()), (x7, (), (), x8, (), (), (), ()), l9, l10, l11, l12 ++ [(x17, x21)], ()))) else none)
            | none => none)
          | none => none
        else
          some (.inl (((), (), (), ()), ((x14, x15, x16, ()), (x5, (), (), x6, (), (), (), ()), (x7, (), (), x8, (), (), (), ()), l9, l10, l11, l12, ()))))
      | none => none
    else
      some (.inl (((), (), (), ()), ((x2, x3, x4, ()), (x5, (), (), x6, (), (), (), ()), (x7, (), (), x8, (), (), (), ()), l9, l10, l11, l12, ())))
abbrev code_object_l18_h : Sh := ⟨[(.one (.ptr 0 0)), (.one (.ptr 1 0)), (.one (.ptr 2 0)), (.one (.val (.int .i64)))], [(.obj 93 [(.val ty19), (.val (.int .i64)), (.val .err)]), (.obj 37 [(.val .str), (.emp true), (.emp true), (.val (.int .i64)), (.emp true), (.emp true), (.emp true)]), (.obj 37 [(.val .str), (.arr 3), (.arr 4), (.val (.int .i64)), (.arr 5), (.arr 6), (.arr 7)]), (.arr 3 (.int .i64)), (.arr 3 (.int .i64)), (.arr 76 ty7), (.arr 78 ty11), (.arr 48 ty13)]⟩
abbrev code_object_l18_o : List Out := [⟨(.exit 4), [2, 3], ⟨[(.one (.ptr 1 0)), (.one (.ptr 2 0))], [(.obj 93 [(.val ty19), (.val (.int .i64)), (.val .err)]), (.obj 37 [(.val .str), (.emp true), (.emp true), (.val (.int .i64)), (.emp true), (.emp true), (.emp true)]), (.obj 37 [(.val .str), (.arr 3), (.arr 4), (.val (.int .i64)), (.arr 5), (.arr 6), (.arr 7)]), (.arr 3 (.int .i64)), (.arr 3 (.int .i64)), (.arr 76 ty7), (.arr 78 ty11), (.arr 48 ty13)]⟩⟩]
def code_object_l18 (n : Nat) : Nat → code_object_l18_h.T → Option (OutT code_object_l18_o)
  | 0, _ => none
  | k + 1, ((_, _, _, x1, _), ((x2, x3, x4, _), (x5, _, _, x6, _, _, _, _), (x7, _, _, x8, _, _, _, _), l9, l10, l11, l12, l13, _)) =>
    if decide (x1 > 0) then
      match wire_Reader_Err n (((), ()), ((x2, x3, x4, ()), ())) with
      | some ((x14, _), ((x15, x16, x17, _), _)) => (
        if errNil x14 then
          match wire_Reader_Num n (((), 1, 12, ()), ((x15, x16, x17, ()), ())) with
          | some ((x18, _), ((x19, x20, x21, _), _)) => (
            match wire_Reader_Num n (((), (-1), 1048576, ()), ((x19, x20, x21, ()), ())) with
            | some ((x22, _), ((x23, x24, x25, _), _)) => (
              match wire_Reader_Num n (((), (-1), 1048576, ()), ((x23, x24, x25, ()), ())) with
              | some ((x26, _), ((x27, x28, x29, _), _)) => (
                match wire_Reader_Num n (((), (-1), 1048576, ()), ((x27, x28, x29, ()), ())) with
                | some ((x30, _), ((x31, x32, x33, _), _)) => (
                  match wire_Reader_Num n (((), (-1), 1048576, ()), ((x31, x32, x33, ()), ())) with
                  | some ((x34, _), ((x35, x36, x37, _), _)) => (
                    match code_any64 n (((), ()), ((x35, x36, x37, ()), ())) with
                    | some ((x38, _), ((x39, x40, x41, _), _)) => (
                      if (l13.length + ([(x18, (x22, (x26, (x30, (x34, x38)))))] : List ty13.T).length) * 48 ≤ 140737488355328 then (
                        let v42 : Int := IntKind.i64.wrap (x1 - 1)
                        code_object_l18 n k (((), (), (), v42, ()), ((x39, x40, x41, ()), (x5, (), (), x6, (), (), (), ()), (x7, (), (), x8, (), (), (), ()), l9, l10, l11, l12, l13 ++ [(x18, (x22, (x26, (x30, (x34, x38)))))], ()))) else none)
                    | none => none)
                  | none => none)
                | none => none)
              | none => none)
            | none => none)
          | none => none
        else
          some (.inl (((), (), ()), ((x15, x16, x17, ()), (x5, (), (), x6, (), (), (), ()), (x7, (), (), x8, (), (), (), ()), l9, l10, l11, l12, l13, ()))))
      | none => none
    else
      some (.inl (((), (), ()), ((x2, x3, x4, ()), (x5, (), (), x6, (), (), (), ()), (x7, (), (), x8, (), (), (), ()), l9, l10, l11, l12, l13, ())))
def code_object : Nat → code_object_ins.T → Option (OutsT code_object_outs)
  | 0, _ => none
  | n + 1, ((_, _), ((x1, x2, x3, _), _)) =>
    match wire_Reader_Text n (((), 200, ()), ((x1, x2, x3, ()), ())) with
    | some ((x4, _), ((x5, x6, x7, _), _)) => (
      match code_types n (((), ()), ((x5, x6, x7, ()), ())) with
      | some ((_, _), ((x8, x9, x10, _), l11, _)) => (
        match code_types n (((), ()), ((x8, x9, x10, ()), ())) with
        | some ((_, _), ((x12, x13, x14, _), l15, _)) => (
          match wire_Reader_Num n (((), 0, 1024, ()), ((x12, x13, x14, ()), ())) with
          | some ((x16, _), ((x17, x18, x19, _), _)) => (
            match wire_Reader_Num n (((), 0, 1024, ()), ((x17, x18, x19, ()), ())) with
            | some ((x20, _), ((x21, x22, x23, _), _)) => (
              match code_object_l5 n n (((), (), (), x20, ()), ((x21, x22, x23, ()), ((⟨#[]⟩ : ByteArray), (), (), 0, (), (), (), ()), (x4, (), (), x16, (), (), (), ()), l11, l15, [], ())) with
              | some (.inl ((_, _, _, _), ((x24, x25, x26, _), (x27, _, _, x28, _, _, _, _), (x29, _, _, x30, _, _, _, _), l31, l32, l33, _))) => (
                match wire_Reader_Num n (((), 0, 256, ()), ((x24, x25, x26, ()), ())) with
                | some ((x34, _), ((x35, x36, x37, _), _)) => (
                  match code_object_l12 n n (((), (), (), x34, ()), ((x35, x36, x37, ()), (x27, (), (), x28, (), (), (), ()), (x29, (), (), x30, (), (), (), ()), l31, l32, l33, [], ())) with
                  | some (.inl ((_, _, _, _), ((x38, x39, x40, _), (x41, _, _, x42, _, _, _, _), (x43, _, _, x44, _, _, _, _), l45, l46, l47, l48, _))) => (
                    match wire_Reader_Num n (((), 0, 4096, ()), ((x38, x39, x40, ()), ())) with
                    | some ((x49, _), ((x50, x51, x52, _), _)) => (
                      match code_object_l18 n n (((), (), (), x49, ()), ((x50, x51, x52, ()), (x41, (), (), x42, (), (), (), ()), (x43, (), (), x44, (), (), (), ()), l45, l46, l47, l48, [], ())) with
                      | some (.inl ((_, _, _), ((x53, x54, x55, _), (x56, _, _, x57, _, _, _, _), (x58, _, _, x59, _, _, _, _), l60, l61, l62, l63, l64, _))) => (
                        some (((x58, (), (), x59, (), (), (), ()), ()), ((x53, x54, x55, ()), l60, l61, l62, l63, l64, ())))
                      | some (.inr (_)) => none
                      | none => none)
                    | none => none)
                  | some (.inr (_)) => none
                  | none => none)
                | none => none)
              | some (.inr (_)) => none
              | none => none)
            | none => none)
          | none => none)
        | none => none)
      | none => none)
    | none => none
def code_object_H (n : Nat) : Hints := ⟨[], fun _ => [], fun k => match k with | 5 => some ⟨[0, 2, 3, 4], code_object_l5_h, code_object_l5_o, code_object_l5 n⟩ | 12 => some ⟨[0, 2, 3, 6], code_object_l12_h, code_object_l12_o, code_object_l12 n⟩ | 18 => some ⟨[0, 2, 3, 8], code_object_l18_h, code_object_l18_o, code_object_l18 n⟩ | _ => none, fun _ => none, fun _ => none, fun k => match k with | 22 => 5 | _ => 0⟩
def code_object_O (n : Nat) : FuncId → List FSpec := asc [(23, ⟨wire_Reader_Text_ins, wire_Reader_Text_outs, wire_Reader_Text n⟩), (24, ⟨wire_Reader_Num_ins, wire_Reader_Num_outs, wire_Reader_Num n⟩), (25, ⟨wire_Reader_Err_ins, wire_Reader_Err_outs, wire_Reader_Err n⟩), (44, ⟨code_types_ins, code_types_outs, code_types n⟩), (45, ⟨code_any64_ins, code_any64_outs, code_any64 n⟩)]
def b27 : Code := bodyOf Tryz.f27
theorem code_object_l5_k0 (n : Nat) : LoopOk P CC (code_object_O n) n 1 112 (code_object_H n) ⟨[0, 2, 3, 4], code_object_l5_h, code_object_l5_o, code_object_l5 n⟩ ((loopsOf b27).getD 0 .skip) := by
  refine ⟨fun _ => by kernel_rfl, ?_⟩
  rintro k ⟨⟨⟨⟩, ⟨⟩, ⟨⟩, x1, ⟨⟩⟩, ⟨⟨x2, x3, x4, ⟨⟩⟩, ⟨x5, ⟨⟩, ⟨⟩, x6, ⟨⟩, ⟨⟩, ⟨⟩, ⟨⟩⟩, ⟨x7, ⟨⟩, ⟨⟩, x8, ⟨⟩, ⟨⟩, ⟨⟩, ⟨⟩⟩, x9, x10, x11, ⟨⟩⟩⟩
  kernel_rfl
theorem code_object_l12_k1 (n : Nat) : LoopOk P CC (code_object_O n) n 1 112 (code_object_H n) ⟨[0, 2, 3, 6], code_object_l12_h, code_object_l12_o, code_object_l12 n⟩ ((loopsOf b27).getD 1 .skip) := by
  refine ⟨fun _ => by kernel_rfl, ?_⟩
  rintro k ⟨⟨⟨⟩, ⟨⟩, ⟨⟩, x1, ⟨⟩⟩, ⟨⟨x2, x3, x4, ⟨⟩⟩, ⟨x5, ⟨⟩, ⟨⟩, x6, ⟨⟩, ⟨⟩, ⟨⟩, ⟨⟩⟩, ⟨x7, ⟨⟩, ⟨⟩, x8, ⟨⟩, ⟨⟩, ⟨⟩, ⟨⟩⟩, x9, x10, x11, x12, ⟨⟩⟩⟩
  kernel_rfl
theorem code_object_l18_k2 (n : Nat) : LoopOk P CC (code_object_O n) n 1 112 (code_object_H n) ⟨[0, 2, 3, 8], code_object_l18_h, code_object_l18_o, code_object_l18 n⟩ ((loopsOf b27).getD 2 .skip) := by
  refine ⟨fun _ => by kernel_rfl, ?_⟩
  rintro k ⟨⟨⟨⟩, ⟨⟩, ⟨⟩, x1, ⟨⟩⟩, ⟨⟨x2, x3, x4, ⟨⟩⟩, ⟨x5, ⟨⟩, ⟨⟩, x6, ⟨⟩, ⟨⟩, ⟨⟩, ⟨⟩⟩, ⟨x7, ⟨⟩, ⟨⟩, x8, ⟨⟩, ⟨⟩, ⟨⟩, ⟨⟩⟩, x9, x10, x11, x12, x13, ⟨⟩⟩⟩
  kernel_rfl
theorem code_object_ok {S : Nat → Addr} (ok : CfgOk P CC S) : ∀ n, SpecOk P CC S 27 ⟨code_object_ins, code_object_outs, code_object n⟩ :=
  fn_all ok (O := code_object_O) (H := code_object_H) (fn := Tryz.f27) (body := b27) (by kernel_rfl) (by kernel_rfl) (by kernel_rfl) (by decide) (by kernel_rfl)
    (fun x => by kernel_rfl) (fun n => by
      rintro ⟨⟨⟨⟩, ⟨⟩⟩, ⟨⟨x1, x2, x3, ⟨⟩⟩, ⟨⟩⟩⟩
      kernel_rfl)
    (fun n => obl_of (by kernel_rfl) (by kernel_rfl) (ln (ls (ls (ls (lz) (by kernel_rfl) (code_object_l5_k0 n)) (by kernel_rfl) (code_object_l12_k1 n)) (by kernel_rfl) (code_object_l18_k2 n)) (by kernel_rfl)) (cn (cn (cn (cn (cn (cn (cn (cn (cn (cn (cn (cn (cn (cn (cn (cn (cn (cn (cn (cn (cn (cn (cn (cn (cn (cn (cn (cn (cn (cn (cn (cn (cn (cz) (by kernel_rfl)) (by kernel_rfl)) (by kernel_rfl)) (by kernel_rfl)) (by kernel_rfl)) (by kernel_rfl)) (by kernel_rfl)) (by kernel_rfl)) (by kernel_rfl)) (by kernel_rfl)) (by kernel_rfl)) (by kernel_rfl)) (by kernel_rfl)) (by kernel_rfl)) (by kernel_rfl)) (by kernel_rfl)) (by kernel_rfl)) (by kernel_rfl)) (by kernel_rfl)) (by kernel_rfl)) (by kernel_rfl)) (by kernel_rfl)) (by kernel_rfl)) (by kernel_rfl)) (by kernel_rfl)) (by kernel_rfl)) (by kernel_rfl)) (by kernel_rfl)) (by kernel_rfl)) (by kernel_rfl)) (by kernel_rfl)) (by kernel_rfl)) (by kernel_rfl)) (hn fun _ => rfl))
    (fun n ih => asc_cons (wire_Reader_Text_ok ok n) <| asc_cons (wire_Reader_Num_ok ok n) <| asc_cons (wire_Reader_Err_ok ok n) <| asc_cons (code_types_ok ok n) <| asc_cons (code_any64_ok ok n) <| asc_nil)
/-! ### pendulum/code.Load -/
abbrev code_Load_ins : Sh := ⟨[(.one (.arr 0))], [(.arr 5 (.int .u8))]⟩
abbrev code_Load_outs : List Sh := [⟨[(.tup [(false, [(.val .str)]), (false, [(.val ty18)]), (false, [(.val .err)])])], [(.frz 5 (.int .u8))]⟩]
abbrev code_Load_l6_h : Sh := ⟨[(.one (.ptr 1 0)), (.one (.val .str)), (.one (.arr 2)), (.one (.val (.int .i64))), (.one (.val (.int .i64)))], [(.frz 5 (.int .u8)), (.obj 93 [(.val ty19), (.val (.int .i64)), (.val .err)]), (.arr 37 ty0)]⟩
abbrev code_Load_l6_o : List Out := [⟨(.exit 0), [5, 6, 7, 8], ⟨[(.one (.ptr 1 0)), (.one (.val .str)), (.one (.arr 2)), (.one (.val (.int .i64)))], [(.frz 5 (.int .u8)), (.obj 93 [(.val ty19), (.val (.int .i64)), (.val .err)]), (.arr 37 ty0)]⟩⟩]
def code_Load_l6 (n : Nat) : Nat → code_Load_l6_h.T → Option (OutT code_Load_l6_o)
  | 0, _ => none
  | k + 1, ((_, x1, _, x2, x3, _), (l4, (x5, x6, x7, _), l8, _)) =>
    if decide (x3 > 0) then
      match wire_Reader_Err n (((), ()), ((x5, x6, x7, ()), ())) with
      | some ((x9, _), ((x10, x11, x12, _), _)) => (
        if errNil x9 then
          match wire_Reader_At n (((), ()), ((x10, x11, x12, ()), ())) with
          | some ((x13, _), ((x14, x15, x16, _), _)) => (
            match code_object n (((), ()), ((x14, x15, x16, ()), ())) with
            | some (((x17, _, _, x18, _, _, _, _), _), ((x19, x20, x21, _), l22, l23, l24, l25, l26, _)) => (
              match wire_Reader_Err n (((), ()), ((x19, x20, x21, ()), ())) with
              | some ((x27, _), ((x28, x29, x30, _), _)) => (
                if errNil x27 then
                  if decide (x2 < 0) then
                    if decide ((l8.length : Int) > 0) then
                      let v31 : Int := IntKind.i64.wrap ((l8.length : Int) - 1)
                      if 0 ≤ v31 ∧ v31 < (l8.length : Int) then (
                        if strLt x17 ((rdT ty0 l8 v31).1) || strEq x17 ((rdT ty0 l8 v31).1) then
                          if (l8.length + ([(x17, (l22, (l23, (x18, (l24, (l25, l26))))))] : List ty0.T).length) * 144 ≤ 140737488355328 then (
                            let v32 : Int := IntKind.i64.wrap (x3 - 1)
                            code_Load_l6 n k (((), x1, (), x13, v32, ()), (l4, (x28, x29, x30, ()), l8 ++ [(x17, (l22, (l23, (x18, (l24, (l25, l26))))))], ()))) else none
                        else
                          if (l8.length + ([(x17, (l22, (l23, (x18, (l24, (l25, l26))))))] : List ty0.T).length) * 144 ≤ 140737488355328 then (
                            let v33 : Int := IntKind.i64.wrap (x3 - 1)
                            code_Load_l6 n k (((), x1, (), x2, v33, ()), (l4, (x28, x29, x30, ()), l8 ++ [(x17, (l22, (l23, (x18, (l24, (l25, l26))))))], ()))) else none) else none
                    else
                      if (l8.length + ([(x17, (l22, (l23, (x18, (l24, (l25, l26))))))] : List ty0.T).length) * 144 ≤ 140737488355328 then (
                        let v34 : Int := IntKind.i64.wrap (x3 - 1)
                        code_Load_l6 n k (((), x1, (), x2, v34, ()), (l4, (x28, x29, x30, ()), l8 ++ [(x17, (l22, (l23, (x18, (l24, (l25, l26))))))], ()))) else none
                  else
                    if (l8.length + ([(x17, (l22, (l23, (x18, (l24, (l25, l26))))))] : List ty0.T).length) * 144 ≤ 140737488355328 then (
                      let v35 : Int := IntKind.i64.wrap (x3 - 1)
                      code_Load_l6 n k (((), x1, (), x2, v35, ()), (l4, (x28, x29, x30, ()), l8 ++ [(x17, (l22, (l23, (x18, (l24, (l25, l26))))))], ()))) else none
                else
                  if (l8.length + ([(x17, (l22, (l23, (x18, (l24, (l25, l26))))))] : List ty0.T).length) * 144 ≤ 140737488355328 then (
                    let v36 : Int := IntKind.i64.wrap (x3 - 1)
                    code_Load_l6 n k (((), x1, (), x2, v36, ()), (l4, (x28, x29, x30, ()), l8 ++ [(x17, (l22, (l23, (x18, (l24, (l25, l26))))))], ()))) else none)
              | none => none)
            | none => none)
          | none => none
        else
          some (.inl (((), x1, (), x2, ()), (l4, (x10, x11, x12, ()), l8, ()))))
      | none => none
    else
      some (.inl (((), x1, (), x2, ()), (l4, (x5, x6, x7, ()), l8, ())))
def code_Load : Nat → code_Load_ins.T → Option (OutsT code_Load_outs)
  | 0, _ => none
  | n + 1, ((_, _), (l1, _)) =>
    match wire_NewReader n (((), ()), (l1, ())) with
    | some ((_, _), (l2, (x3, x4, x5, _), _)) => (
      match wire_Reader_Text n (((), 200, ()), ((x3, x4, x5, ()), ())) with
      | some ((x6, _), ((x7, x8, x9, _), _)) => (
        match wire_Reader_Num n (((), 0, 512, ()), ((x7, x8, x9, ()), ())) with
        | some ((x10, _), ((x11, x12, x13, _), _)) => (
          match code_Load_l6 n n (((), x6, (), (-1), x10, ()), (l2, (x11, x12, x13, ()), [], ())) with
          | some (.inl ((_, x14, _, x15, _), (l16, (x17, x18, x19, _), l20, _))) => (
            match wire_Reader_Err n (((), ()), ((x17, x18, x19, ()), ())) with
            | some ((x21, _), ((x22, x23, x24, _), _)) => (
              if !(errNil x21) then
                match wire_Reader_Err n (((), ()), ((x22, x23, x24, ()), ())) with
                | some ((x25, _), ((x26, x27, x28, _), _)) => (
                  some (((((⟨#[]⟩ : ByteArray), ()), ([], ()), (x25, ()), ()), ()), (l16, ())))
                | none => none
              else
                match wire_Reader_Left n (((), ()), ((x22, x23, x24, ()), ())) with
                | some ((x29, _), ((x30, x31, x32, _), _)) => (
                  if decide (x29 > 0) then
                    match wire_Reader_At n (((), ()), ((x30, x31, x32, ()), ())) with
                    | some ((x33, _), ((x34, x35, x36, _), _)) => (
                      some (((((⟨#[]⟩ : ByteArray), ()), ([], ()), (ErrV.at_ x33 (ErrV.sent 102), ()), ()), ()), (l16, ())))
                    | none => none
                  else
                    if decide (x15 ≥ 0) then
                      some (((((⟨#[]⟩ : ByteArray), ()), ([], ()), (ErrV.at_ x15 (ErrV.sent 102), ()), ()), ()), (l16, ()))
                    else
                      match lay_Of n ((x14, l20, ()), ()) with
                      | some ((((_, _), (x37, _), _), _), (l38, _)) => (
                        if !(errNil x37) then
                          some (((((⟨#[]⟩ : ByteArray), ()), ([], ()), (x37, ()), ()), ()), (l16, ()))
                        else
                          match lay_Uses n ((x14, l20, ()), ()) with
                          | some ((((_, _), (x39, _), _), _), (l40, _)) => (
                            if !(errNil x39) then
                              some (((((⟨#[]⟩ : ByteArray), ()), ([], ()), (ErrV.sent 102, ()), ()), ()), (l16, ()))
                            else
                              if (l40.length : Int) != (l20.length : Int) then
                                some (((((⟨#[]⟩ : ByteArray), ()), ([], ()), (ErrV.sent 102, ()), ()), ()), (l16, ()))
                              else
                                some ((((x14, ()), (l20, ()), (ErrV.nil, ()), ()), ()), (l16, ())))
                          | none => none)
                      | none => none)
                | none => none)
            | none => none)
          | some (.inr (_)) => none
          | none => none)
        | none => none)
      | none => none)
    | none => none
def code_Load_H (n : Nat) : Hints := ⟨[], fun _ => [], fun k => match k with | 6 => some ⟨[5, 6, 7, 8, 9], code_Load_l6_h, code_Load_l6_o, code_Load_l6 n⟩ | _ => none, fun _ => none, fun _ => none, fun _ => 0⟩
def code_Load_O (n : Nat) : FuncId → List FSpec := asc [(15, ⟨lay_Of_ins, lay_Of_outs, lay_Of n⟩), (16, ⟨lay_Uses_ins, lay_Uses_outs, lay_Uses n⟩), (22, ⟨wire_NewReader_ins, wire_NewReader_outs, wire_NewReader n⟩), (23, ⟨wire_Reader_Text_ins, wire_Reader_Text_outs, wire_Reader_Text n⟩), (24, ⟨wire_Reader_Num_ins, wire_Reader_Num_outs, wire_Reader_Num n⟩), (25, ⟨wire_Reader_Err_ins, wire_Reader_Err_outs, wire_Reader_Err n⟩), (26, ⟨wire_Reader_At_ins, wire_Reader_At_outs, wire_Reader_At n⟩), (27, ⟨code_object_ins, code_object_outs, code_object n⟩), (28, ⟨wire_Reader_Left_ins, wire_Reader_Left_outs, wire_Reader_Left n⟩)]
def b7 : Code := bodyOf Tryz.f7
theorem code_Load_l6_k0 (n : Nat) : LoopOk P CC (code_Load_O n) n 1 115 (code_Load_H n) ⟨[5, 6, 7, 8, 9], code_Load_l6_h, code_Load_l6_o, code_Load_l6 n⟩ ((loopsOf b7).getD 0 .skip) := by
  refine ⟨fun _ => by kernel_rfl, ?_⟩
  rintro k ⟨⟨⟨⟩, x1, ⟨⟩, x2, x3, ⟨⟩⟩, ⟨x4, ⟨x5, x6, x7, ⟨⟩⟩, x8, ⟨⟩⟩⟩
  kernel_rfl
theorem code_Load_ok {S : Nat → Addr} (ok : CfgOk P CC S) : ∀ n, SpecOk P CC S 7 ⟨code_Load_ins, code_Load_outs, code_Load n⟩ :=
  fn_all ok (O := code_Load_O) (H := code_Load_H) (fn := Tryz.f7) (body := b7) (by kernel_rfl) (by kernel_rfl) (by kernel_rfl) (by decide) (by kernel_rfl)
    (fun x => by kernel_rfl) (fun n => by
      rintro ⟨⟨⟨⟩, ⟨⟩⟩, ⟨x1, ⟨⟩⟩⟩
      kernel_rfl)
    (fun n => obl_of (by kernel_rfl) (by kernel_rfl) (ls (lz) (by kernel_rfl) (code_Load_l6_k0 n)) (cn (cn (cn (cn (cn (cn (cn (cn (cn (cn (cn (cn (cn (cn (cn (cn (cn (cn (cn (cn (cn (cn (cn (cn (cn (cn (cn (cn (cn (cn (cz) (by kernel_rfl)) (by kernel_rfl)) (by kernel_rfl)) (by kernel_rfl)) (by kernel_rfl)) (by kernel_rfl)) (by kernel_rfl)) (by kernel_rfl)) (by kernel_rfl)) (by kernel_rfl)) (by kernel_rfl)) (by kernel_rfl)) (by kernel_rfl)) (by kernel_rfl)) (by kernel_rfl)) (by kernel_rfl)) (by kernel_rfl)) (by kernel_rfl)) (by kernel_rfl)) (by kernel_rfl)) (by kernel_rfl)) (by kernel_rfl)) (by kernel_rfl)) (by kernel_rfl)) (by kernel_rfl)) (by kernel_rfl)) (by kernel_rfl)) (by kernel_rfl)) (by kernel_rfl)) (by kernel_rfl)) (hn fun _ => rfl))
    (fun n ih => asc_cons (lay_Of_ok ok n) <| asc_cons (lay_Uses_ok ok n) <| asc_cons (wire_NewReader_ok ok n) <| asc_cons (wire_Reader_Text_ok ok n) <| asc_cons (wire_Reader_Num_ok ok n) <| asc_cons (wire_Reader_Err_ok ok n) <| asc_cons (wire_Reader_At_ok ok n) <| asc_cons (code_object_ok ok n) <| asc_cons (wire_Reader_Left_ok ok n) <| asc_nil)
/-! ### pendulum/code.Link -/
abbrev code_Link_2_ins : Sh := ⟨[(.one (.val .str)), (.one (.arr 0))], [(.arr 37 ty0)]⟩
abbrev code_Link_2_outs : List Sh := [⟨[(.tup [(false, [(.arr 1)]), (false, [(.val .err)])])], [(.frz 37 ty0), (.arr 5 (.int .u8))]⟩]
abbrev code_Link_2_l9_h : Sh := ⟨[(.one (.arr 0)), (.one (.arr 1)), (.one (.arr 2)), (.one (.val (.int .i64))), (.one (.val (.int .i64)))], [(.frz 37 ty0), (.arr 5 (.int .u8)), (.arr 9 .str)]⟩
abbrev code_Link_2_l9_o : List Out := [⟨(.exit 0), [10], ⟨[(.one (.arr 1))], [(.frz 37 ty0), (.arr 5 (.int .u8))]⟩⟩, ⟨.ret, [4, 5], ⟨[(.one (.emp true)), (.one (.val .err))], [(.frz 37 ty0)]⟩⟩]
def code_Link_2_l9 (n : Nat) : Nat → code_Link_2_l9_h.T → Option (OutT code_Link_2_l9_o)
  | 0, _ => none
  | k + 1, ((_, _, _, x1, x2, _), (l3, l4, l5, _)) =>
    if decide (x2 < x1) then
      if 0 ≤ x2 ∧ x2 < (l5.length : Int) then (
        match slices_IndexFunc_api_Object_api_Object n ((l3, (), ()), ((rdT (.str : Ty) l5 x2, ()), ())) with
        | some ((x6, _), ((x7, _), _)) => (
          if 0 ≤ x6 ∧ x6 < (l3.length : Int) then (
            match code_Bytes n ((((rdT ty0 l3 x6).1, ((rdT ty0 l3 x6).2).1, (((rdT ty0 l3 x6).2).2).1, ((((rdT ty0 l3 x6).2).2).2).1, (((((rdT ty0 l3 x6).2).2).2).2).1, ((((((rdT ty0 l3 x6).2).2).2).2).2).1, ((((((rdT ty0 l3 x6).2).2).2).2).2).2, ()), ()), ()) with
            | some ((((_, _), (x8, _), _), _), (l9, _)) => (
              if !(errNil x8) then
                some (.inr (.inl (((), ErrV.at_ x6 x8, ()), (l3, ()))))
              else
                if (l4.length + l9.length) * 1 ≤ 140737488355328 then (
                  let v10 : Int := IntKind.i64.wrap (x2 + 1)
                  code_Link_2_l9 n k (((), (), (), x1, v10, ()), (l3, l4 ++ l9, l5, ()))) else none)
            | none => none) else none)
        | none => none) else none
    else
      some (.inl (((), ()), (l3, l4, ())))
def code_Link_2 : Nat → code_Link_2_ins.T → Option (OutsT code_Link_2_outs)
  | 0, _ => none
  | n + 1, ((x1, _, _), (l2, _)) =>
    match lay_Of n ((x1, l2, ()), ()) with
    | some ((((_, _), (x3, _), _), _), (l4, _)) => (
      if !(errNil x3) then
        some (((((), ()), (x3, ()), ()), ()), (l2, [], ()))
      else
        match lay_Uses n ((x1, l2, ()), ()) with
        | some ((((_, _), (x5, _), _), _), (l6, _)) => (
          if !(errNil x5) then
            some (((((), ()), (x5, ()), ()), ()), (l2, [], ()))
          else
            match code_text n (((), x1, ()), ([], ())) with
            | some ((_, _), (_, l7, _)) => (
              match code_put n (((), (), ()), (l7, [(l6.length : Int)], ())) with
              | some ((_, _), (_, l8, l9, _)) => (
                match code_Link_2_l9 n n (((), (), (), (l6.length : Int), 0, ()), (l2, l9, l6, ())) with
                | some (.inl ((_, _), (l10, l11, _))) => (
                  some (((((), ()), (ErrV.nil, ()), ()), ()), (l10, l11, ())))
                | some (.inr (.inl ((_, x12, _), (l13, _)))) => (
                  some (((((), ()), (x12, ()), ()), ()), (l13, [], ())))
                | some (.inr (.inr (_))) => none
                | none => none)
              | none => none)
            | none => none)
        | none => none)
    | none => none
def code_Link_2_H (n : Nat) : Hints := ⟨[], fun _ => [], fun k => match k with | 9 => some ⟨[1, 10, 40, 41, 42], code_Link_2_l9_h, code_Link_2_l9_o, code_Link_2_l9 n⟩ | _ => none, fun _ => none, fun _ => none, fun _ => 0⟩
def code_Link_2_O (n : Nat) : FuncId → List FSpec := asc [(15, ⟨lay_Of_ins, lay_Of_outs, lay_Of n⟩), (16, ⟨lay_Uses_ins, lay_Uses_outs, lay_Uses n⟩), (17, ⟨code_put_ins, code_put_outs, code_put n⟩), (18, ⟨code_text_ins, code_text_outs, code_text n⟩), (19, ⟨slices_IndexFunc_api_Object_api_Object_ins, slices_IndexFunc_api_Object_api_Object_outs, slices_IndexFunc_api_Object_api_Object n⟩), (21, ⟨code_Bytes_ins, code_Bytes_outs, code_Bytes n⟩)]
theorem code_Link_2_l9_k0 (n : Nat) : LoopOk P CC (code_Link_2_O n) n 1 69 (code_Link_2_H n) ⟨[1, 10, 40, 41, 42], code_Link_2_l9_h, code_Link_2_l9_o, code_Link_2_l9 n⟩ ((loopsOf b6).getD 0 .skip) := by
  refine ⟨fun _ => by kernel_rfl, ?_⟩
  rintro k ⟨⟨⟨⟩, ⟨⟩, ⟨⟩, x1, x2, ⟨⟩⟩, ⟨x3, x4, x5, ⟨⟩⟩⟩
  kernel_rfl
theorem code_Link_2_ok {S : Nat → Addr} (ok : CfgOk P CC S) : ∀ n, SpecOk P CC S 6 ⟨code_Link_2_ins, code_Link_2_outs, code_Link_2 n⟩ :=
  fn_all ok (O := code_Link_2_O) (H := code_Link_2_H) (fn := Tryz.f6) (body := b6) (by kernel_rfl) (by kernel_rfl) (by kernel_rfl) (by decide) (by kernel_rfl)
    (fun x => by kernel_rfl) (fun n => by
      rintro ⟨⟨x1, ⟨⟩, ⟨⟩⟩, ⟨x2, ⟨⟩⟩⟩
      kernel_rfl)
    (fun n => obl_of (by kernel_rfl) (by kernel_rfl) (ls (lz) (by kernel_rfl) (code_Link_2_l9_k0 n)) (cn (cn (cn (cn (cn (cn (cn (cn (cn (cn (cn (cn (cn (cn (cn (cn (cn (cn (cn (cn (cn (cn (cz) (by kernel_rfl)) (by kernel_rfl)) (by kernel_rfl)) (by kernel_rfl)) (by kernel_rfl)) (by kernel_rfl)) (by kernel_rfl)) (by kernel_rfl)) (by kernel_rfl)) (by kernel_rfl)) (by kernel_rfl)) (by kernel_rfl)) (by kernel_rfl)) (by kernel_rfl)) (by kernel_rfl)) (by kernel_rfl)) (by kernel_rfl)) (by kernel_rfl)) (by kernel_rfl)) (by kernel_rfl)) (by kernel_rfl)) (by kernel_rfl)) (hn fun _ => rfl))
    (fun n ih => asc_cons (lay_Of_ok ok n) <| asc_cons (lay_Uses_ok ok n) <| asc_cons (code_put_ok ok n) <| asc_cons (code_text_ok ok n) <| asc_cons (slices_IndexFunc_api_Object_api_Object_ok ok n) <| asc_cons (code_Bytes_ok ok n) <| asc_nil)
/-! ### pendulum/pendulumworld.Number -/
abbrev world_Number_ins : Sh := ⟨[(.one (.val (.int .i64))), (.one (.val (.int .i64)))], []⟩
abbrev world_Number_outs : List Sh := [⟨[(.one (.val (.int .i64)))], []⟩]
def world_Number : Nat → world_Number_ins.T → Option (OutsT world_Number_outs)
  | 0, _ => none
  | n + 1, ((x1, x2, _), _) =>
    if x2 = 0 then
      none
    else
      if decide (Int.tmod x1 x2 < 0) then
        let v3 : Int := IntKind.i64.wrap ((Int.tmod x1 x2) + x2)
        some ((v3, ()), ())
      else
        some ((Int.tmod x1 x2, ()), ())
def world_Number_H (n : Nat) : Hints := ⟨[], fun _ => [], fun _ => none, fun _ => none, fun _ => none, fun _ => 0⟩
def world_Number_O (n : Nat) : FuncId → List FSpec := asc []
def b8 : Code := bodyOf Tryz.f8
theorem world_Number_ok {S : Nat → Addr} (ok : CfgOk P CC S) : ∀ n, SpecOk P CC S 8 ⟨world_Number_ins, world_Number_outs, world_Number n⟩ :=
  fn_all ok (O := world_Number_O) (H := world_Number_H) (fn := Tryz.f8) (body := b8) (by kernel_rfl) (by kernel_rfl) (by kernel_rfl) (by decide) (by kernel_rfl)
    (fun x => by kernel_rfl) (fun n => by
      rintro ⟨⟨x1, x2, ⟨⟩⟩, ⟨⟩⟩
      kernel_rfl)
    (fun n => obl_of (by kernel_rfl) (by kernel_rfl) (lz) (cn (cn (cn (cn (cn (cz) (by kernel_rfl)) (by kernel_rfl)) (by kernel_rfl)) (by kernel_rfl)) (by kernel_rfl)) (hn fun _ => rfl))
    (fun n ih => asc_nil)
/-! ### pendulum/wire.NewReader -/
abbrev wire_NewReader_2_ins : Sh := ⟨[(.one (.val ty19))], []⟩
abbrev wire_NewReader_2_outs : List Sh := [⟨[(.one (.ptr 0 0))], [(.obj 93 [(.val ty19), (.val (.int .i64)), (.val .err)])]⟩]
def wire_NewReader_2 : Nat → wire_NewReader_2_ins.T → Option (OutsT wire_NewReader_2_outs)
  | 0, _ => none
  | n + 1, ((x1, _), _) =>
    match slices_Clone_byte_byte n ((x1, ()), ()) with
    | some ((_, _), (l2, _)) => (
      some (((), ()), ((l2, 0, ErrV.nil, ()), ())))
    | none => none
def wire_NewReader_2_H (n : Nat) : Hints := ⟨[], fun _ => [], fun _ => none, fun _ => none, fun _ => none, fun _ => 0⟩
def wire_NewReader_2_O (n : Nat) : FuncId → List FSpec := asc [(41, ⟨slices_Clone_byte_byte_ins, slices_Clone_byte_byte_outs, slices_Clone_byte_byte n⟩)]
theorem wire_NewReader_2_ok {S : Nat → Addr} (ok : CfgOk P CC S) : ∀ n, SpecOk P CC S 22 ⟨wire_NewReader_2_ins, wire_NewReader_2_outs, wire_NewReader_2 n⟩ :=
  fn_all ok (O := wire_NewReader_2_O) (H := wire_NewReader_2_H) (fn := Tryz.f22) (body := b22) (by kernel_rfl) (by kernel_rfl) (by kernel_rfl) (by decide) (by kernel_rfl)
    (fun x => by kernel_rfl) (fun n => by
      rintro ⟨⟨x1, ⟨⟩⟩, ⟨⟩⟩
      kernel_rfl)
    (fun n => obl_of (by kernel_rfl) (by kernel_rfl) (lz) (cn (cn (cz) (by kernel_rfl)) (by kernel_rfl)) (hn fun _ => rfl))
    (fun n ih => asc_cons (slices_Clone_byte_byte_ok ok n) <| asc_nil)
/-! ### pendulum/code.Load -/
abbrev code_Load_2_ins : Sh := ⟨[(.one (.val ty19))], []⟩
abbrev code_Load_2_outs : List Sh := [⟨[(.tup [(false, [(.val .str)]), (false, [(.val ty18)]), (false, [(.val .err)])])], []⟩]
abbrev code_Load_2_l6_h : Sh := ⟨[(.one (.ptr 0 0)), (.one (.val .str)), (.one (.arr 1)), (.one (.val (.int .i64))), (.one (.val (.int .i64)))], [(.obj 93 [(.val ty19), (.val (.int .i64)), (.val .err)]), (.arr 37 ty0)]⟩
abbrev code_Load_2_l6_o : List Out := [⟨(.exit 0), [5, 6, 7, 8], ⟨[(.one (.ptr 0 0)), (.one (.val .str)), (.one (.arr 1)), (.one (.val (.int .i64)))], [(.obj 93 [(.val ty19), (.val (.int .i64)), (.val .err)]), (.arr 37 ty0)]⟩⟩]
def code_Load_2_l6 (n : Nat) : Nat → code_Load_2_l6_h.T → Option (OutT code_Load_2_l6_o)
  | 0, _ => none
  | k + 1, ((_, x1, _, x2, x3, _), ((x4, x5, x6, _), l7, _)) =>
    if decide (x3 > 0) then
      match wire_Reader_Err n (((), ()), ((x4, x5, x6, ()), ())) with
      | some ((x8, _), ((x9, x10, x11, _), _)) => (
        if errNil x8 then
          match wire_Reader_At n (((), ()), ((x9, x10, x11, ()), ())) with
          | some ((x12, _), ((x13, x14, x15, _), _)) => (
            match code_object n (((), ()), ((x13, x14, x15, ()), ())) with
            | some (((x16, _, _, x17, _, _, _, _), _), ((x18, x19, x20, _), l21, l22, l23, l24, l25, _)) => (
              match wire_Reader_Err n (((), ()), ((x18, x19, x20, ()), ())) with
              | some ((x26, _), ((x27, x28, x29, _), _)) => (
                if errNil x26 then
                  if decide (x2 < 0) then
                    if decide ((l7.length : Int) > 0) then
                      let v30 : Int := IntKind.i64.wrap ((l7.length : Int) - 1)
                      if 0 ≤ v30 ∧ v30 < (l7.length : Int) then (
                        if strLt x16 ((rdT ty0 l7 v30).1) || strEq x16 ((rdT ty0 l7 v30).1) then
                          if (l7.length + ([(x16, (l21, (l22, (x17, (l23, (l24, l25))))))] : List ty0.T).length) * 144 ≤ 140737488355328 then (
                            let v31 : Int := IntKind.i64.wrap (x3 - 1)
                            code_Load_2_l6 n k (((), x1, (), x12, v31, ()), ((x27, x28, x29, ()), l7 ++ [(x16, (l21, (l22, (x17, (l23, (l24, l25))))))], ()))) else none
                        else
                          if (l7.length + ([(x16, (l21, (l22, (x17, (l23, (l24, l25))))))] : List ty0.T).length) * 144 ≤ 140737488355328 then (
                            let v32 : Int := IntKind.i64.wrap (x3 - 1)
                            code_Load_2_l6 n k (((), x1, (), x2, v32, ()), ((x27, x28, x29, ()), l7 ++ [(x16, (l21, (l22, (x17, (l23, (l24, l25))))))], ()))) else none) else none
                    else
                      if (l7.length + ([(x16, (l21, (l22, (x17, (l23, (l24, l25))))))] : List ty0.T).length) * 144 ≤ 140737488355328 then (
                        let v33 : Int := IntKind.i64.wrap (x3 - 1)
                        code_Load_2_l6 n k (((), x1, (), x2, v33, ()), ((x27, x28, x29, ()), l7 ++ [(x16, (l21, (l22, (x17, (l23, (l24, l25))))))], ()))) else none
                  else
                    if (l7.length + ([(x16, (l21, (l22, (x17, (l23, (l24, l25))))))] : List ty0.T).length) * 144 ≤ 140737488355328 then (
                      let v34 : Int := IntKind.i64.wrap (x3 - 1)
                      code_Load_2_l6 n k (((), x1, (), x2, v34, ()), ((x27, x28, x29, ()), l7 ++ [(x16, (l21, (l22, (x17, (l23, (l24, l25))))))], ()))) else none
                else
                  if (l7.length + ([(x16, (l21, (l22, (x17, (l23, (l24, l25))))))] : List ty0.T).length) * 144 ≤ 140737488355328 then (
                    let v35 : Int := IntKind.i64.wrap (x3 - 1)
                    code_Load_2_l6 n k (((), x1, (), x2, v35, ()), ((x27, x28, x29, ()), l7 ++ [(x16, (l21, (l22, (x17, (l23, (l24, l25))))))], ()))) else none)
              | none => none)
            | none => none)
          | none => none
        else
          some (.inl (((), x1, (), x2, ()), ((x9, x10, x11, ()), l7, ()))))
      | none => none
    else
      some (.inl (((), x1, (), x2, ()), ((x4, x5, x6, ()), l7, ())))
def code_Load_2 : Nat → code_Load_2_ins.T → Option (OutsT code_Load_2_outs)
  | 0, _ => none
  | n + 1, ((x1, _), _) =>
    match wire_NewReader_2 n ((x1, ()), ()) with
    | some ((_, _), ((x2, x3, x4, _), _)) => (
      match wire_Reader_Text n (((), 200, ()), ((x2, x3, x4, ()), ())) with
      | some ((x5, _), ((x6, x7, x8, _), _)) => (
        match wire_Reader_Num n (((), 0, 512, ()), ((x6, x7, x8, ()), ())) with
        | some ((x9, _), ((x10, x11, x12, _), _)) => (
          match code_Load_2_l6 n n (((), x5, (), (-1), x9, ()), ((x10, x11, x12, ()), [], ())) with
          | some (.inl ((_, x13, _, x14, _), ((x15, x16, x17, _), l18, _))) => (
            match wire_Reader_Err n (((), ()), ((x15, x16, x17, ()), ())) with
            | some ((x19, _), ((x20, x21, x22, _), _)) => (
              if !(errNil x19) then
                match wire_Reader_Err n (((), ()), ((x20, x21, x22, ()), ())) with
                | some ((x23, _), ((x24, x25, x26, _), _)) => (
                  some (((((⟨#[]⟩ : ByteArray), ()), ([], ()), (x23, ()), ()), ()), ()))
                | none => none
              else
                match wire_Reader_Left n (((), ()), ((x20, x21, x22, ()), ())) with
                | some ((x27, _), ((x28, x29, x30, _), _)) => (
                  if decide (x27 > 0) then
                    match wire_Reader_At n (((), ()), ((x28, x29, x30, ()), ())) with
                    | some ((x31, _), ((x32, x33, x34, _), _)) => (
                      some (((((⟨#[]⟩ : ByteArray), ()), ([], ()), (ErrV.at_ x31 (ErrV.sent 102), ()), ()), ()), ()))
                    | none => none
                  else
                    if decide (x14 ≥ 0) then
                      some (((((⟨#[]⟩ : ByteArray), ()), ([], ()), (ErrV.at_ x14 (ErrV.sent 102), ()), ()), ()), ())
                    else
                      match lay_Of n ((x13, l18, ()), ()) with
                      | some ((((_, _), (x35, _), _), _), (l36, _)) => (
                        if !(errNil x35) then
                          some (((((⟨#[]⟩ : ByteArray), ()), ([], ()), (x35, ()), ()), ()), ())
                        else
                          match lay_Uses n ((x13, l18, ()), ()) with
                          | some ((((_, _), (x37, _), _), _), (l38, _)) => (
                            if !(errNil x37) then
                              some (((((⟨#[]⟩ : ByteArray), ()), ([], ()), (ErrV.sent 102, ()), ()), ()), ())
                            else
                              if (l38.length : Int) != (l18.length : Int) then
                                some (((((⟨#[]⟩ : ByteArray), ()), ([], ()), (ErrV.sent 102, ()), ()), ()), ())
                              else
                                some ((((x13, ()), (l18, ()), (ErrV.nil, ()), ()), ()), ()))
                          | none => none)
                      | none => none)
                | none => none)
            | none => none)
          | some (.inr (_)) => none
          | none => none)
        | none => none)
      | none => none)
    | none => none
def code_Load_2_H (n : Nat) : Hints := ⟨[], fun _ => [], fun k => match k with | 6 => some ⟨[5, 6, 7, 8, 9], code_Load_2_l6_h, code_Load_2_l6_o, code_Load_2_l6 n⟩ | _ => none, fun _ => none, fun _ => none, fun _ => 0⟩
def code_Load_2_O (n : Nat) : FuncId → List FSpec := asc [(15, ⟨lay_Of_ins, lay_Of_outs, lay_Of n⟩), (16, ⟨lay_Uses_ins, lay_Uses_outs, lay_Uses n⟩), (22, ⟨wire_NewReader_2_ins, wire_NewReader_2_outs, wire_NewReader_2 n⟩), (23, ⟨wire_Reader_Text_ins, wire_Reader_Text_outs, wire_Reader_Text n⟩), (24, ⟨wire_Reader_Num_ins, wire_Reader_Num_outs, wire_Reader_Num n⟩), (25, ⟨wire_Reader_Err_ins, wire_Reader_Err_outs, wire_Reader_Err n⟩), (26, ⟨wire_Reader_At_ins, wire_Reader_At_outs, wire_Reader_At n⟩), (27, ⟨code_object_ins, code_object_outs, code_object n⟩), (28, ⟨wire_Reader_Left_ins, wire_Reader_Left_outs, wire_Reader_Left n⟩)]
theorem code_Load_2_l6_k0 (n : Nat) : LoopOk P CC (code_Load_2_O n) n 0 115 (code_Load_2_H n) ⟨[5, 6, 7, 8, 9], code_Load_2_l6_h, code_Load_2_l6_o, code_Load_2_l6 n⟩ ((loopsOf b7).getD 0 .skip) := by
  refine ⟨fun _ => by kernel_rfl, ?_⟩
  rintro k ⟨⟨⟨⟩, x1, ⟨⟩, x2, x3, ⟨⟩⟩, ⟨⟨x4, x5, x6, ⟨⟩⟩, x7, ⟨⟩⟩⟩
  kernel_rfl
theorem code_Load_2_ok {S : Nat → Addr} (ok : CfgOk P CC S) : ∀ n, SpecOk P CC S 7 ⟨code_Load_2_ins, code_Load_2_outs, code_Load_2 n⟩ :=
  fn_all ok (O := code_Load_2_O) (H := code_Load_2_H) (fn := Tryz.f7) (body := b7) (by kernel_rfl) (by kernel_rfl) (by kernel_rfl) (by decide) (by kernel_rfl)
    (fun x => by kernel_rfl) (fun n => by
      rintro ⟨⟨x1, ⟨⟩⟩, ⟨⟩⟩
      kernel_rfl)
    (fun n => obl_of (by kernel_rfl) (by kernel_rfl) (ls (lz) (by kernel_rfl) (code_Load_2_l6_k0 n)) (cn (cn (cn (cn (cn (cn (cn (cn (cn (cn (cn (cn (cn (cn (cn (cn (cn (cn (cn (cn (cn (cn (cn (cn (cn (cn (cn (cn (cn (cn (cz) (by kernel_rfl)) (by kernel_rfl)) (by kernel_rfl)) (by kernel_rfl)) (by kernel_rfl)) (by kernel_rfl)) (by kernel_rfl)) (by kernel_rfl)) (by kernel_rfl)) (by kernel_rfl)) (by kernel_rfl)) (by kernel_rfl)) (by kernel_rfl)) (by kernel_rfl)) (by kernel_rfl)) (by kernel_rfl)) (by kernel_rfl)) (by kernel_rfl)) (by kernel_rfl)) (by kernel_rfl)) (by kernel_rfl)) (by kernel_rfl)) (by kernel_rfl)) (by kernel_rfl)) (by kernel_rfl)) (by kernel_rfl)) (by kernel_rfl)) (by kernel_rfl)) (by kernel_rfl)) (by kernel_rfl)) (hn fun _ => rfl))
    (fun n ih => asc_cons (lay_Of_ok ok n) <| asc_cons (lay_Uses_ok ok n) <| asc_cons (wire_NewReader_2_ok ok n) <| asc_cons (wire_Reader_Text_ok ok n) <| asc_cons (wire_Reader_Num_ok ok n) <| asc_cons (wire_Reader_Err_ok ok n) <| asc_cons (wire_Reader_At_ok ok n) <| asc_cons (code_object_ok ok n) <| asc_cons (wire_Reader_Left_ok ok n) <| asc_nil)
/-! ### pendulum/pendulumref.Bytes -/
abbrev ref_Bytes_ins : Sh := ⟨[(.one (.val ty19))], []⟩
abbrev ref_Bytes_outs : List Sh := [⟨[(.one (.arr 0))], [(.arr 5 (.int .u8))]⟩]
abbrev ref_Bytes_l3_h : Sh := ⟨[(.one (.val ty19)), (.one (.arr 0)), (.one (.val (.int .i64)))], [(.arr 5 (.int .u8))]⟩
abbrev ref_Bytes_l3_o : List Out := [⟨(.exit 0), [3], ⟨[(.one (.arr 0))], [(.arr 5 (.int .u8))]⟩⟩]
def ref_Bytes_l3 (n : Nat) : Nat → ref_Bytes_l3_h.T → Option (OutT ref_Bytes_l3_o)
  | 0, _ => none
  | k + 1, ((x1, _, x2, _), (l3, _)) =>
    if decide (x2 < (x1.length : Int)) then
      if 0 ≤ x2 ∧ x2 < (x1.length : Int) then (
        let v4 : Int := rdT ((.int .u8) : Ty) x1 x2
        if (l3.length + ([v4] : List ((.int .u8) : Ty).T).length) * 1 ≤ 140737488355328 then (
          let v5 : Int := IntKind.i64.wrap (x2 + 1)
          ref_Bytes_l3 n k ((x1, (), v5, ()), (l3 ++ [v4], ()))) else none) else none
    else
      some (.inl (((), ()), (l3, ())))
def ref_Bytes : Nat → ref_Bytes_ins.T → Option (OutsT ref_Bytes_outs)
  | 0, _ => none
  | n + 1, ((x1, _), _) =>
    if 0 ≤ (0 : Int) ∧ (0 : Int) ≤ (x1.length : Int) ∧ (x1.length : Int) * ((1 : Nat) : Int) ≤ 140737488355328 ∧ (x1.length : Int) ≤ 140737488355328 then (
      match ref_Bytes_l3 n n ((x1, (), 0, ()), (List.replicate (0 : Int).toNat 0, ())) with
      | some (.inl ((_, _), (l2, _))) => (
        some (((), ()), (l2, ())))
      | some (.inr (_)) => none
      | none => none) else none
def ref_Bytes_H (n : Nat) : Hints := ⟨[], fun _ => [], fun k => match k with | 3 => some ⟨[0, 3, 4], ref_Bytes_l3_h, ref_Bytes_l3_o, ref_Bytes_l3 n⟩ | _ => none, fun _ => none, fun _ => none, fun _ => 0⟩
def ref_Bytes_O (n : Nat) : FuncId → List FSpec := asc []
def b9 : Code := bodyOf Tryz.f9
theorem ref_Bytes_l3_k0 (n : Nat) : LoopOk P CC (ref_Bytes_O n) n 0 22 (ref_Bytes_H n) ⟨[0, 3, 4], ref_Bytes_l3_h, ref_Bytes_l3_o, ref_Bytes_l3 n⟩ ((loopsOf b9).getD 0 .skip) := by
  refine ⟨fun _ => by kernel_rfl, ?_⟩
  rintro k ⟨⟨x1, ⟨⟩, x2, ⟨⟩⟩, ⟨x3, ⟨⟩⟩⟩
  kernel_rfl
theorem ref_Bytes_ok {S : Nat → Addr} (ok : CfgOk P CC S) : ∀ n, SpecOk P CC S 9 ⟨ref_Bytes_ins, ref_Bytes_outs, ref_Bytes n⟩ :=
  fn_all ok (O := ref_Bytes_O) (H := ref_Bytes_H) (fn := Tryz.f9) (body := b9) (by kernel_rfl) (by kernel_rfl) (by kernel_rfl) (by decide) (by kernel_rfl)
    (fun x => by kernel_rfl) (fun n => by
      rintro ⟨⟨x1, ⟨⟩⟩, ⟨⟩⟩
      kernel_rfl)
    (fun n => obl_of (by kernel_rfl) (by kernel_rfl) (ls (lz) (by kernel_rfl) (ref_Bytes_l3_k0 n)) (cn (cn (cn (cn (cn (cn (cn (cn (cz) (by kernel_rfl)) (by kernel_rfl)) (by kernel_rfl)) (by kernel_rfl)) (by kernel_rfl)) (by kernel_rfl)) (by kernel_rfl)) (by kernel_rfl)) (hn fun _ => rfl))
    (fun n ih => asc_nil)
/-! ### pendulum/pendulumref.SameBytes -/
abbrev ref_SameBytes_ins : Sh := ⟨[(.one (.val ty19)), (.one (.val ty19))], []⟩
abbrev ref_SameBytes_outs : List Sh := [⟨[(.one (.val .bool))], []⟩]
abbrev ref_SameBytes_l4_h : Sh := ⟨[(.one (.val ty19)), (.one (.val ty19)), (.one (.val (.int .i64)))], []⟩
abbrev ref_SameBytes_l4_o : List Out := [⟨(.exit 0), [], ⟨[], []⟩⟩, ⟨.ret, [4], ⟨[(.one (.val .bool))], []⟩⟩]
def ref_SameBytes_l4 (n : Nat) : Nat → ref_SameBytes_l4_h.T → Option (OutT ref_SameBytes_l4_o)
  | 0, _ => none
  | k + 1, ((x1, x2, x3, _), _) =>
    if decide (x3 < (x1.length : Int)) then
      if 0 ≤ x3 ∧ x3 < (x1.length : Int) then (
        let v4 : Int := rdT ((.int .u8) : Ty) x1 x3
        if 0 ≤ x3 ∧ x3 < (x2.length : Int) then (
          let v5 : Int := rdT ((.int .u8) : Ty) x2 x3
          if !(v4 == v5) then
            some (.inr (.inl ((false, ()), ())))
          else
            let v6 : Int := IntKind.i64.wrap (x3 + 1)
            ref_SameBytes_l4 n k ((x1, x2, v6, ()), ())) else none) else none
    else
      some (.inl ((), ()))
def ref_SameBytes : Nat → ref_SameBytes_ins.T → Option (OutsT ref_SameBytes_outs)
  | 0, _ => none
  | n + 1, ((x1, x2, _), _) =>
    if (x1.length : Int) != (x2.length : Int) then
      some ((false, ()), ())
    else
      match ref_SameBytes_l4 n n ((x1, x2, 0, ()), ()) with
      | some (.inl (_, _)) => (
        some ((true, ()), ()))
      | some (.inr (.inl ((x3, _), _))) => (
        some ((x3, ()), ()))
      | some (.inr (.inr (_))) => none
      | none => none
def ref_SameBytes_H (n : Nat) : Hints := ⟨[], fun _ => [], fun k => match k with | 4 => some ⟨[0, 1, 5], ref_SameBytes_l4_h, ref_SameBytes_l4_o, ref_SameBytes_l4 n⟩ | _ => none, fun _ => none, fun _ => none, fun _ => 0⟩
def ref_SameBytes_O (n : Nat) : FuncId → List FSpec := asc []
def b10 : Code := bodyOf Tryz.f10
theorem ref_SameBytes_l4_k0 (n : Nat) : LoopOk P CC (ref_SameBytes_O n) n 0 29 (ref_SameBytes_H n) ⟨[0, 1, 5], ref_SameBytes_l4_h, ref_SameBytes_l4_o, ref_SameBytes_l4 n⟩ ((loopsOf b10).getD 0 .skip) := by
  refine ⟨fun _ => by kernel_rfl, ?_⟩
  rintro k ⟨⟨x1, x2, x3, ⟨⟩⟩, ⟨⟩⟩
  kernel_rfl
theorem ref_SameBytes_ok {S : Nat → Addr} (ok : CfgOk P CC S) : ∀ n, SpecOk P CC S 10 ⟨ref_SameBytes_ins, ref_SameBytes_outs, ref_SameBytes n⟩ :=
  fn_all ok (O := ref_SameBytes_O) (H := ref_SameBytes_H) (fn := Tryz.f10) (body := b10) (by kernel_rfl) (by kernel_rfl) (by kernel_rfl) (by decide) (by kernel_rfl)
    (fun x => by kernel_rfl) (fun n => by
      rintro ⟨⟨x1, x2, ⟨⟩⟩, ⟨⟩⟩
      kernel_rfl)
    (fun n => obl_of (by kernel_rfl) (by kernel_rfl) (ls (lz) (by kernel_rfl) (ref_SameBytes_l4_k0 n)) (cn (cn (cn (cn (cn (cn (cn (cn (cn (cn (cn (cn (cn (cz) (by kernel_rfl)) (by kernel_rfl)) (by kernel_rfl)) (by kernel_rfl)) (by kernel_rfl)) (by kernel_rfl)) (by kernel_rfl)) (by kernel_rfl)) (by kernel_rfl)) (by kernel_rfl)) (by kernel_rfl)) (by kernel_rfl)) (by kernel_rfl)) (hn fun _ => rfl))
    (fun n ih => asc_nil)
/-! ### pendulum/pendulumref.None -/
abbrev ref_None_ins : Sh := ⟨[], []⟩
abbrev ref_None_outs : List Sh := [⟨[(.agg [(.val (.int .i64)), (.val .bool), (.val .bool), (.val (.int .i64)), (.val (.int .i64))])], []⟩]
def ref_None : Nat → ref_None_ins.T → Option (OutsT ref_None_outs)
  | 0, _ => none
  | n + 1, (_, _) =>
    some (((0, false, false, 0, 0, ()), ()), ())
def ref_None_H (n : Nat) : Hints := ⟨[], fun _ => [], fun _ => none, fun _ => none, fun _ => none, fun _ => 0⟩
def ref_None_O (n : Nat) : FuncId → List FSpec := asc []
def b31 : Code := bodyOf Tryz.f31
theorem ref_None_ok {S : Nat → Addr} (ok : CfgOk P CC S) : ∀ n, SpecOk P CC S 31 ⟨ref_None_ins, ref_None_outs, ref_None n⟩ :=
  fn_all ok (O := ref_None_O) (H := ref_None_H) (fn := Tryz.f31) (body := b31) (by kernel_rfl) (by kernel_rfl) (by kernel_rfl) (by decide) (by kernel_rfl)
    (fun x => by kernel_rfl) (fun n => by
      rintro ⟨⟨⟩, ⟨⟩⟩
      kernel_rfl)
    (fun n => obl_of (by kernel_rfl) (by kernel_rfl) (lz) (cn (cn (cz) (by kernel_rfl)) (by kernel_rfl)) (hn fun _ => rfl))
    (fun n ih => asc_nil)
/-! ### pendulum/pendulumref.Placed -/
abbrev ref_Placed_ins : Sh := ⟨[(.one (.val (.int .i64))), (.one (.val (.int .i64)))], []⟩
abbrev ref_Placed_outs : List Sh := [⟨[(.agg [(.val (.int .i64)), (.val .bool), (.val .bool), (.val (.int .i64)), (.val (.int .i64))])], []⟩]
def ref_Placed : Nat → ref_Placed_ins.T → Option (OutsT ref_Placed_outs)
  | 0, _ => none
  | n + 1, ((x1, x2, _), _) =>
    if x1 == 0 then
      match ref_None n ((), ()) with
      | some (((x3, x4, x5, x6, x7, _), _), _) => (
        some (((x3, x4, x5, x6, x7, ()), ()), ()))
      | none => none
    else
      some (((x1, true, false, x2, 0, ()), ()), ())
def ref_Placed_H (n : Nat) : Hints := ⟨[], fun _ => [], fun _ => none, fun _ => none, fun _ => none, fun _ => 0⟩
def ref_Placed_O (n : Nat) : FuncId → List FSpec := asc [(31, ⟨ref_None_ins, ref_None_outs, ref_None n⟩)]
def b12 : Code := bodyOf Tryz.f12
theorem ref_Placed_ok {S : Nat → Addr} (ok : CfgOk P CC S) : ∀ n, SpecOk P CC S 12 ⟨ref_Placed_ins, ref_Placed_outs, ref_Placed n⟩ :=
  fn_all ok (O := ref_Placed_O) (H := ref_Placed_H) (fn := Tryz.f12) (body := b12) (by kernel_rfl) (by kernel_rfl) (by kernel_rfl) (by decide) (by kernel_rfl)
    (fun x => by kernel_rfl) (fun n => by
      rintro ⟨⟨x1, x2, ⟨⟩⟩, ⟨⟩⟩
      kernel_rfl)
    (fun n => obl_of (by kernel_rfl) (by kernel_rfl) (lz) (cn (cn (cn (cn (cn (cz) (by kernel_rfl)) (by kernel_rfl)) (by kernel_rfl)) (by kernel_rfl)) (by kernel_rfl)) (hn fun _ => rfl))
    (fun n ih => asc_cons (ref_None_ok ok n) <| asc_nil)
/-! ### pendulum/pendulumsee.sentinels -/
abbrev pendulumsee_sentinels_ins : Sh := ⟨[], []⟩
abbrev pendulumsee_sentinels_outs : List Sh := [⟨[(.one (.arr 0))], [(.arr 27 .err)]⟩]
def pendulumsee_sentinels : Nat → pendulumsee_sentinels_ins.T → Option (OutsT pendulumsee_sentinels_outs)
  | 0, _ => none
  | n + 1, (_, _) =>
    some (((), ()), ([ErrV.sent 101, ErrV.sent 102, ErrV.sent 103, ErrV.sent 104, ErrV.sent 105, ErrV.sent 106, ErrV.sent 107, ErrV.sent 108, ErrV.sent 109, ErrV.sent 110, ErrV.sent 111, ErrV.sent 112, ErrV.sent 113, ErrV.sent 114, ErrV.sent 115, ErrV.sent 116, ErrV.sent 117, ErrV.sent 118, ErrV.sent 119, ErrV.sent 120, ErrV.sent 121], ()))
def pendulumsee_sentinels_H (n : Nat) : Hints := ⟨[], fun _ => [], fun _ => none, fun _ => none, fun _ => none, fun _ => 0⟩
def pendulumsee_sentinels_O (n : Nat) : FuncId → List FSpec := asc []
def b65 : Code := bodyOf Tryz.f65
theorem pendulumsee_sentinels_ok {S : Nat → Addr} (ok : CfgOk P CC S) : ∀ n, SpecOk P CC S 65 ⟨pendulumsee_sentinels_ins, pendulumsee_sentinels_outs, pendulumsee_sentinels n⟩ :=
  fn_all ok (O := pendulumsee_sentinels_O) (H := pendulumsee_sentinels_H) (fn := Tryz.f65) (body := b65) (by kernel_rfl) (by kernel_rfl) (by kernel_rfl) (by decide) (by kernel_rfl)
    (fun x => by kernel_rfl) (fun n => by
      rintro ⟨⟨⟩, ⟨⟩⟩
      kernel_rfl)
    (fun n => obl_of (by kernel_rfl) (by kernel_rfl) (lz) (cn (cn (cz) (by kernel_rfl)) (by kernel_rfl)) (hn fun _ => rfl))
    (fun n ih => asc_nil)
/-! ### pendulum/pendulumsee.Alike -/
abbrev pendulumsee_Alike_ins : Sh := ⟨[(.one (.val .err)), (.one (.val .err))], []⟩
abbrev pendulumsee_Alike_outs : List Sh := [⟨[(.one (.val .bool))], []⟩]
def pendulumsee_Alike : Nat → pendulumsee_Alike_ins.T → Option (OutsT pendulumsee_Alike_outs)
  | 0, _ => none
  | n + 1, ((x1, x2, _), _) =>
    if errNil x1 then
      if errNil x1 then
        some ((errNil x2, ()), ())
      else
        some ((false, ()), ())
    else
      if errNil x2 then
        if errNil x1 then
          some ((errNil x2, ()), ())
        else
          some ((false, ()), ())
      else
        match errEq x1 x2 with
        | some b3 => (
          some ((b3, ()), ()))
        | none => none
def pendulumsee_Alike_H (n : Nat) : Hints := ⟨[], fun _ => [], fun _ => none, fun _ => none, fun _ => none, fun _ => 0⟩
def pendulumsee_Alike_O (n : Nat) : FuncId → List FSpec := asc []
def b66 : Code := bodyOf Tryz.f66
theorem pendulumsee_Alike_ok {S : Nat → Addr} (ok : CfgOk P CC S) : ∀ n, SpecOk P CC S 66 ⟨pendulumsee_Alike_ins, pendulumsee_Alike_outs, pendulumsee_Alike n⟩ :=
  fn_all ok (O := pendulumsee_Alike_O) (H := pendulumsee_Alike_H) (fn := Tryz.f66) (body := b66) (by kernel_rfl) (by kernel_rfl) (by kernel_rfl) (by decide) (by kernel_rfl)
    (fun x => by kernel_rfl) (fun n => by
      rintro ⟨⟨x1, x2, ⟨⟩⟩, ⟨⟩⟩
      kernel_rfl)
    (fun n => obl_of (by kernel_rfl) (by kernel_rfl) (lz) (cn (cn (cn (cn (cn (cz) (by kernel_rfl)) (by kernel_rfl)) (by kernel_rfl)) (by kernel_rfl)) (by kernel_rfl)) (hn fun _ => rfl))
    (fun n ih => asc_nil)
/-! ### pendulum/pendulumsee.sentinel -/
abbrev pendulumsee_sentinel_ins : Sh := ⟨[(.one (.val .err))], []⟩
abbrev pendulumsee_sentinel_outs : List Sh := [⟨[(.one (.val (.int .i64)))], []⟩]
abbrev pendulumsee_sentinel_l3_h : Sh := ⟨[(.one (.val .err)), (.one (.arr 0)), (.one (.val (.int .i64)))], [(.arr 27 .err)]⟩
abbrev pendulumsee_sentinel_l3_o : List Out := [⟨(.exit 0), [], ⟨[], []⟩⟩, ⟨.ret, [2], ⟨[(.one (.val (.int .i64)))], []⟩⟩]
def pendulumsee_sentinel_l3 (n : Nat) : Nat → pendulumsee_sentinel_l3_h.T → Option (OutT pendulumsee_sentinel_l3_o)
  | 0, _ => none
  | k + 1, ((x1, _, x2, _), (l3, _)) =>
    if decide (x2 < (l3.length : Int)) then
      if 0 ≤ x2 ∧ x2 < (l3.length : Int) then (
        match pendulumsee_Alike n ((x1, rdT (.err : Ty) l3 x2, ()), ()) with
        | some ((x4, _), _) => (
          if x4 then
            let v5 : Int := IntKind.i64.wrap (101 + x2)
            some (.inr (.inl ((v5, ()), ())))
          else
            let v6 : Int := IntKind.i64.wrap (x2 + 1)
            pendulumsee_sentinel_l3 n k ((x1, (), v6, ()), (l3, ())))
        | none => none) else none
    else
      some (.inl ((), ()))
def pendulumsee_sentinel : Nat → pendulumsee_sentinel_ins.T → Option (OutsT pendulumsee_sentinel_outs)
  | 0, _ => none
  | n + 1, ((x1, _), _) =>
    match pendulumsee_sentinels n ((), ()) with
    | some ((_, _), (l2, _)) => (
      match pendulumsee_sentinel_l3 n n ((x1, (), 0, ()), (l2, ())) with
      | some (.inl (_, _)) => (
        some (((-1), ()), ()))
      | some (.inr (.inl ((x3, _), _))) => (
        some ((x3, ()), ()))
      | some (.inr (.inr (_))) => none
      | none => none)
    | none => none
def pendulumsee_sentinel_H (n : Nat) : Hints := ⟨[], fun _ => [], fun k => match k with | 3 => some ⟨[0, 3, 4], pendulumsee_sentinel_l3_h, pendulumsee_sentinel_l3_o, pendulumsee_sentinel_l3 n⟩ | _ => none, fun _ => none, fun _ => none, fun _ => 0⟩
def pendulumsee_sentinel_O (n : Nat) : FuncId → List FSpec := asc [(65, ⟨pendulumsee_sentinels_ins, pendulumsee_sentinels_outs, pendulumsee_sentinels n⟩), (66, ⟨pendulumsee_Alike_ins, pendulumsee_Alike_outs, pendulumsee_Alike n⟩)]
def b47 : Code := bodyOf Tryz.f47
theorem pendulumsee_sentinel_l3_k0 (n : Nat) : LoopOk P CC (pendulumsee_sentinel_O n) n 0 20 (pendulumsee_sentinel_H n) ⟨[0, 3, 4], pendulumsee_sentinel_l3_h, pendulumsee_sentinel_l3_o, pendulumsee_sentinel_l3 n⟩ ((loopsOf b47).getD 0 .skip) := by
  refine ⟨fun _ => by kernel_rfl, ?_⟩
  rintro k ⟨⟨x1, ⟨⟩, x2, ⟨⟩⟩, ⟨x3, ⟨⟩⟩⟩
  kernel_rfl
theorem pendulumsee_sentinel_ok {S : Nat → Addr} (ok : CfgOk P CC S) : ∀ n, SpecOk P CC S 47 ⟨pendulumsee_sentinel_ins, pendulumsee_sentinel_outs, pendulumsee_sentinel n⟩ :=
  fn_all ok (O := pendulumsee_sentinel_O) (H := pendulumsee_sentinel_H) (fn := Tryz.f47) (body := b47) (by kernel_rfl) (by kernel_rfl) (by kernel_rfl) (by decide) (by kernel_rfl)
    (fun x => by kernel_rfl) (fun n => by
      rintro ⟨⟨x1, ⟨⟩⟩, ⟨⟩⟩
      kernel_rfl)
    (fun n => obl_of (by kernel_rfl) (by kernel_rfl) (ls (lz) (by kernel_rfl) (pendulumsee_sentinel_l3_k0 n)) (cn (cn (cn (cn (cn (cn (cn (cn (cn (cn (cz) (by kernel_rfl)) (by kernel_rfl)) (by kernel_rfl)) (by kernel_rfl)) (by kernel_rfl)) (by kernel_rfl)) (by kernel_rfl)) (by kernel_rfl)) (by kernel_rfl)) (by kernel_rfl)) (hn fun _ => rfl))
    (fun n ih => asc_cons (pendulumsee_sentinels_ok ok n) <| asc_cons (pendulumsee_Alike_ok ok n) <| asc_nil)
/-! ### pendulum/pendulumref.Bare -/
abbrev ref_Bare_ins : Sh := ⟨[(.one (.val (.int .i64)))], []⟩
abbrev ref_Bare_outs : List Sh := [⟨[(.agg [(.val (.int .i64)), (.val .bool), (.val .bool), (.val (.int .i64)), (.val (.int .i64))])], []⟩]
def ref_Bare : Nat → ref_Bare_ins.T → Option (OutsT ref_Bare_outs)
  | 0, _ => none
  | n + 1, ((x1, _), _) =>
    some (((x1, false, false, 0, 0, ()), ()), ())
def ref_Bare_H (n : Nat) : Hints := ⟨[], fun _ => [], fun _ => none, fun _ => none, fun _ => none, fun _ => 0⟩
def ref_Bare_O (n : Nat) : FuncId → List FSpec := asc []
def b46 : Code := bodyOf Tryz.f46
theorem ref_Bare_ok {S : Nat → Addr} (ok : CfgOk P CC S) : ∀ n, SpecOk P CC S 46 ⟨ref_Bare_ins, ref_Bare_outs, ref_Bare n⟩ :=
  fn_all ok (O := ref_Bare_O) (H := ref_Bare_H) (fn := Tryz.f46) (body := b46) (by kernel_rfl) (by kernel_rfl) (by kernel_rfl) (by decide) (by kernel_rfl)
    (fun x => by kernel_rfl) (fun n => by
      rintro ⟨⟨x1, ⟨⟩⟩, ⟨⟩⟩
      kernel_rfl)
    (fun n => obl_of (by kernel_rfl) (by kernel_rfl) (lz) (cn (cn (cz) (by kernel_rfl)) (by kernel_rfl)) (hn fun _ => rfl))
    (fun n ih => asc_nil)
/-! ### pendulum/pendulumref.Around -/
abbrev ref_Around_ins : Sh := ⟨[(.agg [(.val (.int .i64)), (.val .bool), (.val .bool), (.val (.int .i64)), (.val (.int .i64))]), (.one (.val (.int .i64)))], []⟩
abbrev ref_Around_outs : List Sh := [⟨[(.agg [(.val (.int .i64)), (.val .bool), (.val .bool), (.val (.int .i64)), (.val (.int .i64))])], []⟩]
def ref_Around : Nat → ref_Around_ins.T → Option (OutsT ref_Around_outs)
  | 0, _ => none
  | n + 1, (((x1, x2, x3, x4, x5, _), x6, _), _) =>
    if x1 == 0 then
      match ref_None n ((), ()) with
      | some (((x7, x8, x9, x10, x11, _), _), _) => (
        some (((x7, x8, x9, x10, x11, ()), ()), ()))
      | none => none
    else
      if x2 then
        some (((x1, true, true, x6, x4, ()), ()), ())
      else
        some (((x1, true, false, x6, 0, ()), ()), ())
def ref_Around_H (n : Nat) : Hints := ⟨[], fun _ => [], fun _ => none, fun _ => none, fun _ => none, fun _ => 0⟩
def ref_Around_O (n : Nat) : FuncId → List FSpec := asc [(31, ⟨ref_None_ins, ref_None_outs, ref_None n⟩)]
def b48 : Code := bodyOf Tryz.f48
theorem ref_Around_ok {S : Nat → Addr} (ok : CfgOk P CC S) : ∀ n, SpecOk P CC S 48 ⟨ref_Around_ins, ref_Around_outs, ref_Around n⟩ :=
  fn_all ok (O := ref_Around_O) (H := ref_Around_H) (fn := Tryz.f48) (body := b48) (by kernel_rfl) (by kernel_rfl) (by kernel_rfl) (by decide) (by kernel_rfl)
    (fun x => by kernel_rfl) (fun n => by
      rintro ⟨⟨⟨x1, x2, x3, x4, x5, ⟨⟩⟩, x6, ⟨⟩⟩, ⟨⟩⟩
      kernel_rfl)
    (fun n => obl_of (by kernel_rfl) (by kernel_rfl) (lz) (cn (cn (cn (cn (cn (cn (cn (cn (cz) (by kernel_rfl)) (by kernel_rfl)) (by kernel_rfl)) (by kernel_rfl)) (by kernel_rfl)) (by kernel_rfl)) (by kernel_rfl)) (by kernel_rfl)) (hn fun _ => rfl))
    (fun n ih => asc_cons (ref_None_ok ok n) <| asc_nil)
/-! ### pendulum/pendulumsee.Fault -/
abbrev pendulumsee_Fault_ins : Sh := ⟨[(.one (.val .err))], []⟩
abbrev pendulumsee_Fault_outs : List Sh := [⟨[(.agg [(.val (.int .i64)), (.val .bool), (.val .bool), (.val (.int .i64)), (.val (.int .i64))])], []⟩]
def pendulumsee_Fault : Nat → pendulumsee_Fault_ins.T → Option (OutsT pendulumsee_Fault_outs)
  | 0, _ => none
  | n + 1, ((x1, _), _) =>
    if errNil x1 then
      match ref_None n ((), ()) with
      | some (((x2, x3, x4, x5, x6, _), _), _) => (
        some (((x2, x3, x4, x5, x6, ()), ()), ()))
      | none => none
    else
      if !(errIsAt x1) then
        match pendulumsee_sentinel n ((x1, ()), ()) with
        | some ((x7, _), _) => (
          match ref_Bare n ((x7, ()), ()) with
          | some (((x8, x9, x10, x11, x12, _), _), _) => (
            some (((x8, x9, x10, x11, x12, ()), ()), ()))
          | none => none)
        | none => none
      else
        if Option.isNone (errAt x1) then
          match ref_Bare n (((-1), ()), ()) with
          | some (((x14, x15, x16, x17, x18, _), _), _) => (
            some (((x14, x15, x16, x17, x18, ()), ()), ()))
          | none => none
        else
          match errAt x1 with
          | some x13 => (
            if errNil x13.2 then
              match ref_Bare n (((-1), ()), ()) with
              | some (((x19, x20, x21, x22, x23, _), _), _) => (
                some (((x19, x20, x21, x22, x23, ()), ()), ()))
              | none => none
            else
              match errAt x1 with
              | some x24 => (
                if errIsAt x24.2 then
                  if Option.isNone (errAt x24.2) then
                    match ref_Bare n (((-1), ()), ()) with
                    | some (((x26, x27, x28, x29, x30, _), _), _) => (
                      some (((x26, x27, x28, x29, x30, ()), ()), ()))
                    | none => none
                  else
                    match errAt x24.2 with
                    | some x25 => (
                      if errNil x25.2 then
                        match ref_Bare n (((-1), ()), ()) with
                        | some (((x31, x32, x33, x34, x35, _), _), _) => (
                          some (((x31, x32, x33, x34, x35, ()), ()), ()))
                        | none => none
                      else
                        match errAt x24.2 with
                        | some x36 => (
                          match pendulumsee_sentinel n ((x36.2, ()), ()) with
                          | some ((x37, _), _) => (
                            match errAt x24.2 with
                            | some x38 => (
                              match ref_Placed n ((x37, x38.1, ()), ()) with
                              | some (((x39, x40, x41, x42, x43, _), _), _) => (
                                match errAt x1 with
                                | some x44 => (
                                  match ref_Around n (((x39, x40, x41, x42, x43, ()), x44.1, ()), ()) with
                                  | some (((x45, x46, x47, x48, x49, _), _), _) => (
                                    some (((x45, x46, x47, x48, x49, ()), ()), ()))
                                  | none => none)
                                | none => none)
                              | none => none)
                            | none => none)
                          | none => none)
                        | none => none)
                    | none => none
                else
                  match errAt x1 with
                  | some x50 => (
                    match pendulumsee_sentinel n ((x50.2, ()), ()) with
                    | some ((x51, _), _) => (
                      match errAt x1 with
                      | some x52 => (
                        match ref_Placed n ((x51, x52.1, ()), ()) with
                        | some (((x53, x54, x55, x56, x57, _), _), _) => (
                          some (((x53, x54, x55, x56, x57, ()), ()), ()))
                        | none => none)
                      | none => none)
                    | none => none)
                  | none => none)
              | none => none)
          | none => none
def pendulumsee_Fault_H (n : Nat) : Hints := ⟨[], fun _ => [], fun _ => none, fun _ => none, fun _ => none, fun _ => 0⟩
def pendulumsee_Fault_O (n : Nat) : FuncId → List FSpec := asc [(12, ⟨ref_Placed_ins, ref_Placed_outs, ref_Placed n⟩), (31, ⟨ref_None_ins, ref_None_outs, ref_None n⟩), (46, ⟨ref_Bare_ins, ref_Bare_outs, ref_Bare n⟩), (47, ⟨pendulumsee_sentinel_ins, pendulumsee_sentinel_outs, pendulumsee_sentinel n⟩), (48, ⟨ref_Around_ins, ref_Around_outs, ref_Around n⟩)]
def b30 : Code := bodyOf Tryz.f30
theorem pendulumsee_Fault_ok {S : Nat → Addr} (ok : CfgOk P CC S) : ∀ n, SpecOk P CC S 30 ⟨pendulumsee_Fault_ins, pendulumsee_Fault_outs, pendulumsee_Fault n⟩ :=
  fn_all ok (O := pendulumsee_Fault_O) (H := pendulumsee_Fault_H) (fn := Tryz.f30) (body := b30) (by kernel_rfl) (by kernel_rfl) (by kernel_rfl) (by decide) (by kernel_rfl)
    (fun x => by kernel_rfl) (fun n => by
      rintro ⟨⟨x1, ⟨⟩⟩, ⟨⟩⟩
      kernel_rfl)
    (fun n => obl_of (by kernel_rfl) (by kernel_rfl) (lz) (cn (cn (cn (cn (cn (cn (cn (cn (cn (cn (cn (cn (cn (cn (cn (cn (cn (cn (cn (cz) (by kernel_rfl)) (by kernel_rfl)) (by kernel_rfl)) (by kernel_rfl)) (by kernel_rfl)) (by kernel_rfl)) (by kernel_rfl)) (by kernel_rfl)) (by kernel_rfl)) (by kernel_rfl)) (by kernel_rfl)) (by kernel_rfl)) (by kernel_rfl)) (by kernel_rfl)) (by kernel_rfl)) (by kernel_rfl)) (by kernel_rfl)) (by kernel_rfl)) (by kernel_rfl)) (hn fun _ => rfl))
    (fun n ih => asc_cons (ref_Placed_ok ok n) <| asc_cons (ref_None_ok ok n) <| asc_cons (ref_Bare_ok ok n) <| asc_cons (pendulumsee_sentinel_ok ok n) <| asc_cons (ref_Around_ok ok n) <| asc_nil)
/-! ### pendulum/pendulumref.SameFault -/
abbrev ref_SameFault_ins : Sh := ⟨[(.agg [(.val (.int .i64)), (.val .bool), (.val .bool), (.val (.int .i64)), (.val (.int .i64))]), (.agg [(.val (.int .i64)), (.val .bool), (.val .bool), (.val (.int .i64)), (.val (.int .i64))])], []⟩
abbrev ref_SameFault_outs : List Sh := [⟨[(.one (.val .bool))], []⟩]
def ref_SameFault : Nat → ref_SameFault_ins.T → Option (OutsT ref_SameFault_outs)
  | 0, _ => none
  | n + 1, (((x1, x2, x3, x4, x5, _), (x6, x7, x8, x9, x10, _), _), _) =>
    if x1 == x6 then
      if x2 == x7 then
        if x4 == x9 then
          if x3 == x8 then
            some ((x5 == x10, ()), ())
          else
            some ((false, ()), ())
        else
          some ((false, ()), ())
      else
        some ((false, ()), ())
    else
      some ((false, ()), ())
def ref_SameFault_H (n : Nat) : Hints := ⟨[], fun _ => [], fun _ => none, fun _ => none, fun _ => none, fun _ => 0⟩
def ref_SameFault_O (n : Nat) : FuncId → List FSpec := asc []
def b29 : Code := bodyOf Tryz.f29
theorem ref_SameFault_ok {S : Nat → Addr} (ok : CfgOk P CC S) : ∀ n, SpecOk P CC S 29 ⟨ref_SameFault_ins, ref_SameFault_outs, ref_SameFault n⟩ :=
  fn_all ok (O := ref_SameFault_O) (H := ref_SameFault_H) (fn := Tryz.f29) (body := b29) (by kernel_rfl) (by kernel_rfl) (by kernel_rfl) (by decide) (by kernel_rfl)
    (fun x => by kernel_rfl) (fun n => by
      rintro ⟨⟨⟨x1, x2, x3, x4, x5, ⟨⟩⟩, ⟨x6, x7, x8, x9, x10, ⟨⟩⟩, ⟨⟩⟩, ⟨⟩⟩
      kernel_rfl)
    (fun n => obl_of (by kernel_rfl) (by kernel_rfl) (lz) (cn (cn (cz) (by kernel_rfl)) (by kernel_rfl)) (hn fun _ => rfl))
    (fun n ih => asc_nil)
/-! ### pendulum/pendulumsee.Same -/
abbrev pendulumsee_Same_ins : Sh := ⟨[(.one (.val .err)), (.agg [(.val (.int .i64)), (.val .bool), (.val .bool), (.val (.int .i64)), (.val (.int .i64))])], []⟩
abbrev pendulumsee_Same_outs : List Sh := [⟨[(.one (.val .bool))], []⟩]
def pendulumsee_Same : Nat → pendulumsee_Same_ins.T → Option (OutsT pendulumsee_Same_outs)
  | 0, _ => none
  | n + 1, ((x1, (x2, x3, x4, x5, x6, _), _), _) =>
    match pendulumsee_Fault n ((x1, ()), ()) with
    | some (((x7, x8, x9, x10, x11, _), _), _) => (
      match ref_SameFault n (((x7, x8, x9, x10, x11, ()), (x2, x3, x4, x5, x6, ()), ()), ()) with
      | some ((x12, _), _) => (
        some ((x12, ()), ()))
      | none => none)
    | none => none
def pendulumsee_Same_H (n : Nat) : Hints := ⟨[], fun _ => [], fun _ => none, fun _ => none, fun _ => none, fun _ => 0⟩
def pendulumsee_Same_O (n : Nat) : FuncId → List FSpec := asc [(29, ⟨ref_SameFault_ins, ref_SameFault_outs, ref_SameFault n⟩), (30, ⟨pendulumsee_Fault_ins, pendulumsee_Fault_outs, pendulumsee_Fault n⟩)]
def b11 : Code := bodyOf Tryz.f11
theorem pendulumsee_Same_ok {S : Nat → Addr} (ok : CfgOk P CC S) : ∀ n, SpecOk P CC S 11 ⟨pendulumsee_Same_ins, pendulumsee_Same_outs, pendulumsee_Same n⟩ :=
  fn_all ok (O := pendulumsee_Same_O) (H := pendulumsee_Same_H) (fn := Tryz.f11) (body := b11) (by kernel_rfl) (by kernel_rfl) (by kernel_rfl) (by decide) (by kernel_rfl)
    (fun x => by kernel_rfl) (fun n => by
      rintro ⟨⟨x1, ⟨x2, x3, x4, x5, x6, ⟨⟩⟩, ⟨⟩⟩, ⟨⟩⟩
      kernel_rfl)
    (fun n => obl_of (by kernel_rfl) (by kernel_rfl) (lz) (cn (cn (cz) (by kernel_rfl)) (by kernel_rfl)) (hn fun _ => rfl))
    (fun n ih => asc_cons (ref_SameFault_ok ok n) <| asc_cons (pendulumsee_Fault_ok ok n) <| asc_nil)
/-! ### pendulum/pendulumlaw21.CodeLoads -/
abbrev law21_CodeLoads_ins : Sh := ⟨[(.one (.val .str)), (.one (.val ty18)), (.one (.val (.int .i64)))], []⟩
abbrev law21_CodeLoads_outs : List Sh := [⟨[(.one (.val .bool))], []⟩]
abbrev law21_CodeLoads_l13_h : Sh := ⟨[(.one (.val .str)), (.one (.val ty18)), (.one (.val (.int .i64))), (.one (.arr 0)), (.one (.val .str)), (.one (.val ty18)), (.one (.val (.int .i64)))], [(.frz 5 (.int .u8))]⟩
abbrev law21_CodeLoads_l13_o : List Out := [⟨(.exit 0), [0, 1, 2, 8, 10, 11], ⟨[(.one (.val .str)), (.one (.val ty18)), (.one (.val (.int .i64))), (.one (.arr 0)), (.one (.val .str)), (.one (.val ty18))], [(.frz 5 (.int .u8))]⟩⟩, ⟨.ret, [6], ⟨[(.one (.val .bool))], []⟩⟩]
def law21_CodeLoads_l13 (n : Nat) : Nat → law21_CodeLoads_l13_h.T → Option (OutT law21_CodeLoads_l13_o)
  | 0, _ => none
  | k + 1, ((x1, x2, x3, _, x4, x5, x6, _), (l7, _)) =>
    if decide (x6 < (x5.length : Int)) then
      let v8 : Int := IntKind.i64.wrap (x6 - 1)
      if 0 ≤ v8 ∧ v8 < (x5.length : Int) then (
        if 0 ≤ x6 ∧ x6 < (x5.length : Int) then (
          if !strLt ((rdT ty0 x5 v8).1) ((rdT ty0 x5 x6).1) then
            some (.inr (.inl ((false, ()), ())))
          else
            let v9 : Int := IntKind.i64.wrap (x6 + 1)
            law21_CodeLoads_l13 n k ((x1, x2, x3, (), x4, x5, v9, ()), (l7, ()))) else none) else none
    else
      some (.inl ((x1, x2, x3, (), x4, x5, ()), (l7, ())))
abbrev law21_CodeLoads_l20_h : Sh := ⟨[(.one (.val .str)), (.one (.val ty18)), (.one (.val (.int .i64))), (.one (.val ty19)), (.one (.arr 0)), (.one (.val .err)), (.one (.arr 1)), (.one (.val (.int .i64)))], [(.arr 5 (.int .u8)), (.arr 37 ty0)]⟩
abbrev law21_CodeLoads_l20_o : List Out := [⟨(.exit 2), [0, 2, 8, 14, 15, 16], ⟨[(.one (.val .str)), (.one (.val (.int .i64))), (.one (.val ty19)), (.one (.arr 0)), (.one (.val .err)), (.one (.arr 1))], [(.arr 5 (.int .u8)), (.arr 37 ty0)]⟩⟩]
def law21_CodeLoads_l20 (n : Nat) : Nat → law21_CodeLoads_l20_h.T → Option (OutT law21_CodeLoads_l20_o)
  | 0, _ => none
  | k + 1, ((x1, x2, x3, x4, _, x5, _, x6, _), (l7, l8, _)) =>
    if decide (x6 ≥ 0) then
      if 0 ≤ x6 ∧ x6 < (x2.length : Int) then (
        if (l8.length + ([((rdT ty0 x2 x6).1, (((rdT ty0 x2 x6).2).1, ((((rdT ty0 x2 x6).2).2).1, (((((rdT ty0 x2 x6).2).2).2).1, ((((((rdT ty0 x2 x6).2).2).2).2).1, ((((((rdT ty0 x2 x6).2).2).2).2).2))))))] : List ty0.T).length) * 144 ≤ 140737488355328 then (
          let v9 : Int := IntKind.i64.wrap (x6 - 1)
          law21_CodeLoads_l20 n k ((x1, x2, x3, x4, (), x5, (), v9, ()), (l7, l8 ++ [((rdT ty0 x2 x6).1, (((rdT ty0 x2 x6).2).1, ((((rdT ty0 x2 x6).2).2).1, (((((rdT ty0 x2 x6).2).2).2).1, ((((((rdT ty0 x2 x6).2).2).2).2).1, ((((((rdT ty0 x2 x6).2).2).2).2).2))))))], ()))) else none) else none
    else
      some (.inl ((x1, x3, x4, (), x5, (), ()), (l7, l8, ())))
def law21_CodeLoads : Nat → law21_CodeLoads_ins.T → Option (OutsT law21_CodeLoads_outs)
  | 0, _ => none
  | n + 1, ((x1, x2, x3, _), _) =>
    match law21_first n ((), ()) with
    | some ((x4, _), _) => (
      if !x4 then
        some ((false, ()), ())
      else
        match world_Objects n ((x2, ()), ()) with
        | some ((x5, _), _) => (
          if !x5 then
            some ((x4, ()), ())
          else
            if decide ((x1.size : Int) > 60) then
              some ((x4, ()), ())
            else
              if !x4 then
                some ((x4, ()), ())
              else
                match code_Link n ((x1, x2, ()), ()) with
                | some ((((_, _), (x6, _), _), _), (l7, _)) => (
                  if !(errNil x6) then
                    some (((l7.length : Int) == 0, ()), ())
                  else
                    match code_Load n (((), ()), (l7, ())) with
                    | some ((((x8, _), (x9, _), (x10, _), _), _), (l11, _)) => (
                      if !(errNil x10) then
                        some ((false, ()), ())
                      else
                        if !strEq x8 x1 then
                          some ((false, ()), ())
                        else
                          if (x9.length : Int) == 0 then
                            some ((false, ()), ())
                          else
                            match law21_CodeLoads_l13 n n ((x1, x2, x3, (), x8, x9, 1, ()), (l11, ())) with
                            | some (.inl ((x12, x13, x14, _, x15, x16, _), (l17, _))) => (
                              match code_Link n ((x15, x16, ()), ()) with
                              | some ((((_, _), (x19, _), _), _), (l20, _)) => (
                                let v21 : Int := IntKind.i64.wrap ((x13.length : Int) - 1)
                                match law21_CodeLoads_l20 n n ((x12, x13, x14, l17, (), x19, (), v21, ()), (l20, [], ())) with
                                | some (.inl ((x22, x23, x24, _, x25, _, _), (l26, l27, _))) => (
                                  match code_Link_2 n ((x22, (), ()), (l27, ())) with
                                  | some ((((_, _), (x28, _), _), _), (l29, l30, _)) => (
                                    match world_Number n ((x23, (x24.length : Int), ()), ()) with
                                    | some ((x31, _), _) => (
                                      if 0 ≤ x31 ∧ x31 ≤ (x24.length : Int) then (
                                        match code_Load_2 n ((cutL x24 0 x31, ()), ()) with
                                        | some ((((x32, _), (x33, _), (x34, _), _), _), _) => (
                                          match ref_Bytes n ((x24, ()), ()) with
                                          | some ((_, _), (l35, _)) => (
                                            if (l35.length + ([0] : List ((.int .u8) : Ty).T).length) * 1 ≤ 140737488355328 then (
                                              match code_Load n (((), ()), (l35 ++ [0], ())) with
                                              | some ((((x36, _), (x37, _), (x38, _), _), _), (l39, _)) => (
                                                if errNil x25 then
                                                  if errNil x28 then
                                                    match ref_SameBytes n ((l26, x24, ()), ()) with
                                                    | some ((x40, _), _) => (
                                                      if x40 then
                                                        match ref_SameBytes n ((l30, x24, ()), ()) with
                                                        | some ((x41, _), _) => (
                                                          if x41 then
                                                            if !(errNil x34) then
                                                              match ref_Placed n ((102, (x24.length : Int), ()), ()) with
                                                              | some (((x42, x43, x44, x45, x46, _), _), _) => (
                                                                match pendulumsee_Same n ((x38, (x42, x43, x44, x45, x46, ()), ()), ()) with
                                                                | some ((x47, _), _) => (
                                                                  some ((x47, ()), ()))
                                                                | none => none)
                                                              | none => none
                                                            else
                                                              some ((false, ()), ())
                                                          else
                                                            some ((false, ()), ()))
                                                        | none => none
                                                      else
                                                        some ((false, ()), ()))
                                                    | none => none
                                                  else
                                                    some ((false, ()), ())
                                                else
                                                  some ((false, ()), ()))
                                              | none => none) else none)
                                          | none => none)
                                        | none => none) else none)
                                    | none => none)
                                  | none => none)
                                | some (.inr (_)) => none
                                | none => none)
                              | none => none)
                            | some (.inr (.inl ((x18, _), _))) => (
                              some ((x18, ()), ()))
                            | some (.inr (.inr (_))) => none
                            | none => none)
                    | none => none)
                | none => none)
        | none => none)
    | none => none
def law21_CodeLoads_H (n : Nat) : Hints := ⟨[], fun _ => [], fun k => match k with | 13 => some ⟨[0, 1, 2, 8, 10, 11, 13], law21_CodeLoads_l13_h, law21_CodeLoads_l13_o, law21_CodeLoads_l13 n⟩ | 20 => some ⟨[0, 1, 2, 8, 14, 15, 16, 17], law21_CodeLoads_l20_h, law21_CodeLoads_l20_o, law21_CodeLoads_l20 n⟩ | _ => none, fun _ => none, fun _ => none, fun _ => 0⟩
def law21_CodeLoads_O (n : Nat) : FuncId → List FSpec := asc [(4, ⟨law21_first_ins, law21_first_outs, law21_first n⟩), (5, ⟨world_Objects_ins, world_Objects_outs, world_Objects n⟩), (6, ⟨code_Link_2_ins, code_Link_2_outs, code_Link_2 n⟩), (6, ⟨code_Link_ins, code_Link_outs, code_Link n⟩), (7, ⟨code_Load_ins, code_Load_outs, code_Load n⟩), (7, ⟨code_Load_2_ins, code_Load_2_outs, code_Load_2 n⟩), (8, ⟨world_Number_ins, world_Number_outs, world_Number n⟩), (9, ⟨ref_Bytes_ins, ref_Bytes_outs, ref_Bytes n⟩), (10, ⟨ref_SameBytes_ins, ref_SameBytes_outs, ref_SameBytes n⟩), (11, ⟨pendulumsee_Same_ins, pendulumsee_Same_outs, pendulumsee_Same n⟩), (12, ⟨ref_Placed_ins, ref_Placed_outs, ref_Placed n⟩)]
def b3 : Code := bodyOf Tryz.f3
theorem law21_CodeLoads_l13_k0 (n : Nat) : LoopOk P CC (law21_CodeLoads_O n) n 0 162 (law21_CodeLoads_H n) ⟨[0, 1, 2, 8, 10, 11, 13], law21_CodeLoads_l13_h, law21_CodeLoads_l13_o, law21_CodeLoads_l13 n⟩ ((loopsOf b3).getD 0 .skip) := by
  refine ⟨fun _ => by kernel_rfl, ?_⟩
  rintro k ⟨⟨x1, x2, x3, ⟨⟩, x4, x5, x6, ⟨⟩⟩, ⟨x7, ⟨⟩⟩⟩
  kernel_rfl
theorem law21_CodeLoads_l20_k1 (n : Nat) : LoopOk P CC (law21_CodeLoads_O n) n 0 162 (law21_CodeLoads_H n) ⟨[0, 1, 2, 8, 14, 15, 16, 17], law21_CodeLoads_l20_h, law21_CodeLoads_l20_o, law21_CodeLoads_l20 n⟩ ((loopsOf b3).getD 1 .skip) := by
  refine ⟨fun _ => by kernel_rfl, ?_⟩
  rintro k ⟨⟨x1, x2, x3, x4, ⟨⟩, x5, ⟨⟩, x6, ⟨⟩⟩, ⟨x7, x8, ⟨⟩⟩⟩
  kernel_rfl
theorem law21_CodeLoads_ok {S : Nat → Addr} (ok : CfgOk P CC S) : ∀ n, SpecOk P CC S 3 ⟨law21_CodeLoads_ins, law21_CodeLoads_outs, law21_CodeLoads n⟩ :=
  fn_all ok (O := law21_CodeLoads_O) (H := law21_CodeLoads_H) (fn := Tryz.f3) (body := b3) (by kernel_rfl) (by kernel_rfl) (by kernel_rfl) (by decide) (by kernel_rfl)
    (fun x => by kernel_rfl) (fun n => by
      rintro ⟨⟨x1, x2, x3, ⟨⟩⟩, ⟨⟩⟩
      kernel_rfl)
    (fun n => obl_of (by kernel_rfl) (by kernel_rfl) (ls (ls (lz) (by kernel_rfl) (law21_CodeLoads_l13_k0 n)) (by kernel_rfl) (law21_CodeLoads_l20_k1 n)) (cn (cn (cn (cn (cn (cn (cn (cn (cn (cn (cn (cn (cn (cn (cn (cn (cn (cn (cn (cn (cn (cn (cn (cn (cn (cn (cn (cn (cn (cn (cn (cn (cn (cn (cz) (by kernel_rfl)) (by kernel_rfl)) (by kernel_rfl)) (by kernel_rfl)) (by kernel_rfl)) (by kernel_rfl)) (by kernel_rfl)) (by kernel_rfl)) (by kernel_rfl)) (by kernel_rfl)) (by kernel_rfl)) (by kernel_rfl)) (by kernel_rfl)) (by kernel_rfl)) (by kernel_rfl)) (by kernel_rfl)) (by kernel_rfl)) (by kernel_rfl)) (by kernel_rfl)) (by kernel_rfl)) (by kernel_rfl)) (by kernel_rfl)) (by kernel_rfl)) (by kernel_rfl)) (by kernel_rfl)) (by kernel_rfl)) (by kernel_rfl)) (by kernel_rfl)) (by kernel_rfl)) (by kernel_rfl)) (by kernel_rfl)) (by kernel_rfl)) (by kernel_rfl)) (by kernel_rfl)) (hn fun _ => rfl))
    (fun n ih => asc_cons (law21_first_ok ok n) <| asc_cons (world_Objects_ok ok n) <| asc_cons (code_Link_2_ok ok n) <| asc_cons (code_Link_ok ok n) <| asc_cons (code_Load_ok ok n) <| asc_cons (code_Load_2_ok ok n) <| asc_cons (world_Number_ok ok n) <| asc_cons (ref_Bytes_ok ok n) <| asc_cons (ref_SameBytes_ok ok n) <| asc_cons (pendulumsee_Same_ok ok n) <| asc_cons (ref_Placed_ok ok n) <| asc_nil)
end
end Go.Proofs.YthllmcijlhlimaaGreatDoor.Cm

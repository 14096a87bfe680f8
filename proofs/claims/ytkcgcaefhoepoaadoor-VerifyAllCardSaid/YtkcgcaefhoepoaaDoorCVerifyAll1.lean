/- Printed by cmtext.py: the code as plain functions. -/
import Derived.Test.YtkcgcaefhoepoaaDoorCVerifyAll0
namespace Go.Proofs.YtkcgcaefhoepoaaDoor.Cm
open Go
noncomputable section
set_option linter.unusedVariables false
set_option maxRecDepth 100000
/-! ### (*pendulum/lay.layer).walk -/
abbrev lay_layer_walk_2_ins : Sh := ⟨[(.one (.ptr 0 0)), (.one (.val .str)), (.one (.val .str))], [(.obj 83 [(.map 1), (.arr 2), (.map 3), (.val (.int .i64))]), (.map .str ty10 true), (.arr 121 ty0), (.map .str (.int .i64) false)]⟩
abbrev lay_layer_walk_2_outs : List Sh := [⟨[(.one (.val .err))], [(.obj 83 [(.map 1), (.arr 4), (.map 3), (.val (.int .i64))]), (.map .str ty10 true), .dead, (.map .str (.int .i64) false), (.arr 121 ty0)]⟩]
abbrev lay_layer_walk_2_c10_h : Sh := ⟨[(.one (.ptr 0 0)), (.one (.val .str)), (.one (.ptr 4 0))], [(.obj 83 [(.map 1), (.arr 2), (.map 3), (.val (.int .i64))]), (.map .str ty10 true), (.arr 121 ty0), (.map .str (.int .i64) false), (.obj 34 [(.val .str), (.val ty5), (.val ty5), (.val (.int .i64)), (.val ty15), (.val ty17), (.val ty18)])]⟩
abbrev lay_layer_walk_2_c10_o : List Out := [⟨.normal, [0, 2, 7], ⟨[(.one (.ptr 0 0)), (.one (.val .str)), (.one (.ptr 4 0))], [(.obj 83 [(.map 1), (.arr 2), (.map 3), (.val (.int .i64))]), (.map .str ty10 true), (.arr 121 ty0), (.map .str (.int .i64) false), (.obj 34 [(.val .str), (.val ty5), (.val ty5), (.val (.int .i64)), (.val ty15), (.val ty17), (.val ty18)])]⟩⟩]
def lay_layer_walk_2_c10 (n : Nat) (rc : lay_layer_walk_2_ins.T → Option (OutsT lay_layer_walk_2_outs)) : lay_layer_walk_2_c10_h.T → Option (OutT lay_layer_walk_2_c10_o)
  | ((_, x1, _, _), ((_, _, _, x2, _), m3, l4, m5, (x6, x7, x8, x9, x10, x11, x12, _), _)) =>
    let v13 : Int := (mfind (keyEq (.str : Ty)) x1 m5).getD 0
    if !((mfind (keyEq (.str : Ty)) x1 m5).isSome) then
      some (.inl (((), x1, (), ()), (((), (), (), x2, ()), m3, l4, mset (keyEq (.str : Ty)) x1 (l4.length : Int) m5, (x6, x7, x8, x9, x10, x11, x12, ()), ())))
    else
      some (.inl (((), x1, (), ()), (((), (), (), x2, ()), m3, l4, m5, (x6, x7, x8, x9, x10, x11, x12, ()), ())))
abbrev lay_layer_walk_2_l11_h : Sh := ⟨[(.one (.ptr 0 0)), (.one (.val .str)), (.one (.ptr 4 0)), (.one (.val ty15)), (.one (.val (.int .i64))), (.one (.val (.int .i64)))], [(.obj 83 [(.map 1), (.arr 5), (.map 3), (.val (.int .i64))]), (.map .str ty10 true), .dead, (.map .str (.int .i64) false), (.obj 34 [(.val .str), (.val ty5), (.val ty5), (.val (.int .i64)), (.val ty15), (.val ty17), (.val ty18)]), (.arr 121 ty0)]⟩
abbrev lay_layer_walk_2_l11_o : List Out := [⟨(.exit 0), [0, 2, 7], ⟨[(.one (.ptr 0 0)), (.one (.val .str)), (.one (.ptr 4 0))], [(.obj 83 [(.map 1), (.arr 5), (.map 3), (.val (.int .i64))]), (.map .str ty10 true), .dead, (.map .str (.int .i64) false), (.obj 34 [(.val .str), (.val ty5), (.val ty5), (.val (.int .i64)), (.val ty15), (.val ty17), (.val ty18)]), (.arr 121 ty0)]⟩⟩]
def lay_layer_walk_2_l11 (n : Nat) (rc : lay_layer_walk_2_ins.T → Option (OutsT lay_layer_walk_2_outs)) : Nat → lay_layer_walk_2_l11_h.T → Option (OutT lay_layer_walk_2_l11_o)
  | 0, _ => none
  | k + 1, ((_, x1, _, x2, x3, x4, _), ((_, _, _, x5, _), m6, _, m7, (x8, x9, x10, x11, x12, x13, x14, _), l15, _)) =>
    if decide (x4 < x3) then
      if 0 ≤ x4 ∧ x4 < (x2.length : Int) then (
        if x1.size + ((rdT ty0 x2 x4).1).size ≤ 9223372036854775807 then (
          if (l15.length + ([(x1 ++ ((rdT ty0 x2 x4).1), ((rdT ty0 x2 x4).2))] : List ty0.T).length) * 32 ≤ 140737488355328 then (
            let v16 : Int := IntKind.i64.wrap (x4 + 1)
            lay_layer_walk_2_l11 n rc k (((), x1, (), x2, x3, v16, ()), (((), (), (), x5, ()), m6, (), m7, (x8, x9, x10, x11, x12, x13, x14, ()), l15 ++ [(x1 ++ ((rdT ty0 x2 x4).1), ((rdT ty0 x2 x4).2))], ()))) else none) else none) else none
    else
      some (.inl (((), x1, (), ()), (((), (), (), x5, ()), m6, (), m7, (x8, x9, x10, x11, x12, x13, x14, ()), l15, ())))
abbrev lay_layer_walk_2_l16_h : Sh := ⟨[(.one (.ptr 0 0)), (.one (.val .str)), (.one (.val ty20)), (.one (.val (.int .i64))), (.one (.val (.int .i64)))], [(.obj 83 [(.map 1), (.arr 4), (.map 3), (.val (.int .i64))]), (.map .str ty10 true), .dead, (.map .str (.int .i64) false), (.arr 121 ty0)]⟩
abbrev lay_layer_walk_2_l16_o : List Out := [⟨(.exit 2), [], ⟨[], [(.obj 83 [(.map 1), (.arr 4), (.map 3), (.val (.int .i64))]), (.map .str ty10 true), .dead, (.map .str (.int .i64) false), (.arr 121 ty0)]⟩⟩, ⟨.ret, [6], ⟨[(.one (.val .err))], [(.obj 83 [(.map 1), (.arr 4), (.map 3), (.val (.int .i64))]), (.map .str ty10 true), .dead, (.map .str (.int .i64) false), (.arr 121 ty0)]⟩⟩]
def lay_layer_walk_2_l16 (n : Nat) (rc : lay_layer_walk_2_ins.T → Option (OutsT lay_layer_walk_2_outs)) : Nat → lay_layer_walk_2_l16_h.T → Option (OutT lay_layer_walk_2_l16_o)
  | 0, _ => none
  | k + 1, ((_, x1, x2, x3, x4, _), ((_, _, _, x5, _), m6, _, m7, l8, _)) =>
    if decide (x4 < x3) then
      if 0 ≤ x4 ∧ x4 < (x2.length : Int) then (
        if x1.size + ((rdT ty2 x2 x4).1).size ≤ 9223372036854775807 then (
          if (x1 ++ ((rdT ty2 x2 x4).1)).size + (⟨#[47]⟩ : ByteArray).size ≤ 9223372036854775807 then (
            match rc (((), (rdT ty2 x2 x4).2, (x1 ++ ((rdT ty2 x2 x4).1)) ++ (⟨#[47]⟩ : ByteArray), ()), (((), (), (), x5, ()), m6, l8, m7, ())) with
            | some ((x9, _), ((_, _, _, x10, _), m11, _, m12, l13, _)) => (
              if !(errNil x9) then
                some (.inr (.inl ((x9, ()), (((), (), (), x10, ()), m11, (), m12, l13, ()))))
              else
                let v14 : Int := IntKind.i64.wrap (x4 + 1)
                lay_layer_walk_2_l16 n rc k (((), x1, x2, x3, v14, ()), (((), (), (), x10, ()), m11, (), m12, l13, ())))
            | none => none) else none) else none) else none
    else
      some (.inl ((), (((), (), (), x5, ()), m6, (), m7, l8, ())))
def lay_layer_walk_2 : Nat → lay_layer_walk_2_ins.T → Option (OutsT lay_layer_walk_2_outs)
  | 0, _ => none
  | n + 1, ((_, x1, x2, _), ((_, _, _, x3, _), m4, l5, m6, _)) =>
    let v7 : Int := IntKind.i64.wrap (x3 + 1)
    if decide (v7 > 512) then
      some ((ErrV.sent 103, ()), (((), (), (), v7, ()), m4, (), m6, l5, ()))
    else
      let v8 : ty10.T := (mfind (keyEq (.str : Ty)) x1 m4).getD ((⟨#[]⟩ : ByteArray), ([], ([], (0, ([], ((true, []), []))))))
      let v9 : Int := IntKind.i64.wrap (512 - (l5.length : Int))
      if decide ((v8.2.2.2.2.1.length : Int) > v9) then
        some ((ErrV.sent 103, ()), (((), (), (), v7, ()), m4, (), m6, l5, ()))
      else
        match lay_layer_walk_2_c10 n (lay_layer_walk_2 n) (((), x2, (), ()), (((), (), (), v7, ()), m4, l5, m6, (v8.1, v8.2.1, v8.2.2.1, v8.2.2.2.1, v8.2.2.2.2.1, v8.2.2.2.2.2.1, v8.2.2.2.2.2.2, ()), ())) with
        | some (.inl ((_, x10, _, _), ((_, _, _, x11, _), m12, l13, m14, (x15, x16, x17, x18, x19, x20, x21, _), _))) => (
          match lay_layer_walk_2_l11 n (lay_layer_walk_2 n) n (((), x10, (), x19, (x19.length : Int), 0, ()), (((), (), (), x11, ()), m12, (), m14, (x15, x16, x17, x18, x19, x20, x21, ()), l13, ())) with
          | some (.inl ((_, x22, _, _), ((_, _, _, x23, _), m24, _, m25, (x26, x27, x28, x29, x30, x31, x32, _), l33, _))) => (
            match lay_layer_walk_2_l16 n (lay_layer_walk_2 n) n (((), x22, x31.2, (x31.2.length : Int), 0, ()), (((), (), (), x23, ()), m24, (), m25, l33, ())) with
            | some (.inl (_, ((_, _, _, x34, _), m35, _, m36, l37, _))) => (
              some ((ErrV.nil, ()), (((), (), (), x34, ()), m35, (), m36, l37, ())))
            | some (.inr (.inl ((x38, _), ((_, _, _, x39, _), m40, _, m41, l42, _)))) => (
              some ((x38, ()), (((), (), (), x39, ()), m40, (), m41, l42, ())))
            | some (.inr (.inr (_))) => none
            | none => none)
          | some (.inr (_)) => none
          | none => none)
        | some (.inr (_)) => none
        | none => none
def lay_layer_walk_2_H (n : Nat) : Hints := ⟨[], fun _ => [], fun k => match k with | 11 => some ⟨[0, 2, 7, 67, 68, 69], lay_layer_walk_2_l11_h, lay_layer_walk_2_l11_o, lay_layer_walk_2_l11 n (lay_layer_walk_2 n)⟩ | 16 => some ⟨[0, 2, 93, 94, 95], lay_layer_walk_2_l16_h, lay_layer_walk_2_l16_o, lay_layer_walk_2_l16 n (lay_layer_walk_2 n)⟩ | _ => none, fun k => match k with | 10 => some ⟨[0, 2, 7], lay_layer_walk_2_c10_h, lay_layer_walk_2_c10_o, fun n => lay_layer_walk_2_c10 n (lay_layer_walk_2 n)⟩ | _ => none, fun _ => none⟩
def lay_layer_walk_2_O (n : Nat) : FuncId → List FSpec := asc [(52, ⟨lay_layer_walk_2_ins, lay_layer_walk_2_outs, lay_layer_walk_2 n⟩)]
def b52 : Code := bodyOf Tryd.f52
theorem lay_layer_walk_2_l11_k0 (n : Nat) : LoopOk P CC (lay_layer_walk_2_O n) n 4 112 (lay_layer_walk_2_H n) ⟨[0, 2, 7, 67, 68, 69], lay_layer_walk_2_l11_h, lay_layer_walk_2_l11_o, lay_layer_walk_2_l11 n (lay_layer_walk_2 n)⟩ ((loopsOf b52).getD 0 .skip) := by
  refine ⟨fun _ => by kernel_rfl, ?_⟩
  rintro k ⟨⟨⟨⟩, x1, ⟨⟩, x2, x3, x4, ⟨⟩⟩, ⟨⟨⟨⟩, ⟨⟩, ⟨⟩, x5, ⟨⟩⟩, x6, ⟨⟩, x7, ⟨x8, x9, x10, x11, x12, x13, x14, ⟨⟩⟩, x15, ⟨⟩⟩⟩
  kernel_rfl
theorem lay_layer_walk_2_l16_k1 (n : Nat) : LoopOk P CC (lay_layer_walk_2_O n) n 4 112 (lay_layer_walk_2_H n) ⟨[0, 2, 93, 94, 95], lay_layer_walk_2_l16_h, lay_layer_walk_2_l16_o, lay_layer_walk_2_l16 n (lay_layer_walk_2 n)⟩ ((loopsOf b52).getD 1 .skip) := by
  refine ⟨fun _ => by kernel_rfl, ?_⟩
  rintro k ⟨⟨⟨⟩, x1, x2, x3, x4, ⟨⟩⟩, ⟨⟨⟨⟩, ⟨⟩, ⟨⟩, x5, ⟨⟩⟩, x6, ⟨⟩, x7, x8, ⟨⟩⟩⟩
  kernel_rfl
theorem lay_layer_walk_2_c10_k9 (n : Nat) : CutOk P CC (lay_layer_walk_2_O n) n 4 112 (lay_layer_walk_2_H n) ⟨[0, 2, 7], lay_layer_walk_2_c10_h, lay_layer_walk_2_c10_o, fun n => lay_layer_walk_2_c10 n (lay_layer_walk_2 n)⟩ ((cutsOf b52).getD 9 (0, .skip)).2 := by
  rintro ⟨⟨⟨⟩, x1, ⟨⟩, ⟨⟩⟩, ⟨⟨⟨⟩, ⟨⟩, ⟨⟩, x2, ⟨⟩⟩, x3, x4, x5, ⟨x6, x7, x8, x9, x10, x11, x12, ⟨⟩⟩, ⟨⟩⟩⟩
  kernel_rfl
theorem lay_layer_walk_2_ok {S : Nat → Addr} (ok : CfgOk P CC S) : ∀ n, SpecOk P CC S 52 ⟨lay_layer_walk_2_ins, lay_layer_walk_2_outs, lay_layer_walk_2 n⟩ :=
  fn_all ok (O := lay_layer_walk_2_O) (H := lay_layer_walk_2_H) (fn := Tryd.f52) (body := b52) (by kernel_rfl) (by kernel_rfl) (by kernel_rfl) (by decide) (by kernel_rfl)
    (fun x => by kernel_rfl) (fun n => by
      rintro ⟨⟨⟨⟩, x1, x2, ⟨⟩⟩, ⟨⟨⟨⟩, ⟨⟩, ⟨⟩, x3, ⟨⟩⟩, x4, x5, x6, ⟨⟩⟩⟩
      kernel_rfl)
    (fun n => obl_of (by kernel_rfl) (by kernel_rfl) (ls (ls (lz) (by kernel_rfl) (lay_layer_walk_2_l11_k0 n)) (by kernel_rfl) (lay_layer_walk_2_l16_k1 n)) (cn (cn (cn (cn (cn (cn (cn (cn (cn (cn (cn (cn (cn (cn (cn (cn (cn (cn (cs (cn (cn (cn (cn (cn (cn (cn (cn (cn (cz) (by kernel_rfl)) (by kernel_rfl)) (by kernel_rfl)) (by kernel_rfl)) (by kernel_rfl)) (by kernel_rfl)) (by kernel_rfl)) (by kernel_rfl)) (by kernel_rfl)) (by kernel_rfl) (lay_layer_walk_2_c10_k9 n)) (by kernel_rfl)) (by kernel_rfl)) (by kernel_rfl)) (by kernel_rfl)) (by kernel_rfl)) (by kernel_rfl)) (by kernel_rfl)) (by kernel_rfl)) (by kernel_rfl)) (by kernel_rfl)) (by kernel_rfl)) (by kernel_rfl)) (by kernel_rfl)) (by kernel_rfl)) (by kernel_rfl)) (by kernel_rfl)) (by kernel_rfl)) (by kernel_rfl)) (hn fun _ => rfl))
    (fun n ih => asc_cons (ih) <| asc_nil)
/-! ### (*pendulum/lay.layer).walk -/
abbrev lay_layer_walk_ins : Sh := ⟨[(.one (.ptr 0 0)), (.one (.val .str)), (.one (.val .str))], [(.obj 83 [(.map 1), (.emp true), (.map 2), (.val (.int .i64))]), (.map .str ty10 true), (.map .str (.int .i64) false)]⟩
abbrev lay_layer_walk_outs : List Sh := [⟨[(.one (.val .err))], [(.obj 83 [(.map 1), (.arr 3), (.map 2), (.val (.int .i64))]), (.map .str ty10 true), (.map .str (.int .i64) false), (.arr 121 ty0)]⟩]
abbrev lay_layer_walk_c10_h : Sh := ⟨[(.one (.ptr 0 0)), (.one (.val .str)), (.one (.ptr 3 0))], [(.obj 83 [(.map 1), (.emp true), (.map 2), (.val (.int .i64))]), (.map .str ty10 true), (.map .str (.int .i64) false), (.obj 34 [(.val .str), (.val ty5), (.val ty5), (.val (.int .i64)), (.val ty15), (.val ty17), (.val ty18)])]⟩
abbrev lay_layer_walk_c10_o : List Out := [⟨.normal, [0, 2, 7], ⟨[(.one (.ptr 0 0)), (.one (.val .str)), (.one (.ptr 3 0))], [(.obj 83 [(.map 1), (.emp true), (.map 2), (.val (.int .i64))]), (.map .str ty10 true), (.map .str (.int .i64) false), (.obj 34 [(.val .str), (.val ty5), (.val ty5), (.val (.int .i64)), (.val ty15), (.val ty17), (.val ty18)])]⟩⟩]
def lay_layer_walk_c10 (n : Nat) (rc : lay_layer_walk_ins.T → Option (OutsT lay_layer_walk_outs)) : lay_layer_walk_c10_h.T → Option (OutT lay_layer_walk_c10_o)
  | ((_, x1, _, _), ((_, _, _, x2, _), m3, m4, (x5, x6, x7, x8, x9, x10, x11, _), _)) =>
    let v12 : Int := (mfind (keyEq (.str : Ty)) x1 m4).getD 0
    if !((mfind (keyEq (.str : Ty)) x1 m4).isSome) then
      some (.inl (((), x1, (), ()), (((), (), (), x2, ()), m3, mset (keyEq (.str : Ty)) x1 0 m4, (x5, x6, x7, x8, x9, x10, x11, ()), ())))
    else
      some (.inl (((), x1, (), ()), (((), (), (), x2, ()), m3, m4, (x5, x6, x7, x8, x9, x10, x11, ()), ())))
abbrev lay_layer_walk_l11_h : Sh := ⟨[(.one (.ptr 0 0)), (.one (.val .str)), (.one (.ptr 3 0)), (.one (.val ty15)), (.one (.val (.int .i64))), (.one (.val (.int .i64)))], [(.obj 83 [(.map 1), (.arr 4), (.map 2), (.val (.int .i64))]), (.map .str ty10 true), (.map .str (.int .i64) false), (.obj 34 [(.val .str), (.val ty5), (.val ty5), (.val (.int .i64)), (.val ty15), (.val ty17), (.val ty18)]), (.arr 121 ty0)]⟩
abbrev lay_layer_walk_l11_o : List Out := [⟨(.exit 0), [0, 2, 7], ⟨[(.one (.ptr 0 0)), (.one (.val .str)), (.one (.ptr 3 0))], [(.obj 83 [(.map 1), (.arr 4), (.map 2), (.val (.int .i64))]), (.map .str ty10 true), (.map .str (.int .i64) false), (.obj 34 [(.val .str), (.val ty5), (.val ty5), (.val (.int .i64)), (.val ty15), (.val ty17), (.val ty18)]), (.arr 121 ty0)]⟩⟩]
def lay_layer_walk_l11 (n : Nat) (rc : lay_layer_walk_ins.T → Option (OutsT lay_layer_walk_outs)) : Nat → lay_layer_walk_l11_h.T → Option (OutT lay_layer_walk_l11_o)
  | 0, _ => none
  | k + 1, ((_, x1, _, x2, x3, x4, _), ((_, _, _, x5, _), m6, m7, (x8, x9, x10, x11, x12, x13, x14, _), l15, _)) =>
    if decide (x4 < x3) then
      if 0 ≤ x4 ∧ x4 < (x2.length : Int) then (
        if x1.size + ((rdT ty0 x2 x4).1).size ≤ 9223372036854775807 then (
          if (l15.length + ([(x1 ++ ((rdT ty0 x2 x4).1), ((rdT ty0 x2 x4).2))] : List ty0.T).length) * 32 ≤ 140737488355328 then (
            let v16 : Int := IntKind.i64.wrap (x4 + 1)
            lay_layer_walk_l11 n rc k (((), x1, (), x2, x3, v16, ()), (((), (), (), x5, ()), m6, m7, (x8, x9, x10, x11, x12, x13, x14, ()), l15 ++ [(x1 ++ ((rdT ty0 x2 x4).1), ((rdT ty0 x2 x4).2))], ()))) else none) else none) else none
    else
      some (.inl (((), x1, (), ()), (((), (), (), x5, ()), m6, m7, (x8, x9, x10, x11, x12, x13, x14, ()), l15, ())))
abbrev lay_layer_walk_l16_h : Sh := ⟨[(.one (.ptr 0 0)), (.one (.val .str)), (.one (.val ty20)), (.one (.val (.int .i64))), (.one (.val (.int .i64)))], [(.obj 83 [(.map 1), (.arr 3), (.map 2), (.val (.int .i64))]), (.map .str ty10 true), (.map .str (.int .i64) false), (.arr 121 ty0)]⟩
abbrev lay_layer_walk_l16_o : List Out := [⟨(.exit 2), [], ⟨[], [(.obj 83 [(.map 1), (.arr 3), (.map 2), (.val (.int .i64))]), (.map .str ty10 true), (.map .str (.int .i64) false), (.arr 121 ty0)]⟩⟩, ⟨.ret, [6], ⟨[(.one (.val .err))], [(.obj 83 [(.map 1), (.arr 3), (.map 2), (.val (.int .i64))]), (.map .str ty10 true), (.map .str (.int .i64) false), (.arr 121 ty0)]⟩⟩]
def lay_layer_walk_l16 (n : Nat) (rc : lay_layer_walk_ins.T → Option (OutsT lay_layer_walk_outs)) : Nat → lay_layer_walk_l16_h.T → Option (OutT lay_layer_walk_l16_o)
  | 0, _ => none
  | k + 1, ((_, x1, x2, x3, x4, _), ((_, _, _, x5, _), m6, m7, l8, _)) =>
    if decide (x4 < x3) then
      if 0 ≤ x4 ∧ x4 < (x2.length : Int) then (
        if x1.size + ((rdT ty2 x2 x4).1).size ≤ 9223372036854775807 then (
          if (x1 ++ ((rdT ty2 x2 x4).1)).size + (⟨#[47]⟩ : ByteArray).size ≤ 9223372036854775807 then (
            match lay_layer_walk_2 n (((), (rdT ty2 x2 x4).2, (x1 ++ ((rdT ty2 x2 x4).1)) ++ (⟨#[47]⟩ : ByteArray), ()), (((), (), (), x5, ()), m6, l8, m7, ())) with
            | some ((x9, _), ((_, _, _, x10, _), m11, _, m12, l13, _)) => (
              if !(errNil x9) then
                some (.inr (.inl ((x9, ()), (((), (), (), x10, ()), m11, m12, l13, ()))))
              else
                let v14 : Int := IntKind.i64.wrap (x4 + 1)
                lay_layer_walk_l16 n rc k (((), x1, x2, x3, v14, ()), (((), (), (), x10, ()), m11, m12, l13, ())))
            | none => none) else none) else none) else none
    else
      some (.inl ((), (((), (), (), x5, ()), m6, m7, l8, ())))
def lay_layer_walk : Nat → lay_layer_walk_ins.T → Option (OutsT lay_layer_walk_outs)
  | 0, _ => none
  | n + 1, ((_, x1, x2, _), ((_, _, _, x3, _), m4, m5, _)) =>
    let v6 : Int := IntKind.i64.wrap (x3 + 1)
    if decide (v6 > 512) then
      some ((ErrV.sent 103, ()), (((), (), (), v6, ()), m4, m5, [], ()))
    else
      let v7 : ty10.T := (mfind (keyEq (.str : Ty)) x1 m4).getD ((⟨#[]⟩ : ByteArray), ([], ([], (0, ([], ((true, []), []))))))
      if decide ((v7.2.2.2.2.1.length : Int) > 512) then
        some ((ErrV.sent 103, ()), (((), (), (), v6, ()), m4, m5, [], ()))
      else
        match lay_layer_walk_c10 n (lay_layer_walk n) (((), x2, (), ()), (((), (), (), v6, ()), m4, m5, (v7.1, v7.2.1, v7.2.2.1, v7.2.2.2.1, v7.2.2.2.2.1, v7.2.2.2.2.2.1, v7.2.2.2.2.2.2, ()), ())) with
        | some (.inl ((_, x8, _, _), ((_, _, _, x9, _), m10, m11, (x12, x13, x14, x15, x16, x17, x18, _), _))) => (
          match lay_layer_walk_l11 n (lay_layer_walk n) n (((), x8, (), x16, (x16.length : Int), 0, ()), (((), (), (), x9, ()), m10, m11, (x12, x13, x14, x15, x16, x17, x18, ()), [], ())) with
          | some (.inl ((_, x19, _, _), ((_, _, _, x20, _), m21, m22, (x23, x24, x25, x26, x27, x28, x29, _), l30, _))) => (
            match lay_layer_walk_l16 n (lay_layer_walk n) n (((), x19, x28.2, (x28.2.length : Int), 0, ()), (((), (), (), x20, ()), m21, m22, l30, ())) with
            | some (.inl (_, ((_, _, _, x31, _), m32, m33, l34, _))) => (
              some ((ErrV.nil, ()), (((), (), (), x31, ()), m32, m33, l34, ())))
            | some (.inr (.inl ((x35, _), ((_, _, _, x36, _), m37, m38, l39, _)))) => (
              some ((x35, ()), (((), (), (), x36, ()), m37, m38, l39, ())))
            | some (.inr (.inr (_))) => none
            | none => none)
          | some (.inr (_)) => none
          | none => none)
        | some (.inr (_)) => none
        | none => none
def lay_layer_walk_H (n : Nat) : Hints := ⟨[], fun _ => [], fun k => match k with | 11 => some ⟨[0, 2, 7, 67, 68, 69], lay_layer_walk_l11_h, lay_layer_walk_l11_o, lay_layer_walk_l11 n (lay_layer_walk n)⟩ | 16 => some ⟨[0, 2, 93, 94, 95], lay_layer_walk_l16_h, lay_layer_walk_l16_o, lay_layer_walk_l16 n (lay_layer_walk n)⟩ | _ => none, fun k => match k with | 10 => some ⟨[0, 2, 7], lay_layer_walk_c10_h, lay_layer_walk_c10_o, fun n => lay_layer_walk_c10 n (lay_layer_walk n)⟩ | _ => none, fun _ => none⟩
def lay_layer_walk_O (n : Nat) : FuncId → List FSpec := asc [(52, ⟨lay_layer_walk_2_ins, lay_layer_walk_2_outs, lay_layer_walk_2 n⟩)]
theorem lay_layer_walk_l11_k0 (n : Nat) : LoopOk P CC (lay_layer_walk_O n) n 3 112 (lay_layer_walk_H n) ⟨[0, 2, 7, 67, 68, 69], lay_layer_walk_l11_h, lay_layer_walk_l11_o, lay_layer_walk_l11 n (lay_layer_walk n)⟩ ((loopsOf b52).getD 0 .skip) := by
  refine ⟨fun _ => by kernel_rfl, ?_⟩
  rintro k ⟨⟨⟨⟩, x1, ⟨⟩, x2, x3, x4, ⟨⟩⟩, ⟨⟨⟨⟩, ⟨⟩, ⟨⟩, x5, ⟨⟩⟩, x6, x7, ⟨x8, x9, x10, x11, x12, x13, x14, ⟨⟩⟩, x15, ⟨⟩⟩⟩
  kernel_rfl
theorem lay_layer_walk_l16_k1 (n : Nat) : LoopOk P CC (lay_layer_walk_O n) n 3 112 (lay_layer_walk_H n) ⟨[0, 2, 93, 94, 95], lay_layer_walk_l16_h, lay_layer_walk_l16_o, lay_layer_walk_l16 n (lay_layer_walk n)⟩ ((loopsOf b52).getD 1 .skip) := by
  refine ⟨fun _ => by kernel_rfl, ?_⟩
  rintro k ⟨⟨⟨⟩, x1, x2, x3, x4, ⟨⟩⟩, ⟨⟨⟨⟩, ⟨⟩, ⟨⟩, x5, ⟨⟩⟩, x6, x7, x8, ⟨⟩⟩⟩
  kernel_rfl
theorem lay_layer_walk_c10_k9 (n : Nat) : CutOk P CC (lay_layer_walk_O n) n 3 112 (lay_layer_walk_H n) ⟨[0, 2, 7], lay_layer_walk_c10_h, lay_layer_walk_c10_o, fun n => lay_layer_walk_c10 n (lay_layer_walk n)⟩ ((cutsOf b52).getD 9 (0, .skip)).2 := by
  rintro ⟨⟨⟨⟩, x1, ⟨⟩, ⟨⟩⟩, ⟨⟨⟨⟩, ⟨⟩, ⟨⟩, x2, ⟨⟩⟩, x3, x4, ⟨x5, x6, x7, x8, x9, x10, x11, ⟨⟩⟩, ⟨⟩⟩⟩
  kernel_rfl
theorem lay_layer_walk_ok {S : Nat → Addr} (ok : CfgOk P CC S) : ∀ n, SpecOk P CC S 52 ⟨lay_layer_walk_ins, lay_layer_walk_outs, lay_layer_walk n⟩ :=
  fn_all ok (O := lay_layer_walk_O) (H := lay_layer_walk_H) (fn := Tryd.f52) (body := b52) (by kernel_rfl) (by kernel_rfl) (by kernel_rfl) (by decide) (by kernel_rfl)
    (fun x => by kernel_rfl) (fun n => by
      rintro ⟨⟨⟨⟩, x1, x2, ⟨⟩⟩, ⟨⟨⟨⟩, ⟨⟩, ⟨⟩, x3, ⟨⟩⟩, x4, x5, ⟨⟩⟩⟩
      kernel_rfl)
    (fun n => obl_of (by kernel_rfl) (by kernel_rfl) (ls (ls (lz) (by kernel_rfl) (lay_layer_walk_l11_k0 n)) (by kernel_rfl) (lay_layer_walk_l16_k1 n)) (cn (cn (cn (cn (cn (cn (cn (cn (cn (cn (cn (cn (cn (cn (cn (cn (cn (cn (cs (cn (cn (cn (cn (cn (cn (cn (cn (cn (cz) (by kernel_rfl)) (by kernel_rfl)) (by kernel_rfl)) (by kernel_rfl)) (by kernel_rfl)) (by kernel_rfl)) (by kernel_rfl)) (by kernel_rfl)) (by kernel_rfl)) (by kernel_rfl) (lay_layer_walk_c10_k9 n)) (by kernel_rfl)) (by kernel_rfl)) (by kernel_rfl)) (by kernel_rfl)) (by kernel_rfl)) (by kernel_rfl)) (by kernel_rfl)) (by kernel_rfl)) (by kernel_rfl)) (by kernel_rfl)) (by kernel_rfl)) (by kernel_rfl)) (by kernel_rfl)) (by kernel_rfl)) (by kernel_rfl)) (by kernel_rfl)) (by kernel_rfl)) (by kernel_rfl)) (hn fun _ => rfl))
    (fun n ih => asc_cons (lay_layer_walk_2_ok ok n) <| asc_nil)
/-! ### pendulum/lay.depths -/
abbrev lay_depths_2_ins : Sh := ⟨[(.one (.val ty19)), (.one .nilmap)], []⟩
abbrev lay_depths_2_outs : List Sh := [⟨[(.tup [(false, [(.map 0)]), (false, [(.val .bool)])])], [(.map .str (.int .i64) false)]⟩]
abbrev lay_depths_2_l5_h : Sh := ⟨[(.one (.val ty19)), (.one .nilmap), (.one (.map 0)), (.one (.val (.int .i64))), (.one (.val (.int .i64))), (.one (.val ty19)), (.one (.val (.int .i64))), (.one (.val (.int .i64)))], [(.map .str (.int .i64) false)]⟩
abbrev lay_depths_2_l5_o : List Out := [⟨(.exit 2), [0, 1, 6, 14, 15], ⟨[(.one (.val ty19)), (.one .nilmap), (.one (.map 0)), (.one (.val (.int .i64))), (.one (.val (.int .i64)))], [(.map .str (.int .i64) false)]⟩⟩]
def lay_depths_2_l5 (n : Nat) : Nat → lay_depths_2_l5_h.T → Option (OutT lay_depths_2_l5_o)
  | 0, _ => none
  | k + 1, ((x1, _, _, x2, x3, x4, x5, x6, _), (m7, _)) =>
    if decide (x6 < x5) then
      if 0 ≤ x6 ∧ x6 < (x4.length : Int) then
        none
      else
        none
    else
      some (.inl ((x1, (), (), x2, x3, ()), (m7, ())))
abbrev lay_depths_2_l3_h : Sh := ⟨[(.one (.val ty19)), (.one .nilmap), (.one (.map 0)), (.one (.val (.int .i64))), (.one (.val (.int .i64)))], [(.map .str (.int .i64) false)]⟩
abbrev lay_depths_2_l3_o : List Out := [⟨(.exit 0), [0, 6], ⟨[(.one (.val ty19)), (.one (.map 0))], [(.map .str (.int .i64) false)]⟩⟩]
def lay_depths_2_l3 (n : Nat) : Nat → lay_depths_2_l3_h.T → Option (OutT lay_depths_2_l3_o)
  | 0, _ => none
  | k + 1, ((x1, _, _, x2, x3, _), (m4, _)) =>
    if decide (x3 < x2) then
      match lay_depths_2_l5 n n ((x1, (), (), x2, x3, x1, (x1.length : Int), 0, ()), (m4, ())) with
      | some (.inl ((x5, _, _, x6, x7, _), (m8, _))) => (
        let v9 : Int := IntKind.i64.wrap (x7 + 1)
        lay_depths_2_l3 n k ((x5, (), (), x6, v9, ()), (m8, ())))
      | some (.inr (_)) => none
      | none => none
    else
      some (.inl ((x1, (), ()), (m4, ())))
def lay_depths_2 : Nat → lay_depths_2_ins.T → Option (OutsT lay_depths_2_outs)
  | 0, _ => none
  | n + 1, ((x1, _, _), _) =>
    match lay_depths_2_l3 n n ((x1, (), (), (x1.length : Int), 0, ()), ([], ())) with
    | some (.inl ((x2, _, _), (m3, _))) => (
      some (((((), ()), ((m3.length : Int) == (x2.length : Int), ()), ()), ()), (m3, ())))
    | some (.inr (_)) => none
    | none => none
def lay_depths_2_H (n : Nat) : Hints := ⟨[], fun _ => [], fun k => match k with | 5 => some ⟨[0, 1, 6, 14, 15, 17, 18, 19], lay_depths_2_l5_h, lay_depths_2_l5_o, lay_depths_2_l5 n⟩ | 3 => some ⟨[0, 1, 6, 14, 15], lay_depths_2_l3_h, lay_depths_2_l3_o, lay_depths_2_l3 n⟩ | _ => none, fun _ => none, fun _ => none⟩
def lay_depths_2_O (n : Nat) : FuncId → List FSpec := asc []
theorem lay_depths_2_l3_k0 (n : Nat) : LoopOk P CC (lay_depths_2_O n) n 0 58 (lay_depths_2_H n) ⟨[0, 1, 6, 14, 15], lay_depths_2_l3_h, lay_depths_2_l3_o, lay_depths_2_l3 n⟩ ((loopsOf b51).getD 0 .skip) := by
  refine ⟨fun _ => by kernel_rfl, ?_⟩
  rintro k ⟨⟨x1, ⟨⟩, ⟨⟩, x2, x3, ⟨⟩⟩, ⟨x4, ⟨⟩⟩⟩
  kernel_rfl
theorem lay_depths_2_l5_k1 (n : Nat) : LoopOk P CC (lay_depths_2_O n) n 0 58 (lay_depths_2_H n) ⟨[0, 1, 6, 14, 15, 17, 18, 19], lay_depths_2_l5_h, lay_depths_2_l5_o, lay_depths_2_l5 n⟩ ((loopsOf b51).getD 1 .skip) := by
  refine ⟨fun _ => by kernel_rfl, ?_⟩
  rintro k ⟨⟨x1, ⟨⟩, ⟨⟩, x2, x3, x4, x5, x6, ⟨⟩⟩, ⟨x7, ⟨⟩⟩⟩
  kernel_rfl
theorem lay_depths_2_ok {S : Nat → Addr} (ok : CfgOk P CC S) : ∀ n, SpecOk P CC S 51 ⟨lay_depths_2_ins, lay_depths_2_outs, lay_depths_2 n⟩ :=
  fn_all ok (O := lay_depths_2_O) (H := lay_depths_2_H) (fn := Tryd.f51) (body := b51) (by kernel_rfl) (by kernel_rfl) (by kernel_rfl) (by decide) (by kernel_rfl)
    (fun x => by kernel_rfl) (fun n => by
      rintro ⟨⟨x1, ⟨⟩, ⟨⟩⟩, ⟨⟩⟩
      kernel_rfl)
    (fun n => obl_of (by kernel_rfl) (by kernel_rfl) (ln (ls (ls (lz) (by kernel_rfl) (lay_depths_2_l3_k0 n)) (by kernel_rfl) (lay_depths_2_l5_k1 n)) (by kernel_rfl)) (cn (cn (cn (cn (cn (cn (cn (cn (cn (cn (cn (cn (cn (cn (cn (cn (cn (cn (cn (cn (cn (cn (cn (cn (cz) (by kernel_rfl)) (by kernel_rfl)) (by kernel_rfl)) (by kernel_rfl)) (by kernel_rfl)) (by kernel_rfl)) (by kernel_rfl)) (by kernel_rfl)) (by kernel_rfl)) (by kernel_rfl)) (by kernel_rfl)) (by kernel_rfl)) (by kernel_rfl)) (by kernel_rfl)) (by kernel_rfl)) (by kernel_rfl)) (by kernel_rfl)) (by kernel_rfl)) (by kernel_rfl)) (by kernel_rfl)) (by kernel_rfl)) (by kernel_rfl)) (by kernel_rfl)) (by kernel_rfl)) (hn fun _ => rfl))
    (fun n ih => asc_nil)
/-! ### (*pendulum/lay.layer).walk -/
abbrev lay_layer_walk_3_ins : Sh := ⟨[(.one (.ptr 0 0)), (.one (.val .str)), (.one (.val .str))], [(.obj 83 [.nilmap, (.emp true), (.map 1), (.val (.int .i64))]), (.map .str (.int .i64) false)]⟩
abbrev lay_layer_walk_3_outs : List Sh := [⟨[(.one (.val .err))], [(.obj 83 [.nilmap, (.emp true), (.map 1), (.val (.int .i64))]), (.map .str (.int .i64) false)]⟩]
def lay_layer_walk_3 : Nat → lay_layer_walk_3_ins.T → Option (OutsT lay_layer_walk_3_outs)
  | 0, _ => none
  | n + 1, ((_, x1, x2, _), ((_, _, _, x3, _), m4, _)) =>
    let v5 : Int := IntKind.i64.wrap (x3 + 1)
    if decide (v5 > 512) then (
      some ((ErrV.sent 103, ()), (((), (), (), v5, ()), m4, ()))) else none
def lay_layer_walk_3_H (n : Nat) : Hints := ⟨[], fun _ => [], fun _ => none, fun _ => none, fun _ => none⟩
def lay_layer_walk_3_O (n : Nat) : FuncId → List FSpec := asc []
theorem lay_layer_walk_3_ok {S : Nat → Addr} (ok : CfgOk P CC S) : ∀ n, SpecOk P CC S 52 ⟨lay_layer_walk_3_ins, lay_layer_walk_3_outs, lay_layer_walk_3 n⟩ :=
  fn_all ok (O := lay_layer_walk_3_O) (H := lay_layer_walk_3_H) (fn := Tryd.f52) (body := b52) (by kernel_rfl) (by kernel_rfl) (by kernel_rfl) (by decide) (by kernel_rfl)
    (fun x => by kernel_rfl) (fun n => by
      rintro ⟨⟨⟨⟩, x1, x2, ⟨⟩⟩, ⟨⟨⟨⟩, ⟨⟩, ⟨⟩, x3, ⟨⟩⟩, x4, ⟨⟩⟩⟩
      kernel_rfl)
    (fun n => obl_of (by kernel_rfl) (by kernel_rfl) (ln (ln (lz) (by kernel_rfl)) (by kernel_rfl)) (cn (cn (cn (cn (cn (cn (cn (cn (cn (cn (cn (cn (cn (cn (cn (cn (cn (cn (cn (cn (cn (cn (cn (cn (cn (cn (cn (cn (cz) (by kernel_rfl)) (by kernel_rfl)) (by kernel_rfl)) (by kernel_rfl)) (by kernel_rfl)) (by kernel_rfl)) (by kernel_rfl)) (by kernel_rfl)) (by kernel_rfl)) (by kernel_rfl)) (by kernel_rfl)) (by kernel_rfl)) (by kernel_rfl)) (by kernel_rfl)) (by kernel_rfl)) (by kernel_rfl)) (by kernel_rfl)) (by kernel_rfl)) (by kernel_rfl)) (by kernel_rfl)) (by kernel_rfl)) (by kernel_rfl)) (by kernel_rfl)) (by kernel_rfl)) (by kernel_rfl)) (by kernel_rfl)) (by kernel_rfl)) (by kernel_rfl)) (hn fun _ => rfl))
    (fun n ih => asc_nil)
/-! ### pendulum/lay.all -/
abbrev lay_all_ins : Sh := ⟨[(.one (.val .str)), (.one (.val ty22))], []⟩
abbrev lay_all_outs : List Sh := [⟨[(.tup [(false, [(.ptr 0 0)]), (false, [(.val .err)])])], [(.obj 83 [(.map 1), (.arr 2), (.map 3), (.val (.int .i64))]), (.map .str ty10 true), (.arr 121 ty0), (.map .str (.int .i64) false)]⟩, ⟨[(.tup [(false, [(.ptr 0 0)]), (false, [(.val .err)])])], [(.obj 83 [.nilmap, (.emp true), (.map 1), (.val (.int .i64))]), (.map .str (.int .i64) false)]⟩, ⟨[(.tup [(false, [.nilp]), (false, [(.val .err)])])], []⟩]
def lay_all : Nat → lay_all_ins.T → Option (OutsT lay_all_outs)
  | 0, _ => none
  | n + 1, ((x1, x2, _), _) =>
    match lay_Uses n ((x1, x2, ()), ()) with
    | some ((((_, _), (x3, _), _), _), (l4, _)) => (
      if !(errNil x3) then
        some (.inr (.inr ((((((), ()), (x3, ()), ()), ()), ()))))
      else
        match lay_named n ((x2, ()), ()) with
        | some (.inl ((((_, _), (x5, _), _), _), (m6, _))) => (
          if !(errNil x5) then
            some (.inr (.inr ((((((), ()), (x5, ()), ()), ()), ()))))
          else
            match lay_depths n ((l4, (), ()), (m6, ())) with
            | some ((((_, _), (x8, _), _), _), (m9, m10, _)) => (
              if !x8 then
                some (.inr (.inr ((((((), ()), (ErrV.sent 113, ()), ()), ()), ()))))
              else
                let v11 : Int := (mfind (keyEq (.str : Ty)) x1 m10).getD 0
                if decide (v11 > 8) then
                  some (.inr (.inr ((((((), ()), (ErrV.sent 108, ()), ()), ()), ()))))
                else
                  match lay_layer_walk n (((), x1, (⟨#[]⟩ : ByteArray), ()), (((), (), (), 0, ()), m9, [], ())) with
                  | some ((x12, _), ((_, _, _, x13, _), m14, m15, l16, _)) => (
                    if !(errNil x12) then
                      some (.inr (.inr ((((((), ()), (x12, ()), ()), ()), ()))))
                    else
                      some (.inl (((((), ()), (ErrV.nil, ()), ()), ()), (((), (), (), x13, ()), m14, l16, m15, ()))))
                  | none => none)
            | none => none)
        | some (.inr (((((_, _), (x7, _), _), _), _))) => (
          if !(errNil x7) then
            some (.inr (.inr ((((((), ()), (x7, ()), ()), ()), ()))))
          else
            match lay_depths_2 n ((l4, (), ()), ()) with
            | some ((((_, _), (x17, _), _), _), (m18, _)) => (
              if !x17 then
                some (.inr (.inr ((((((), ()), (ErrV.sent 113, ()), ()), ()), ()))))
              else
                let v19 : Int := (mfind (keyEq (.str : Ty)) x1 m18).getD 0
                if decide (v19 > 8) then
                  some (.inr (.inr ((((((), ()), (ErrV.sent 108, ()), ()), ()), ()))))
                else
                  match lay_layer_walk_3 n (((), x1, (⟨#[]⟩ : ByteArray), ()), (((), (), (), 0, ()), [], ())) with
                  | some ((x20, _), ((_, _, _, x21, _), m22, _)) => (
                    if !(errNil x20) then
                      some (.inr (.inr ((((((), ()), (x20, ()), ()), ()), ()))))
                    else
                      some (.inr (.inl (((((), ()), (ErrV.nil, ()), ()), ()), (((), (), (), x21, ()), m22, ())))))
                  | none => none)
            | none => none)
        | none => none)
    | none => none
def lay_all_H (n : Nat) : Hints := ⟨[], fun _ => [], fun _ => none, fun _ => none, fun _ => none⟩
def lay_all_O (n : Nat) : FuncId → List FSpec := asc [(15, ⟨lay_Uses_ins, lay_Uses_outs, lay_Uses n⟩), (33, ⟨lay_named_ins, lay_named_outs, lay_named n⟩), (51, ⟨lay_depths_ins, lay_depths_outs, lay_depths n⟩), (51, ⟨lay_depths_2_ins, lay_depths_2_outs, lay_depths_2 n⟩), (52, ⟨lay_layer_walk_ins, lay_layer_walk_outs, lay_layer_walk n⟩), (52, ⟨lay_layer_walk_3_ins, lay_layer_walk_3_outs, lay_layer_walk_3 n⟩)]
def b32 : Code := bodyOf Tryd.f32
theorem lay_all_ok {S : Nat → Addr} (ok : CfgOk P CC S) : ∀ n, SpecOk P CC S 32 ⟨lay_all_ins, lay_all_outs, lay_all n⟩ :=
  fn_all ok (O := lay_all_O) (H := lay_all_H) (fn := Tryd.f32) (body := b32) (by kernel_rfl) (by kernel_rfl) (by kernel_rfl) (by decide) (by kernel_rfl)
    (fun x => by kernel_rfl) (fun n => by
      rintro ⟨⟨x1, x2, ⟨⟩⟩, ⟨⟩⟩
      kernel_rfl)
    (fun n => obl_of (by kernel_rfl) (by kernel_rfl) (lz) (cn (cn (cn (cn (cn (cn (cn (cn (cn (cn (cn (cn (cn (cn (cn (cn (cn (cn (cn (cn (cn (cz) (by kernel_rfl)) (by kernel_rfl)) (by kernel_rfl)) (by kernel_rfl)) (by kernel_rfl)) (by kernel_rfl)) (by kernel_rfl)) (by kernel_rfl)) (by kernel_rfl)) (by kernel_rfl)) (by kernel_rfl)) (by kernel_rfl)) (by kernel_rfl)) (by kernel_rfl)) (by kernel_rfl)) (by kernel_rfl)) (by kernel_rfl)) (by kernel_rfl)) (by kernel_rfl)) (by kernel_rfl)) (by kernel_rfl)) (hn fun _ => rfl))
    (fun n ih => asc_cons (lay_Uses_ok ok n) <| asc_cons (lay_named_ok ok n) <| asc_cons (lay_depths_ok ok n) <| asc_cons (lay_depths_2_ok ok n) <| asc_cons (lay_layer_walk_ok ok n) <| asc_cons (lay_layer_walk_3_ok ok n) <| asc_nil)
/-! ### pendulum/lay.Of -/
abbrev lay_Of_ins : Sh := ⟨[(.one (.val .str)), (.one (.val ty22))], []⟩
abbrev lay_Of_outs : List Sh := [⟨[(.tup [(false, [(.arr 0)]), (false, [(.val .err)])])], [(.arr 121 ty0)]⟩]
def lay_Of : Nat → lay_Of_ins.T → Option (OutsT lay_Of_outs)
  | 0, _ => none
  | n + 1, ((x1, x2, _), _) =>
    match lay_all n ((x1, x2, ()), ()) with
    | some (.inl ((((_, _), (x3, _), _), _), ((_, _, _, x4, _), m5, l6, m7, _))) => (
      if !(errNil x3) then
        some (((((), ()), (x3, ()), ()), ()), ([], ()))
      else
        some (((((), ()), (ErrV.nil, ()), ()), ()), (l6, ())))
    | some (.inr (.inl ((((_, _), (x8, _), _), _), ((_, _, _, x9, _), m10, _)))) => (
      if !(errNil x8) then
        some (((((), ()), (x8, ()), ()), ()), ([], ()))
      else
        some (((((), ()), (ErrV.nil, ()), ()), ()), ([], ())))
    | some (.inr (.inr (((((_, _), (x11, _), _), _), _)))) => (
      if !(errNil x11) then (
        some (((((), ()), (x11, ()), ()), ()), ([], ()))) else none)
    | none => none
def lay_Of_H (n : Nat) : Hints := ⟨[], fun _ => [], fun _ => none, fun _ => none, fun _ => none⟩
def lay_Of_O (n : Nat) : FuncId → List FSpec := asc [(32, ⟨lay_all_ins, lay_all_outs, lay_all n⟩)]
def b14 : Code := bodyOf Tryd.f14
theorem lay_Of_ok {S : Nat → Addr} (ok : CfgOk P CC S) : ∀ n, SpecOk P CC S 14 ⟨lay_Of_ins, lay_Of_outs, lay_Of n⟩ :=
  fn_all ok (O := lay_Of_O) (H := lay_Of_H) (fn := Tryd.f14) (body := b14) (by kernel_rfl) (by kernel_rfl) (by kernel_rfl) (by decide) (by kernel_rfl)
    (fun x => by kernel_rfl) (fun n => by
      rintro ⟨⟨x1, x2, ⟨⟩⟩, ⟨⟩⟩
      kernel_rfl)
    (fun n => obl_of (by kernel_rfl) (by kernel_rfl) (lz) (cn (cn (cn (cn (cn (cn (cz) (by kernel_rfl)) (by kernel_rfl)) (by kernel_rfl)) (by kernel_rfl)) (by kernel_rfl)) (by kernel_rfl)) (hn fun _ => rfl))
    (fun n ih => asc_cons (lay_all_ok ok n) <| asc_nil)
/-! ### slices.Clone[[]int,int] -/
abbrev slices_Clone_int_int_raw_ins : Sh := ⟨[(.one (.val ty5))], []⟩
abbrev slices_Clone_int_int_raw_outs : List Sh := [⟨[(.one (.arr 0))], [(.arr 3 (.int .i64))]⟩]
def slices_Clone_int_int_raw : Nat → slices_Clone_int_int_raw_ins.T → Option (OutsT slices_Clone_int_int_raw_outs)
  | 0, _ => none
  | n + 1, ((x1, _), _) =>
    if (x1.isEmpty || (Ty.size ((.int .i64) : Ty) == 0)) = true then
      both fun b2 =>
        if b2 then
          some (((), ()), ([], ()))
        else
          if (([] : List ((.int .i64) : Ty).T).length + x1.length) * 8 ≤ 140737488355328 then (
            some (((), ()), ([] ++ x1, ()))) else none
    else
      if (([] : List ((.int .i64) : Ty).T).length + x1.length) * 8 ≤ 140737488355328 then (
        some (((), ()), ([] ++ x1, ()))) else none
def slices_Clone_int_int_raw_H (n : Nat) : Hints := ⟨[], fun _ => [], fun _ => none, fun _ => none, fun _ => none⟩
def slices_Clone_int_int_raw_O (n : Nat) : FuncId → List FSpec := asc []
def b35 : Code := bodyOf Tryd.f35
theorem slices_Clone_int_int_raw_ok {S : Nat → Addr} (ok : CfgOk P CC S) : ∀ n, SpecOk P CC S 35 ⟨slices_Clone_int_int_raw_ins, slices_Clone_int_int_raw_outs, slices_Clone_int_int_raw n⟩ :=
  fn_all ok (O := slices_Clone_int_int_raw_O) (H := slices_Clone_int_int_raw_H) (fn := Tryd.f35) (body := b35) (by kernel_rfl) (by kernel_rfl) (by kernel_rfl) (by decide) (by kernel_rfl)
    (fun x => by kernel_rfl) (fun n => by
      rintro ⟨⟨x1, ⟨⟩⟩, ⟨⟩⟩
      kernel_rfl)
    (fun n => obl_of (by kernel_rfl) (by kernel_rfl) (lz) (cn (cn (cn (cn (cn (cz) (by kernel_rfl)) (by kernel_rfl)) (by kernel_rfl)) (by kernel_rfl)) (by kernel_rfl)) (hn fun _ => rfl))
    (fun n ih => asc_nil)
abbrev slices_Clone_int_int_ins : Sh := slices_Clone_int_int_raw_ins
abbrev slices_Clone_int_int_outs : List Sh := slices_Clone_int_int_raw_outs
def slices_Clone_int_int : Nat → slices_Clone_int_int_ins.T → Option (OutsT slices_Clone_int_int_outs)
  | 0, _ => none
  | n + 1, ((x1, _), _) => if (([] : List ((.int .i64) : Ty).T).length + x1.length) * 8 ≤ 140737488355328 then (some (((), ()), (x1, ()))) else none
theorem slices_Clone_int_int_ok {S : Nat → Addr} (ok : CfgOk P CC S) : ∀ n, SpecOk P CC S 35 ⟨slices_Clone_int_int_ins, slices_Clone_int_int_outs, slices_Clone_int_int n⟩ := fun n => (slices_Clone_int_int_raw_ok ok n).weaken fun x y h => by
  cases n with
  | zero => cases h
  | succ n =>
    obtain ⟨⟨x1, ⟨⟩⟩, ⟨⟩⟩ := x
    simp only [slices_Clone_int_int] at h
    split at h
    · rename_i hc
      cases h
      simp only [slices_Clone_int_int_raw]
      split
      · rename_i he
        have h0 : x1 = [] := by simpa [Ty.size] using he
        subst h0
        exact both_same rfl rfl
      · first | rfl | (rw [if_pos hc]; rfl)
    · cases h
/-! ### pendulum/obj.Face -/
abbrev obj_Face_ins : Sh := ⟨[(.agg [(.val .str), (.val ty5), (.val ty5), (.val (.int .i64)), (.val ty15), (.val ty17), (.val ty18)])], []⟩
abbrev obj_Face_outs : List Sh := [⟨[(.agg [(.val .str), (.arr 0), (.arr 1)])], [(.arr 3 (.int .i64)), (.arr 3 (.int .i64))]⟩]
def obj_Face : Nat → obj_Face_ins.T → Option (OutsT obj_Face_outs)
  | 0, _ => none
  | n + 1, (((x1, x2, x3, x4, x5, x6, x7, _), _), _) =>
    match slices_Clone_int_int n ((x2, ()), ()) with
    | some ((_, _), (l8, _)) => (
      match slices_Clone_int_int n ((x3, ()), ()) with
      | some ((_, _), (l9, _)) => (
        some (((x1, (), (), ()), ()), (l8, l9, ())))
      | none => none)
    | none => none
def obj_Face_H (n : Nat) : Hints := ⟨[], fun _ => [], fun _ => none, fun _ => none, fun _ => none⟩
def obj_Face_O (n : Nat) : FuncId → List FSpec := asc [(35, ⟨slices_Clone_int_int_ins, slices_Clone_int_int_outs, slices_Clone_int_int n⟩)]
def b16 : Code := bodyOf Tryd.f16
theorem obj_Face_ok {S : Nat → Addr} (ok : CfgOk P CC S) : ∀ n, SpecOk P CC S 16 ⟨obj_Face_ins, obj_Face_outs, obj_Face n⟩ :=
  fn_all ok (O := obj_Face_O) (H := obj_Face_H) (fn := Tryd.f16) (body := b16) (by kernel_rfl) (by kernel_rfl) (by kernel_rfl) (by decide) (by kernel_rfl)
    (fun x => by kernel_rfl) (fun n => by
      rintro ⟨⟨⟨x1, x2, x3, x4, x5, x6, x7, ⟨⟩⟩, ⟨⟩⟩, ⟨⟩⟩
      kernel_rfl)
    (fun n => obl_of (by kernel_rfl) (by kernel_rfl) (lz) (cn (cn (cz) (by kernel_rfl)) (by kernel_rfl)) (hn fun _ => rfl))
    (fun n ih => asc_cons (slices_Clone_int_int_ok ok n) <| asc_nil)
/-! ### pendulum/verify.shape -/
abbrev verify_shape_2_ins : Sh := ⟨[(.agg [(.val .str), (.val ty5), (.val ty5), (.val (.int .i64)), (.val ty15), (.val ty17), (.val ty18)])], []⟩
abbrev verify_shape_2_outs : List Sh := [⟨[(.one (.val .bool))], []⟩]
abbrev verify_shape_2_l7_h : Sh := ⟨[(.one (.ptr 0 0)), (.one (.arr 1)), (.one (.emp true)), (.one (.val ty15)), (.one (.val (.int .i64))), (.one (.val (.int .i64)))], [(.obj 34 [(.val .str), (.val ty5), (.val ty5), (.val (.int .i64)), (.val ty15), (.val ty17), (.val ty18)]), (.arr 9 .str)]⟩
abbrev verify_shape_2_l7_o : List Out := [⟨(.exit 0), [1, 3, 4], ⟨[(.one (.ptr 0 0)), (.one (.arr 1)), (.one (.emp true))], [(.obj 34 [(.val .str), (.val ty5), (.val ty5), (.val (.int .i64)), (.val ty15), (.val ty17), (.val ty18)]), (.arr 9 .str)]⟩⟩, ⟨.ret, [2], ⟨[(.one (.val .bool))], []⟩⟩]
def verify_shape_2_l7 (n : Nat) : Nat → verify_shape_2_l7_h.T → Option (OutT verify_shape_2_l7_o)
  | 0, _ => none
  | k + 1, ((_, _, _, x1, x2, x3, _), ((x4, x5, x6, x7, x8, x9, x10, _), l11, _)) =>
    if decide (x3 < x2) then
      if 0 ≤ x3 ∧ x3 < (x1.length : Int) then (
        match verify_kind n ((((rdT ty0 x1 x3).2).1, ()), ()) with
        | some ((x12, _), _) => (
          if x12 then
            some (.inr (.inl ((false, ()), ())))
          else
            if ((rdT ty0 x1 x3).2).1 == 2 then
              if ((rdT ty0 x1 x3).2).2 != 0 then
                if ((rdT ty0 x1 x3).2).2 != 1 then
                  some (.inr (.inl ((false, ()), ())))
                else
                  if (l11.length + ([(rdT ty0 x1 x3).1] : List (.str : Ty).T).length) * 16 ≤ 140737488355328 then (
                    let v13 : Int := IntKind.i64.wrap (x3 + 1)
                    verify_shape_2_l7 n k (((), (), (), x1, x2, v13, ()), ((x4, x5, x6, x7, x8, x9, x10, ()), l11 ++ [(rdT ty0 x1 x3).1], ()))) else none
              else
                if (l11.length + ([(rdT ty0 x1 x3).1] : List (.str : Ty).T).length) * 16 ≤ 140737488355328 then (
                  let v14 : Int := IntKind.i64.wrap (x3 + 1)
                  verify_shape_2_l7 n k (((), (), (), x1, x2, v14, ()), ((x4, x5, x6, x7, x8, x9, x10, ()), l11 ++ [(rdT ty0 x1 x3).1], ()))) else none
            else
              if (l11.length + ([(rdT ty0 x1 x3).1] : List (.str : Ty).T).length) * 16 ≤ 140737488355328 then (
                let v15 : Int := IntKind.i64.wrap (x3 + 1)
                verify_shape_2_l7 n k (((), (), (), x1, x2, v15, ()), ((x4, x5, x6, x7, x8, x9, x10, ()), l11 ++ [(rdT ty0 x1 x3).1], ()))) else none)
        | none => none) else none
    else
      some (.inl (((), (), (), ()), ((x4, x5, x6, x7, x8, x9, x10, ()), l11, ())))
abbrev verify_shape_2_l14_h : Sh := ⟨[(.one (.arr 0)), (.one (.arr 1)), (.one (.val ty20)), (.one (.val (.int .i64))), (.one (.val (.int .i64)))], [(.arr 9 .str), (.arr 9 .str)]⟩
abbrev verify_shape_2_l14_o : List Out := [⟨(.exit 2), [3, 4], ⟨[(.one (.arr 0)), (.one (.arr 1))], [(.arr 9 .str), (.arr 9 .str)]⟩⟩]
def verify_shape_2_l14 (n : Nat) : Nat → verify_shape_2_l14_h.T → Option (OutT verify_shape_2_l14_o)
  | 0, _ => none
  | k + 1, ((_, _, x1, x2, x3, _), (l4, l5, _)) =>
    if decide (x3 < x2) then
      if 0 ≤ x3 ∧ x3 < (x1.length : Int) then (
        if (l5.length + ([(rdT ty2 x1 x3).1] : List (.str : Ty).T).length) * 16 ≤ 140737488355328 then (
          let v6 : Int := IntKind.i64.wrap (x3 + 1)
          verify_shape_2_l14 n k (((), (), x1, x2, v6, ()), (l4, l5 ++ [(rdT ty2 x1 x3).1], ()))) else none) else none
    else
      some (.inl (((), (), ()), (l4, l5, ())))
def verify_shape_2 : Nat → verify_shape_2_ins.T → Option (OutsT verify_shape_2_outs)
  | 0, _ => none
  | n + 1, (((x1, x2, x3, x4, x5, x6, x7, _), _), _) =>
    if decide (x4 > 1024) then
      some ((false, ()), ())
    else
      if decide ((x2.length : Int) > x4) then
        some ((false, ()), ())
      else
        let v8 : Int := IntKind.i64.wrap (x4 - (x2.length : Int))
        if decide ((x3.length : Int) > v8) then
          some ((false, ()), ())
        else
          match slices_ContainsFunc_int_int n ((x2, (), ()), ()) with
          | some ((x9, _), _) => (
            if x9 then
              some ((false, ()), ())
            else
              match slices_ContainsFunc_int_int n ((x3, (), ()), ()) with
              | some ((x10, _), _) => (
                if x10 then
                  some ((false, ()), ())
                else
                  match verify_shape_2_l7 n n (((), (), (), x5, (x5.length : Int), 0, ()), ((x1, x2, x3, x4, x5, x6, x7, ()), [], ())) with
                  | some (.inl ((_, _, _, _), ((x11, x12, x13, x14, x15, x16, x17, _), l18, _))) => (
                    match verify_shape_2_l14 n n (((), (), x16.2, (x16.2.length : Int), 0, ()), (l18, [], ())) with
                    | some (.inl ((_, _, _), (l20, l21, _))) => (
                      match verify_twice n ((l20, ()), ()) with
                      | some ((x22, _), _) => (
                        if !x22 then
                          match verify_twice n ((l21, ()), ()) with
                          | some ((x23, _), _) => (
                            some ((!x23, ()), ()))
                          | none => none
                        else
                          some ((false, ()), ()))
                      | none => none)
                    | some (.inr (_)) => none
                    | none => none)
                  | some (.inr (.inl ((x19, _), _))) => (
                    some ((x19, ()), ()))
                  | some (.inr (.inr (_))) => none
                  | none => none)
              | none => none)
          | none => none
def verify_shape_2_H (n : Nat) : Hints := ⟨[], fun _ => [], fun k => match k with | 7 => some ⟨[1, 3, 4, 41, 42, 43], verify_shape_2_l7_h, verify_shape_2_l7_o, verify_shape_2_l7 n⟩ | 14 => some ⟨[3, 4, 72, 73, 74], verify_shape_2_l14_h, verify_shape_2_l14_o, verify_shape_2_l14 n⟩ | _ => none, fun _ => none, fun _ => none⟩
def verify_shape_2_O (n : Nat) : FuncId → List FSpec := asc [(46, ⟨slices_ContainsFunc_int_int_ins, slices_ContainsFunc_int_int_outs, slices_ContainsFunc_int_int n⟩), (47, ⟨verify_kind_ins, verify_kind_outs, verify_kind n⟩), (48, ⟨verify_twice_ins, verify_twice_outs, verify_twice n⟩)]
theorem verify_shape_2_l7_k0 (n : Nat) : LoopOk P CC (verify_shape_2_O n) n 0 92 (verify_shape_2_H n) ⟨[1, 3, 4, 41, 42, 43], verify_shape_2_l7_h, verify_shape_2_l7_o, verify_shape_2_l7 n⟩ ((loopsOf b26).getD 0 .skip) := by
  refine ⟨fun _ => by kernel_rfl, ?_⟩
  rintro k ⟨⟨⟨⟩, ⟨⟩, ⟨⟩, x1, x2, x3, ⟨⟩⟩, ⟨⟨x4, x5, x6, x7, x8, x9, x10, ⟨⟩⟩, x11, ⟨⟩⟩⟩
  kernel_rfl
theorem verify_shape_2_l14_k1 (n : Nat) : LoopOk P CC (verify_shape_2_O n) n 0 92 (verify_shape_2_H n) ⟨[3, 4, 72, 73, 74], verify_shape_2_l14_h, verify_shape_2_l14_o, verify_shape_2_l14 n⟩ ((loopsOf b26).getD 1 .skip) := by
  refine ⟨fun _ => by kernel_rfl, ?_⟩
  rintro k ⟨⟨⟨⟩, ⟨⟩, x1, x2, x3, ⟨⟩⟩, ⟨x4, x5, ⟨⟩⟩⟩
  kernel_rfl
theorem verify_shape_2_ok {S : Nat → Addr} (ok : CfgOk P CC S) : ∀ n, SpecOk P CC S 26 ⟨verify_shape_2_ins, verify_shape_2_outs, verify_shape_2 n⟩ :=
  fn_all ok (O := verify_shape_2_O) (H := verify_shape_2_H) (fn := Tryd.f26) (body := b26) (by kernel_rfl) (by kernel_rfl) (by kernel_rfl) (by decide) (by kernel_rfl)
    (fun x => by kernel_rfl) (fun n => by
      rintro ⟨⟨⟨x1, x2, x3, x4, x5, x6, x7, ⟨⟩⟩, ⟨⟩⟩, ⟨⟩⟩
      kernel_rfl)
    (fun n => obl_of (by kernel_rfl) (by kernel_rfl) (ls (ls (lz) (by kernel_rfl) (verify_shape_2_l7_k0 n)) (by kernel_rfl) (verify_shape_2_l14_k1 n)) (cn (cn (cn (cn (cn (cn (cn (cn (cn (cn (cn (cn (cn (cn (cn (cn (cn (cn (cn (cn (cn (cn (cn (cn (cz) (by kernel_rfl)) (by kernel_rfl)) (by kernel_rfl)) (by kernel_rfl)) (by kernel_rfl)) (by kernel_rfl)) (by kernel_rfl)) (by kernel_rfl)) (by kernel_rfl)) (by kernel_rfl)) (by kernel_rfl)) (by kernel_rfl)) (by kernel_rfl)) (by kernel_rfl)) (by kernel_rfl)) (by kernel_rfl)) (by kernel_rfl)) (by kernel_rfl)) (by kernel_rfl)) (by kernel_rfl)) (by kernel_rfl)) (by kernel_rfl)) (by kernel_rfl)) (by kernel_rfl)) (hn fun _ => rfl))
    (fun n ih => asc_cons (slices_ContainsFunc_int_int_ok ok n) <| asc_cons (verify_kind_ok ok n) <| asc_cons (verify_twice_ok ok n) <| asc_nil)
/-! ### (*pendulum/verify.checker).regs$1 -/
abbrev verify_checker_regs_1_2_ins : Sh := ⟨[(.one (.val (.int .i64))), (.one (.ptr 0 0))], [(.obj 71 [(.ptr 1 0)]), (.obj 74 [(.val .str), (.val ty5), (.val ty5), (.val (.int .i64)), (.val ty15), (.val ty17), (.val ty18), (.arr 2), (.map 3)]), (.arr 56 ty3), (.map (.int .i64) (.int .i64) false)]⟩
abbrev verify_checker_regs_1_2_outs : List Sh := [⟨[(.one (.val .bool))], [(.obj 71 [(.ptr 1 0)]), (.obj 74 [(.val .str), (.val ty5), (.val ty5), (.val (.int .i64)), (.val ty15), (.val ty17), (.val ty18), (.arr 2), (.map 3)]), (.arr 56 ty3), (.map (.int .i64) (.int .i64) false)]⟩]
def verify_checker_regs_1_2 : Nat → verify_checker_regs_1_2_ins.T → Option (OutsT verify_checker_regs_1_2_outs)
  | 0, _ => none
  | n + 1, ((x1, _, _), ((_, _), (x2, x3, x4, x5, x6, x7, x8, _, _, _), l9, m10, _)) =>
    if decide (x1 < 0) then
      some ((true, ()), (((), ()), (x2, x3, x4, x5, x6, x7, x8, (), (), ()), l9, m10, ()))
    else
      some ((decide (x1 ≥ x5), ()), (((), ()), (x2, x3, x4, x5, x6, x7, x8, (), (), ()), l9, m10, ()))
def verify_checker_regs_1_2_H (n : Nat) : Hints := ⟨[], fun _ => [], fun _ => none, fun _ => none, fun _ => none⟩
def verify_checker_regs_1_2_O (n : Nat) : FuncId → List FSpec := asc []
theorem verify_checker_regs_1_2_ok {S : Nat → Addr} (ok : CfgOk P CC S) : ∀ n, SpecOk P CC S 84 ⟨verify_checker_regs_1_2_ins, verify_checker_regs_1_2_outs, verify_checker_regs_1_2 n⟩ :=
  fn_all ok (O := verify_checker_regs_1_2_O) (H := verify_checker_regs_1_2_H) (fn := Tryd.f84) (body := b84) (by kernel_rfl) (by kernel_rfl) (by kernel_rfl) (by decide) (by kernel_rfl)
    (fun x => by kernel_rfl) (fun n => by
      rintro ⟨⟨x1, ⟨⟩, ⟨⟩⟩, ⟨⟨⟨⟩, ⟨⟩⟩, ⟨x2, x3, x4, x5, x6, x7, x8, ⟨⟩, ⟨⟩, ⟨⟩⟩, x9, x10, ⟨⟩⟩⟩
      kernel_rfl)
    (fun n => obl_of (by kernel_rfl) (by kernel_rfl) (lz) (cn (cn (cz) (by kernel_rfl)) (by kernel_rfl)) (hn fun _ => rfl))
    (fun n ih => asc_nil)
/-! ### slices.IndexFunc[[]int,int] -/
abbrev slices_IndexFunc_int_int_3_ins : Sh := ⟨[(.one (.val ty5)), (.one (.fn 84 [0]))], [(.obj 71 [(.ptr 1 0)]), (.obj 74 [(.val .str), (.val ty5), (.val ty5), (.val (.int .i64)), (.val ty15), (.val ty17), (.val ty18), (.arr 2), (.map 3)]), (.arr 56 ty3), (.map (.int .i64) (.int .i64) false)]⟩
abbrev slices_IndexFunc_int_int_3_outs : List Sh := [⟨[(.one (.val (.int .i64)))], [(.obj 71 [(.ptr 1 0)]), (.obj 74 [(.val .str), (.val ty5), (.val ty5), (.val (.int .i64)), (.val ty15), (.val ty17), (.val ty18), (.arr 2), (.map 3)]), (.arr 56 ty3), (.map (.int .i64) (.int .i64) false)]⟩]
abbrev slices_IndexFunc_int_int_3_l2_h : Sh := ⟨[(.one (.val ty5)), (.one (.fn 84 [0])), (.one (.val (.int .i64))), (.one (.val (.int .i64)))], [(.obj 71 [(.ptr 1 0)]), (.obj 74 [(.val .str), (.val ty5), (.val ty5), (.val (.int .i64)), (.val ty15), (.val ty17), (.val ty18), (.arr 2), (.map 3)]), (.arr 56 ty3), (.map (.int .i64) (.int .i64) false)]⟩
abbrev slices_IndexFunc_int_int_3_l2_o : List Out := [⟨(.exit 0), [], ⟨[], [(.obj 71 [(.ptr 1 0)]), (.obj 74 [(.val .str), (.val ty5), (.val ty5), (.val (.int .i64)), (.val ty15), (.val ty17), (.val ty18), (.arr 2), (.map 3)]), (.arr 56 ty3), (.map (.int .i64) (.int .i64) false)]⟩⟩, ⟨.ret, [4], ⟨[(.one (.val (.int .i64)))], [(.obj 71 [(.ptr 1 0)]), (.obj 74 [(.val .str), (.val ty5), (.val ty5), (.val (.int .i64)), (.val ty15), (.val ty17), (.val ty18), (.arr 2), (.map 3)]), (.arr 56 ty3), (.map (.int .i64) (.int .i64) false)]⟩⟩]
def slices_IndexFunc_int_int_3_l2 (n : Nat) : Nat → slices_IndexFunc_int_int_3_l2_h.T → Option (OutT slices_IndexFunc_int_int_3_l2_o)
  | 0, _ => none
  | k + 1, ((x1, _, x2, x3, _), ((_, _), (x4, x5, x6, x7, x8, x9, x10, _, _, _), l11, m12, _)) =>
    if decide (x3 < x2) then
      if 0 ≤ x3 ∧ x3 < (x1.length : Int) then (
        let v13 : Int := rdT ((.int .i64) : Ty) x1 x3
        match verify_checker_regs_1_2 n ((v13, (), ()), (((), ()), (x4, x5, x6, x7, x8, x9, x10, (), (), ()), l11, m12, ())) with
        | some ((x14, _), ((_, _), (x15, x16, x17, x18, x19, x20, x21, _, _, _), l22, m23, _)) => (
          if x14 then
            some (.inr (.inl ((x3, ()), (((), ()), (x15, x16, x17, x18, x19, x20, x21, (), (), ()), l22, m23, ()))))
          else
            let v24 : Int := IntKind.i64.wrap (x3 + 1)
            slices_IndexFunc_int_int_3_l2 n k ((x1, (), x2, v24, ()), (((), ()), (x15, x16, x17, x18, x19, x20, x21, (), (), ()), l22, m23, ())))
        | none => none) else none
    else
      some (.inl ((), (((), ()), (x4, x5, x6, x7, x8, x9, x10, (), (), ()), l11, m12, ())))
def slices_IndexFunc_int_int_3 : Nat → slices_IndexFunc_int_int_3_ins.T → Option (OutsT slices_IndexFunc_int_int_3_outs)
  | 0, _ => none
  | n + 1, ((x1, _, _), ((_, _), (x2, x3, x4, x5, x6, x7, x8, _, _, _), l9, m10, _)) =>
    match slices_IndexFunc_int_int_3_l2 n n ((x1, (), (x1.length : Int), 0, ()), (((), ()), (x2, x3, x4, x5, x6, x7, x8, (), (), ()), l9, m10, ())) with
    | some (.inl (_, ((_, _), (x11, x12, x13, x14, x15, x16, x17, _, _, _), l18, m19, _))) => (
      some (((-1), ()), (((), ()), (x11, x12, x13, x14, x15, x16, x17, (), (), ()), l18, m19, ())))
    | some (.inr (.inl ((x20, _), ((_, _), (x21, x22, x23, x24, x25, x26, x27, _, _, _), l28, m29, _)))) => (
      some ((x20, ()), (((), ()), (x21, x22, x23, x24, x25, x26, x27, (), (), ()), l28, m29, ())))
    | some (.inr (.inr (_))) => none
    | none => none
def slices_IndexFunc_int_int_3_H (n : Nat) : Hints := ⟨[], fun _ => [], fun k => match k with | 2 => some ⟨[0, 1, 7, 8], slices_IndexFunc_int_int_3_l2_h, slices_IndexFunc_int_int_3_l2_o, slices_IndexFunc_int_int_3_l2 n⟩ | _ => none, fun _ => none, fun _ => none⟩
def slices_IndexFunc_int_int_3_O (n : Nat) : FuncId → List FSpec := asc [(84, ⟨verify_checker_regs_1_2_ins, verify_checker_regs_1_2_outs, verify_checker_regs_1_2 n⟩)]
theorem slices_IndexFunc_int_int_3_l2_k0 (n : Nat) : LoopOk P CC (slices_IndexFunc_int_int_3_O n) n 4 19 (slices_IndexFunc_int_int_3_H n) ⟨[0, 1, 7, 8], slices_IndexFunc_int_int_3_l2_h, slices_IndexFunc_int_int_3_l2_o, slices_IndexFunc_int_int_3_l2 n⟩ ((loopsOf b59).getD 0 .skip) := by
  refine ⟨fun _ => by kernel_rfl, ?_⟩
  rintro k ⟨⟨x1, ⟨⟩, x2, x3, ⟨⟩⟩, ⟨⟨⟨⟩, ⟨⟩⟩, ⟨x4, x5, x6, x7, x8, x9, x10, ⟨⟩, ⟨⟩, ⟨⟩⟩, x11, x12, ⟨⟩⟩⟩
  kernel_rfl
theorem slices_IndexFunc_int_int_3_ok {S : Nat → Addr} (ok : CfgOk P CC S) : ∀ n, SpecOk P CC S 59 ⟨slices_IndexFunc_int_int_3_ins, slices_IndexFunc_int_int_3_outs, slices_IndexFunc_int_int_3 n⟩ :=
  fn_all ok (O := slices_IndexFunc_int_int_3_O) (H := slices_IndexFunc_int_int_3_H) (fn := Tryd.f59) (body := b59) (by kernel_rfl) (by kernel_rfl) (by kernel_rfl) (by decide) (by kernel_rfl)
    (fun x => by kernel_rfl) (fun n => by
      rintro ⟨⟨x1, ⟨⟩, ⟨⟩⟩, ⟨⟨⟨⟩, ⟨⟩⟩, ⟨x2, x3, x4, x5, x6, x7, x8, ⟨⟩, ⟨⟩, ⟨⟩⟩, x9, x10, ⟨⟩⟩⟩
      kernel_rfl)
    (fun n => obl_of (by kernel_rfl) (by kernel_rfl) (ls (lz) (by kernel_rfl) (slices_IndexFunc_int_int_3_l2_k0 n)) (cn (cn (cn (cn (cn (cn (cn (cn (cn (cn (cz) (by kernel_rfl)) (by kernel_rfl)) (by kernel_rfl)) (by kernel_rfl)) (by kernel_rfl)) (by kernel_rfl)) (by kernel_rfl)) (by kernel_rfl)) (by kernel_rfl)) (by kernel_rfl)) (hn fun _ => rfl))
    (fun n ih => asc_cons (verify_checker_regs_1_2_ok ok n) <| asc_nil)
/-! ### slices.ContainsFunc[[]int,int] -/
abbrev slices_ContainsFunc_int_int_3_ins : Sh := ⟨[(.one (.val ty5)), (.one (.fn 84 [0]))], [(.obj 71 [(.ptr 1 0)]), (.obj 74 [(.val .str), (.val ty5), (.val ty5), (.val (.int .i64)), (.val ty15), (.val ty17), (.val ty18), (.arr 2), (.map 3)]), (.arr 56 ty3), (.map (.int .i64) (.int .i64) false)]⟩
abbrev slices_ContainsFunc_int_int_3_outs : List Sh := [⟨[(.one (.val .bool))], [(.obj 71 [(.ptr 1 0)]), (.obj 74 [(.val .str), (.val ty5), (.val ty5), (.val (.int .i64)), (.val ty15), (.val ty17), (.val ty18), (.arr 2), (.map 3)]), (.arr 56 ty3), (.map (.int .i64) (.int .i64) false)]⟩]
def slices_ContainsFunc_int_int_3 : Nat → slices_ContainsFunc_int_int_3_ins.T → Option (OutsT slices_ContainsFunc_int_int_3_outs)
  | 0, _ => none
  | n + 1, ((x1, _, _), ((_, _), (x2, x3, x4, x5, x6, x7, x8, _, _, _), l9, m10, _)) =>
    match slices_IndexFunc_int_int_3 n ((x1, (), ()), (((), ()), (x2, x3, x4, x5, x6, x7, x8, (), (), ()), l9, m10, ())) with
    | some ((x11, _), ((_, _), (x12, x13, x14, x15, x16, x17, x18, _, _, _), l19, m20, _)) => (
      some ((decide (x11 ≥ 0), ()), (((), ()), (x12, x13, x14, x15, x16, x17, x18, (), (), ()), l19, m20, ())))
    | none => none
def slices_ContainsFunc_int_int_3_H (n : Nat) : Hints := ⟨[], fun _ => [], fun _ => none, fun _ => none, fun _ => none⟩
def slices_ContainsFunc_int_int_3_O (n : Nat) : FuncId → List FSpec := asc [(59, ⟨slices_IndexFunc_int_int_3_ins, slices_IndexFunc_int_int_3_outs, slices_IndexFunc_int_int_3 n⟩)]
theorem slices_ContainsFunc_int_int_3_ok {S : Nat → Addr} (ok : CfgOk P CC S) : ∀ n, SpecOk P CC S 46 ⟨slices_ContainsFunc_int_int_3_ins, slices_ContainsFunc_int_int_3_outs, slices_ContainsFunc_int_int_3 n⟩ :=
  fn_all ok (O := slices_ContainsFunc_int_int_3_O) (H := slices_ContainsFunc_int_int_3_H) (fn := Tryd.f46) (body := b46) (by kernel_rfl) (by kernel_rfl) (by kernel_rfl) (by decide) (by kernel_rfl)
    (fun x => by kernel_rfl) (fun n => by
      rintro ⟨⟨x1, ⟨⟩, ⟨⟩⟩, ⟨⟨⟨⟩, ⟨⟩⟩, ⟨x2, x3, x4, x5, x6, x7, x8, ⟨⟩, ⟨⟩, ⟨⟩⟩, x9, x10, ⟨⟩⟩⟩
      kernel_rfl)
    (fun n => obl_of (by kernel_rfl) (by kernel_rfl) (lz) (cn (cn (cz) (by kernel_rfl)) (by kernel_rfl)) (hn fun _ => rfl))
    (fun n ih => asc_cons (slices_IndexFunc_int_int_3_ok ok n) <| asc_nil)
/-! ### (*pendulum/verify.checker).regs -/
abbrev verify_checker_regs_2_ins : Sh := ⟨[(.one (.ptr 0 0)), (.one (.val ty5))], [(.obj 74 [(.val .str), (.val ty5), (.val ty5), (.val (.int .i64)), (.val ty15), (.val ty17), (.val ty18), (.arr 1), (.map 2)]), (.arr 56 ty3), (.map (.int .i64) (.int .i64) false)]⟩
abbrev verify_checker_regs_2_outs : List Sh := [⟨[(.one (.val .bool))], [(.obj 74 [(.val .str), (.val ty5), (.val ty5), (.val (.int .i64)), (.val ty15), (.val ty17), (.val ty18), (.arr 1), (.map 2)]), (.arr 56 ty3), (.map (.int .i64) (.int .i64) false)]⟩]
def verify_checker_regs_2 : Nat → verify_checker_regs_2_ins.T → Option (OutsT verify_checker_regs_2_outs)
  | 0, _ => none
  | n + 1, ((_, x1, _), ((x2, x3, x4, x5, x6, x7, x8, _, _, _), l9, m10, _)) =>
    match slices_ContainsFunc_int_int_3 n ((x1, (), ()), (((), ()), (x2, x3, x4, x5, x6, x7, x8, (), (), ()), l9, m10, ())) with
    | some ((x11, _), ((_, _), (x12, x13, x14, x15, x16, x17, x18, _, _, _), l19, m20, _)) => (
      some ((!x11, ()), ((x12, x13, x14, x15, x16, x17, x18, (), (), ()), l19, m20, ())))
    | none => none
def verify_checker_regs_2_H (n : Nat) : Hints := ⟨[], fun _ => [], fun _ => none, fun _ => none, fun _ => none⟩
def verify_checker_regs_2_O (n : Nat) : FuncId → List FSpec := asc [(46, ⟨slices_ContainsFunc_int_int_3_ins, slices_ContainsFunc_int_int_3_outs, slices_ContainsFunc_int_int_3 n⟩)]
theorem verify_checker_regs_2_ok {S : Nat → Addr} (ok : CfgOk P CC S) : ∀ n, SpecOk P CC S 63 ⟨verify_checker_regs_2_ins, verify_checker_regs_2_outs, verify_checker_regs_2 n⟩ :=
  fn_all ok (O := verify_checker_regs_2_O) (H := verify_checker_regs_2_H) (fn := Tryd.f63) (body := b63) (by kernel_rfl) (by kernel_rfl) (by kernel_rfl) (by decide) (by kernel_rfl)
    (fun x => by kernel_rfl) (fun n => by
      rintro ⟨⟨⟨⟩, x1, ⟨⟩⟩, ⟨⟨x2, x3, x4, x5, x6, x7, x8, ⟨⟩, ⟨⟩, ⟨⟩⟩, x9, x10, ⟨⟩⟩⟩
      kernel_rfl)
    (fun n => obl_of (by kernel_rfl) (by kernel_rfl) (lz) (cn (cn (cz) (by kernel_rfl)) (by kernel_rfl)) (hn fun _ => rfl))
    (fun n ih => asc_cons (slices_ContainsFunc_int_int_3_ok ok n) <| asc_nil)
/-! ### (*pendulum/verify.checker).cell -/
abbrev verify_checker_cell_2_ins : Sh := ⟨[(.one (.ptr 0 0)), (.one (.val (.int .i64)))], [(.obj 74 [(.val .str), (.val ty5), (.val ty5), (.val (.int .i64)), (.val ty15), (.val ty17), (.val ty18), (.arr 1), (.map 2)]), (.arr 56 ty3), (.map (.int .i64) (.int .i64) false)]⟩
abbrev verify_checker_cell_2_outs : List Sh := [⟨[(.one (.val .bool))], [(.obj 74 [(.val .str), (.val ty5), (.val ty5), (.val (.int .i64)), (.val ty15), (.val ty17), (.val ty18), (.arr 1), (.map 2)]), (.arr 56 ty3), (.map (.int .i64) (.int .i64) false)]⟩]
def verify_checker_cell_2 : Nat → verify_checker_cell_2_ins.T → Option (OutsT verify_checker_cell_2_outs)
  | 0, _ => none
  | n + 1, ((_, x1, _), ((x2, x3, x4, x5, x6, x7, x8, _, _, _), l9, m10, _)) =>
    if decide (x1 ≥ 0) then
      some ((decide (x1 < (x6.length : Int)), ()), ((x2, x3, x4, x5, x6, x7, x8, (), (), ()), l9, m10, ()))
    else
      some ((false, ()), ((x2, x3, x4, x5, x6, x7, x8, (), (), ()), l9, m10, ()))
def verify_checker_cell_2_H (n : Nat) : Hints := ⟨[], fun _ => [], fun _ => none, fun _ => none, fun _ => none⟩
def verify_checker_cell_2_O (n : Nat) : FuncId → List FSpec := asc []
theorem verify_checker_cell_2_ok {S : Nat → Addr} (ok : CfgOk P CC S) : ∀ n, SpecOk P CC S 64 ⟨verify_checker_cell_2_ins, verify_checker_cell_2_outs, verify_checker_cell_2 n⟩ :=
  fn_all ok (O := verify_checker_cell_2_O) (H := verify_checker_cell_2_H) (fn := Tryd.f64) (body := b64) (by kernel_rfl) (by kernel_rfl) (by kernel_rfl) (by decide) (by kernel_rfl)
    (fun x => by kernel_rfl) (fun n => by
      rintro ⟨⟨⟨⟩, x1, ⟨⟩⟩, ⟨⟨x2, x3, x4, x5, x6, x7, x8, ⟨⟩, ⟨⟩, ⟨⟩⟩, x9, x10, ⟨⟩⟩⟩
      kernel_rfl)
    (fun n => obl_of (by kernel_rfl) (by kernel_rfl) (lz) (cn (cn (cz) (by kernel_rfl)) (by kernel_rfl)) (hn fun _ => rfl))
    (fun n ih => asc_nil)
/-! ### (*pendulum/verify.checker).inst -/
abbrev verify_checker_inst_2_ins : Sh := ⟨[(.one (.ptr 0 0)), (.one (.val (.int .i64)))], [(.obj 74 [(.val .str), (.val ty5), (.val ty5), (.val (.int .i64)), (.val ty15), (.val ty17), (.val ty18), (.arr 1), (.map 2)]), (.arr 56 ty3), (.map (.int .i64) (.int .i64) false)]⟩
abbrev verify_checker_inst_2_outs : List Sh := [⟨[(.one (.val .bool))], [(.obj 74 [(.val .str), (.val ty5), (.val ty5), (.val (.int .i64)), (.val ty15), (.val ty17), (.val ty18), (.arr 1), (.map 2)]), (.arr 56 ty3), (.map (.int .i64) (.int .i64) false)]⟩]
def verify_checker_inst_2 : Nat → verify_checker_inst_2_ins.T → Option (OutsT verify_checker_inst_2_outs)
  | 0, _ => none
  | n + 1, ((_, x1, _), ((x2, x3, x4, x5, x6, x7, x8, _, _, _), l9, m10, _)) =>
    if decide (x1 ≥ 0) then
      some ((decide (x1 < (l9.length : Int)), ()), ((x2, x3, x4, x5, x6, x7, x8, (), (), ()), l9, m10, ()))
    else
      some ((false, ()), ((x2, x3, x4, x5, x6, x7, x8, (), (), ()), l9, m10, ()))
def verify_checker_inst_2_H (n : Nat) : Hints := ⟨[], fun _ => [], fun _ => none, fun _ => none, fun _ => none⟩
def verify_checker_inst_2_O (n : Nat) : FuncId → List FSpec := asc []
theorem verify_checker_inst_2_ok {S : Nat → Addr} (ok : CfgOk P CC S) : ∀ n, SpecOk P CC S 65 ⟨verify_checker_inst_2_ins, verify_checker_inst_2_outs, verify_checker_inst_2 n⟩ :=
  fn_all ok (O := verify_checker_inst_2_O) (H := verify_checker_inst_2_H) (fn := Tryd.f65) (body := b65) (by kernel_rfl) (by kernel_rfl) (by kernel_rfl) (by decide) (by kernel_rfl)
    (fun x => by kernel_rfl) (fun n => by
      rintro ⟨⟨⟨⟩, x1, ⟨⟩⟩, ⟨⟨x2, x3, x4, x5, x6, x7, x8, ⟨⟩, ⟨⟩, ⟨⟩⟩, x9, x10, ⟨⟩⟩⟩
      kernel_rfl)
    (fun n => obl_of (by kernel_rfl) (by kernel_rfl) (lz) (cn (cn (cz) (by kernel_rfl)) (by kernel_rfl)) (hn fun _ => rfl))
    (fun n ih => asc_nil)
/-! ### (*pendulum/verify.checker).row -/
abbrev verify_checker_row_2_ins : Sh := ⟨[(.one (.ptr 0 0)), (.one (.val (.int .i64))), (.one (.val (.int .i64)))], [(.obj 74 [(.val .str), (.val ty5), (.val ty5), (.val (.int .i64)), (.val ty15), (.val ty17), (.val ty18), (.arr 1), (.map 2)]), (.arr 56 ty3), (.map (.int .i64) (.int .i64) false)]⟩
abbrev verify_checker_row_2_outs : List Sh := [⟨[(.one (.val .bool))], [(.obj 74 [(.val .str), (.val ty5), (.val ty5), (.val (.int .i64)), (.val ty15), (.val ty17), (.val ty18), (.arr 1), (.map 2)]), (.arr 56 ty3), (.map (.int .i64) (.int .i64) false)]⟩]
def verify_checker_row_2 : Nat → verify_checker_row_2_ins.T → Option (OutsT verify_checker_row_2_outs)
  | 0, _ => none
  | n + 1, ((_, x1, x2, _), ((x3, x4, x5, x6, x7, x8, x9, _, _, _), l10, m11, _)) =>
    if decide (x1 ≥ 0) then
      if decide (x1 ≤ x6) then
        let v12 : Int := IntKind.i64.wrap (x6 - x1)
        some ((decide (x2 ≤ v12), ()), ((x3, x4, x5, x6, x7, x8, x9, (), (), ()), l10, m11, ()))
      else
        some ((false, ()), ((x3, x4, x5, x6, x7, x8, x9, (), (), ()), l10, m11, ()))
    else
      some ((false, ()), ((x3, x4, x5, x6, x7, x8, x9, (), (), ()), l10, m11, ()))
def verify_checker_row_2_H (n : Nat) : Hints := ⟨[], fun _ => [], fun _ => none, fun _ => none, fun _ => none⟩
def verify_checker_row_2_O (n : Nat) : FuncId → List FSpec := asc []
theorem verify_checker_row_2_ok {S : Nat → Addr} (ok : CfgOk P CC S) : ∀ n, SpecOk P CC S 66 ⟨verify_checker_row_2_ins, verify_checker_row_2_outs, verify_checker_row_2 n⟩ :=
  fn_all ok (O := verify_checker_row_2_O) (H := verify_checker_row_2_H) (fn := Tryd.f66) (body := b66) (by kernel_rfl) (by kernel_rfl) (by kernel_rfl) (by decide) (by kernel_rfl)
    (fun x => by kernel_rfl) (fun n => by
      rintro ⟨⟨⟨⟩, x1, x2, ⟨⟩⟩, ⟨⟨x3, x4, x5, x6, x7, x8, x9, ⟨⟩, ⟨⟩, ⟨⟩⟩, x10, x11, ⟨⟩⟩⟩
      kernel_rfl)
    (fun n => obl_of (by kernel_rfl) (by kernel_rfl) (lz) (cn (cn (cz) (by kernel_rfl)) (by kernel_rfl)) (hn fun _ => rfl))
    (fun n ih => asc_nil)
/-! ### (*pendulum/verify.checker).there -/
abbrev verify_checker_there_2_ins : Sh := ⟨[(.one (.ptr 0 0)), (.agg [(.val (.int .i64)), (.val (.int .i64)), (.val (.int .i64)), (.val (.int .i64)), (.val (.int .i64)), (.val (.int .i64))])], [(.obj 74 [(.val .str), (.val ty5), (.val ty5), (.val (.int .i64)), (.val ty15), (.val ty17), (.val ty18), (.arr 1), (.map 2)]), (.arr 56 ty3), (.map (.int .i64) (.int .i64) false)]⟩
abbrev verify_checker_there_2_outs : List Sh := [⟨[(.one (.val .bool))], [(.obj 74 [(.val .str), (.val ty5), (.val ty5), (.val (.int .i64)), (.val ty15), (.val ty17), (.val ty18), (.arr 1), (.map 2)]), (.arr 56 ty3), (.map (.int .i64) (.int .i64) false)]⟩]
abbrev verify_checker_there_2_c4_h : Sh := ⟨[(.one (.ptr 0 0)), (.one (.ptr 3 0)), (.one (.val (.int .i64)))], [(.obj 74 [(.val .str), (.val ty5), (.val ty5), (.val (.int .i64)), (.val ty15), (.val ty17), (.val ty18), (.arr 1), (.map 2)]), (.arr 56 ty3), (.map (.int .i64) (.int .i64) false), (.obj 27 [(.val (.int .i64)), (.val (.int .i64)), (.val (.int .i64)), (.val (.int .i64)), (.val (.int .i64)), (.val (.int .i64))])]⟩
abbrev verify_checker_there_2_c4_o : List Out := [⟨.normal, [0, 3, 6, 7], ⟨[(.one (.ptr 0 0)), (.one (.ptr 3 0)), (.one (.val (.int .i64))), (.one (.val .bool))], [(.obj 74 [(.val .str), (.val ty5), (.val ty5), (.val (.int .i64)), (.val ty15), (.val ty17), (.val ty18), (.arr 1), (.map 2)]), (.arr 56 ty3), (.map (.int .i64) (.int .i64) false), (.obj 27 [(.val (.int .i64)), (.val (.int .i64)), (.val (.int .i64)), (.val (.int .i64)), (.val (.int .i64)), (.val (.int .i64))])]⟩⟩]
def verify_checker_there_2_c4 (n : Nat) : verify_checker_there_2_c4_h.T → Option (OutT verify_checker_there_2_c4_o)
  | ((_, _, x1, _), ((x2, x3, x4, x5, x6, x7, x8, _, _, _), l9, m10, (x11, x12, x13, x14, x15, x16, _), _)) =>
    if x1 == 1 then
      some (.inl (((), (), x1, x1 == 1, ()), ((x2, x3, x4, x5, x6, x7, x8, (), (), ()), l9, m10, (x11, x12, x13, x14, x15, x16, ()), ())))
    else
      some (.inl (((), (), x1, x1 == 8, ()), ((x2, x3, x4, x5, x6, x7, x8, (), (), ()), l9, m10, (x11, x12, x13, x14, x15, x16, ()), ())))
abbrev verify_checker_there_2_c7_h : Sh := ⟨[(.one (.ptr 0 0)), (.one (.ptr 3 0)), (.one (.val (.int .i64)))], [(.obj 74 [(.val .str), (.val ty5), (.val ty5), (.val (.int .i64)), (.val ty15), (.val ty17), (.val ty18), (.arr 1), (.map 2)]), (.arr 56 ty3), (.map (.int .i64) (.int .i64) false), (.obj 27 [(.val (.int .i64)), (.val (.int .i64)), (.val (.int .i64)), (.val (.int .i64)), (.val (.int .i64)), (.val (.int .i64))])]⟩
abbrev verify_checker_there_2_c7_o : List Out := [⟨.normal, [0, 3, 6, 15], ⟨[(.one (.ptr 0 0)), (.one (.ptr 3 0)), (.one (.val (.int .i64))), (.one (.val .bool))], [(.obj 74 [(.val .str), (.val ty5), (.val ty5), (.val (.int .i64)), (.val ty15), (.val ty17), (.val ty18), (.arr 1), (.map 2)]), (.arr 56 ty3), (.map (.int .i64) (.int .i64) false), (.obj 27 [(.val (.int .i64)), (.val (.int .i64)), (.val (.int .i64)), (.val (.int .i64)), (.val (.int .i64)), (.val (.int .i64))])]⟩⟩]
def verify_checker_there_2_c7 (n : Nat) : verify_checker_there_2_c7_h.T → Option (OutT verify_checker_there_2_c7_o)
  | ((_, _, x1, _), ((x2, x3, x4, x5, x6, x7, x8, _, _, _), l9, m10, (x11, x12, x13, x14, x15, x16, _), _)) =>
    if x1 == 2 then
      some (.inl (((), (), x1, x1 == 2, ()), ((x2, x3, x4, x5, x6, x7, x8, (), (), ()), l9, m10, (x11, x12, x13, x14, x15, x16, ()), ())))
    else
      some (.inl (((), (), x1, x1 == 5, ()), ((x2, x3, x4, x5, x6, x7, x8, (), (), ()), l9, m10, (x11, x12, x13, x14, x15, x16, ()), ())))
def verify_checker_there_2 : Nat → verify_checker_there_2_ins.T → Option (OutsT verify_checker_there_2_outs)
  | 0, _ => none
  | n + 1, ((_, (x1, x2, x3, x4, x5, x6, _), _), ((x7, x8, x9, x10, x11, x12, x13, _, _, _), l14, m15, _)) =>
    match verify_checker_there_2_c4 n (((), (), x1, ()), ((x7, x8, x9, x10, x11, x12, x13, (), (), ()), l14, m15, (x1, x2, x3, x4, x5, x6, ()), ())) with
    | some (.inl ((_, _, x16, x17, _), ((x18, x19, x20, x21, x22, x23, x24, _, _, _), l25, m26, (x27, x28, x29, x30, x31, x32, _), _))) => (
      if x17 then
        match verify_checker_regs_2 n (((), [x28], ()), ((x18, x19, x20, x21, x22, x23, x24, (), (), ()), l25, m26, ())) with
        | some ((x33, _), ((x34, x35, x36, x37, x38, x39, x40, _, _, _), l41, m42, _)) => (
          some ((x33, ()), ((x34, x35, x36, x37, x38, x39, x40, (), (), ()), l41, m42, ())))
        | none => none
      else
        match verify_checker_there_2_c7 n (((), (), x16, ()), ((x18, x19, x20, x21, x22, x23, x24, (), (), ()), l25, m26, (x27, x28, x29, x30, x31, x32, ()), ())) with
        | some (.inl ((_, _, x43, x44, _), ((x45, x46, x47, x48, x49, x50, x51, _, _, _), l52, m53, (x54, x55, x56, x57, x58, x59, _), _))) => (
          if x44 then
            match verify_checker_regs_2 n (((), [x55, x56], ()), ((x45, x46, x47, x48, x49, x50, x51, (), (), ()), l52, m53, ())) with
            | some ((x60, _), ((x61, x62, x63, x64, x65, x66, x67, _, _, _), l68, m69, _)) => (
              some ((x60, ()), ((x61, x62, x63, x64, x65, x66, x67, (), (), ()), l68, m69, ())))
            | none => none
          else
            if x43 == 3 then
              match verify_checker_regs_2 n (((), [x55], ()), ((x45, x46, x47, x48, x49, x50, x51, (), (), ()), l52, m53, ())) with
              | some ((x70, _), ((x71, x72, x73, x74, x75, x76, x77, _, _, _), l78, m79, _)) => (
                if x70 then
                  match verify_checker_cell_2 n (((), x56, ()), ((x71, x72, x73, x74, x75, x76, x77, (), (), ()), l78, m79, ())) with
                  | some ((x80, _), ((x81, x82, x83, x84, x85, x86, x87, _, _, _), l88, m89, _)) => (
                    some ((x80, ()), ((x81, x82, x83, x84, x85, x86, x87, (), (), ()), l88, m89, ())))
                  | none => none
                else
                  some ((false, ()), ((x71, x72, x73, x74, x75, x76, x77, (), (), ()), l78, m79, ())))
              | none => none
            else
              if x43 == 4 then
                match verify_checker_regs_2 n (((), [x56], ()), ((x45, x46, x47, x48, x49, x50, x51, (), (), ()), l52, m53, ())) with
                | some ((x90, _), ((x91, x92, x93, x94, x95, x96, x97, _, _, _), l98, m99, _)) => (
                  if x90 then
                    match verify_checker_cell_2 n (((), x55, ()), ((x91, x92, x93, x94, x95, x96, x97, (), (), ()), l98, m99, ())) with
                    | some ((x100, _), ((x101, x102, x103, x104, x105, x106, x107, _, _, _), l108, m109, _)) => (
                      some ((x100, ()), ((x101, x102, x103, x104, x105, x106, x107, (), (), ()), l108, m109, ())))
                    | none => none
                  else
                    some ((false, ()), ((x91, x92, x93, x94, x95, x96, x97, (), (), ()), l98, m99, ())))
                | none => none
              else
                if x43 == 6 then
                  match verify_checker_regs_2 n (((), [x55, x56, x57], ()), ((x45, x46, x47, x48, x49, x50, x51, (), (), ()), l52, m53, ())) with
                  | some ((x110, _), ((x111, x112, x113, x114, x115, x116, x117, _, _, _), l118, m119, _)) => (
                    some ((x110, ()), ((x111, x112, x113, x114, x115, x116, x117, (), (), ()), l118, m119, ())))
                  | none => none
                else
                  if x43 == 7 then
                    match verify_checker_regs_2 n (((), [x55, x56, x57, x58], ()), ((x45, x46, x47, x48, x49, x50, x51, (), (), ()), l52, m53, ())) with
                    | some ((x120, _), ((x121, x122, x123, x124, x125, x126, x127, _, _, _), l128, m129, _)) => (
                      some ((x120, ()), ((x121, x122, x123, x124, x125, x126, x127, (), (), ()), l128, m129, ())))
                    | none => none
                  else
                    if x43 == 10 then
                      match verify_checker_inst_2 n (((), x55, ()), ((x45, x46, x47, x48, x49, x50, x51, (), (), ()), l52, m53, ())) with
                      | some ((x130, _), ((x131, x132, x133, x134, x135, x136, x137, _, _, _), l138, m139, _)) => (
                        some ((x130, ()), ((x131, x132, x133, x134, x135, x136, x137, (), (), ()), l138, m139, ())))
                      | none => none
                    else
                      if x43 == 11 then
                        match verify_checker_inst_2 n (((), x55, ()), ((x45, x46, x47, x48, x49, x50, x51, (), (), ()), l52, m53, ())) with
                        | some ((x140, _), ((x141, x142, x143, x144, x145, x146, x147, _, _, _), l148, m149, _)) => (
                          if x140 then
                            if 0 ≤ x55 ∧ x55 < (l148.length : Int) then (
                              match verify_checker_row_2 n (((), x56, ((((rdT ty3 l148 x55).2).1).length : Int), ()), ((x141, x142, x143, x144, x145, x146, x147, (), (), ()), l148, m149, ())) with
                              | some ((x150, _), ((x151, x152, x153, x154, x155, x156, x157, _, _, _), l158, m159, _)) => (
                                if x150 then
                                  if 0 ≤ x55 ∧ x55 < (l158.length : Int) then (
                                    match verify_checker_row_2 n (((), x57, ((((rdT ty3 l158 x55).2).2).length : Int), ()), ((x151, x152, x153, x154, x155, x156, x157, (), (), ()), l158, m159, ())) with
                                    | some ((x160, _), ((x161, x162, x163, x164, x165, x166, x167, _, _, _), l168, m169, _)) => (
                                      some ((x160, ()), ((x161, x162, x163, x164, x165, x166, x167, (), (), ()), l168, m169, ())))
                                    | none => none) else none
                                else
                                  some ((false, ()), ((x151, x152, x153, x154, x155, x156, x157, (), (), ()), l158, m159, ())))
                              | none => none) else none
                          else
                            some ((false, ()), ((x141, x142, x143, x144, x145, x146, x147, (), (), ()), l148, m149, ())))
                        | none => none
                      else
                        some ((true, ()), ((x45, x46, x47, x48, x49, x50, x51, (), (), ()), l52, m53, ())))
        | some (.inr (_)) => none
        | none => none)
    | some (.inr (_)) => none
    | none => none
def verify_checker_there_2_H (n : Nat) : Hints := ⟨[], fun _ => [], fun _ => none, fun k => match k with | 4 => some ⟨[0, 3, 6], verify_checker_there_2_c4_h, verify_checker_there_2_c4_o, fun n => verify_checker_there_2_c4 n⟩ | 7 => some ⟨[0, 3, 6], verify_checker_there_2_c7_h, verify_checker_there_2_c7_o, fun n => verify_checker_there_2_c7 n⟩ | _ => none, fun _ => none⟩
def verify_checker_there_2_O (n : Nat) : FuncId → List FSpec := asc [(63, ⟨verify_checker_regs_2_ins, verify_checker_regs_2_outs, verify_checker_regs_2 n⟩), (64, ⟨verify_checker_cell_2_ins, verify_checker_cell_2_outs, verify_checker_cell_2 n⟩), (65, ⟨verify_checker_inst_2_ins, verify_checker_inst_2_outs, verify_checker_inst_2 n⟩), (66, ⟨verify_checker_row_2_ins, verify_checker_row_2_outs, verify_checker_row_2 n⟩)]
theorem verify_checker_there_2_c4_k3 (n : Nat) : CutOk P CC (verify_checker_there_2_O n) n 3 119 (verify_checker_there_2_H n) ⟨[0, 3, 6], verify_checker_there_2_c4_h, verify_checker_there_2_c4_o, fun n => verify_checker_there_2_c4 n⟩ ((cutsOf b49).getD 3 (0, .skip)).2 := by
  rintro ⟨⟨⟨⟩, ⟨⟩, x1, ⟨⟩⟩, ⟨⟨x2, x3, x4, x5, x6, x7, x8, ⟨⟩, ⟨⟩, ⟨⟩⟩, x9, x10, ⟨x11, x12, x13, x14, x15, x16, ⟨⟩⟩, ⟨⟩⟩⟩
  kernel_rfl
theorem verify_checker_there_2_c7_k6 (n : Nat) : CutOk P CC (verify_checker_there_2_O n) n 3 119 (verify_checker_there_2_H n) ⟨[0, 3, 6], verify_checker_there_2_c7_h, verify_checker_there_2_c7_o, fun n => verify_checker_there_2_c7 n⟩ ((cutsOf b49).getD 6 (0, .skip)).2 := by
  rintro ⟨⟨⟨⟩, ⟨⟩, x1, ⟨⟩⟩, ⟨⟨x2, x3, x4, x5, x6, x7, x8, ⟨⟩, ⟨⟩, ⟨⟩⟩, x9, x10, ⟨x11, x12, x13, x14, x15, x16, ⟨⟩⟩, ⟨⟩⟩⟩
  kernel_rfl
theorem verify_checker_there_2_ok {S : Nat → Addr} (ok : CfgOk P CC S) : ∀ n, SpecOk P CC S 49 ⟨verify_checker_there_2_ins, verify_checker_there_2_outs, verify_checker_there_2 n⟩ :=
  fn_all ok (O := verify_checker_there_2_O) (H := verify_checker_there_2_H) (fn := Tryd.f49) (body := b49) (by kernel_rfl) (by kernel_rfl) (by kernel_rfl) (by decide) (by kernel_rfl)
    (fun x => by kernel_rfl) (fun n => by
      rintro ⟨⟨⟨⟩, ⟨x1, x2, x3, x4, x5, x6, ⟨⟩⟩, ⟨⟩⟩, ⟨⟨x7, x8, x9, x10, x11, x12, x13, ⟨⟩, ⟨⟩, ⟨⟩⟩, x14, x15, ⟨⟩⟩⟩
      kernel_rfl)
    (fun n => obl_of (by kernel_rfl) (by kernel_rfl) (lz) (cn (cn (cn (cn (cn (cn (cn (cn (cn (cn (cn (cn (cn (cn (cn (cs (cn (cn (cs (cn (cn (cn (cz) (by kernel_rfl)) (by kernel_rfl)) (by kernel_rfl)) (by kernel_rfl) (verify_checker_there_2_c4_k3 n)) (by kernel_rfl)) (by kernel_rfl)) (by kernel_rfl) (verify_checker_there_2_c7_k6 n)) (by kernel_rfl)) (by kernel_rfl)) (by kernel_rfl)) (by kernel_rfl)) (by kernel_rfl)) (by kernel_rfl)) (by kernel_rfl)) (by kernel_rfl)) (by kernel_rfl)) (by kernel_rfl)) (by kernel_rfl)) (by kernel_rfl)) (by kernel_rfl)) (by kernel_rfl)) (by kernel_rfl)) (hn fun _ => rfl))
    (fun n ih => asc_cons (verify_checker_regs_2_ok ok n) <| asc_cons (verify_checker_cell_2_ok ok n) <| asc_cons (verify_checker_inst_2_ok ok n) <| asc_cons (verify_checker_row_2_ok ok n) <| asc_nil)
/-! ### (*pendulum/verify.checker).instr -/
abbrev verify_checker_instr_2_ins : Sh := ⟨[(.one (.ptr 0 0)), (.one (.val (.int .i64)))], [(.obj 74 [(.val .str), (.val ty5), (.val ty5), (.val (.int .i64)), (.val ty15), (.val ty17), (.val ty18), (.arr 1), (.map 2)]), (.arr 56 ty3), (.map (.int .i64) (.int .i64) false)]⟩
abbrev verify_checker_instr_2_outs : List Sh := [⟨[(.one (.val .err))], [(.obj 74 [(.val .str), (.val ty5), (.val ty5), (.val (.int .i64)), (.val ty15), (.val ty17), (.val ty18), (.arr 1), (.map 2)]), (.arr 56 ty3), (.map (.int .i64) (.int .i64) false)]⟩]
abbrev verify_checker_instr_2_c16_h : Sh := ⟨[(.one (.ptr 0 0)), (.one (.val (.int .i64))), (.one (.ptr 3 0))], [(.obj 74 [(.val .str), (.val ty5), (.val ty5), (.val (.int .i64)), (.val ty15), (.val ty17), (.val ty18), (.arr 1), (.map 2)]), (.arr 56 ty3), (.map (.int .i64) (.int .i64) false), (.obj 27 [(.val (.int .i64)), (.val (.int .i64)), (.val (.int .i64)), (.val (.int .i64)), (.val (.int .i64)), (.val (.int .i64))])]⟩
abbrev verify_checker_instr_2_c16_o : List Out := [⟨.normal, [0, 1, 5, 89], ⟨[(.one (.ptr 0 0)), (.one (.val (.int .i64))), (.one (.ptr 3 0)), (.one (.val .bool))], [(.obj 74 [(.val .str), (.val ty5), (.val ty5), (.val (.int .i64)), (.val ty15), (.val ty17), (.val ty18), (.arr 1), (.map 2)]), (.arr 56 ty3), (.map (.int .i64) (.int .i64) false), (.obj 27 [(.val (.int .i64)), (.val (.int .i64)), (.val (.int .i64)), (.val (.int .i64)), (.val (.int .i64)), (.val (.int .i64))])]⟩⟩]
def verify_checker_instr_2_c16 (n : Nat) : verify_checker_instr_2_c16_h.T → Option (OutT verify_checker_instr_2_c16_o)
  | ((_, x1, _, _), ((x2, x3, x4, x5, x6, x7, x8, _, _, _), l9, m10, (x11, x12, x13, x14, x15, x16, _), _)) =>
    if x11 == 8 then
      some (.inl (((), x1, (), x11 == 8, ()), ((x2, x3, x4, x5, x6, x7, x8, (), (), ()), l9, m10, (x11, x12, x13, x14, x15, x16, ()), ())))
    else
      some (.inl (((), x1, (), x11 == 9, ()), ((x2, x3, x4, x5, x6, x7, x8, (), (), ()), l9, m10, (x11, x12, x13, x14, x15, x16, ()), ())))
def verify_checker_instr_2 : Nat → verify_checker_instr_2_ins.T → Option (OutsT verify_checker_instr_2_outs)
  | 0, _ => none
  | n + 1, ((_, x1, _), ((x2, x3, x4, x5, x6, x7, x8, _, _, _), l9, m10, _)) =>
    if 0 ≤ x1 ∧ x1 < (x8.length : Int) then (
      if decide ((rdT ty6 x8 x1).1 < 1) then
        match verify_at n ((x1, ErrV.sent 102, ()), ()) with
        | some ((x11, _), _) => (
          some ((x11, ()), ((x2, x3, x4, x5, x6, x7, x8, (), (), ()), l9, m10, ())))
        | none => none
      else
        if decide ((rdT ty6 x8 x1).1 > 12) then
          match verify_at n ((x1, ErrV.sent 102, ()), ()) with
          | some ((x12, _), _) => (
            some ((x12, ()), ((x2, x3, x4, x5, x6, x7, x8, (), (), ()), l9, m10, ())))
          | none => none
        else
          match verify_checker_there_2 n (((), ((rdT ty6 x8 x1).1, ((rdT ty6 x8 x1).2).1, (((rdT ty6 x8 x1).2).2).1, ((((rdT ty6 x8 x1).2).2).2).1, (((((rdT ty6 x8 x1).2).2).2).2).1, (((((rdT ty6 x8 x1).2).2).2).2).2, ()), ()), ((x2, x3, x4, x5, x6, x7, x8, (), (), ()), l9, m10, ())) with
          | some ((x13, _), ((x14, x15, x16, x17, x18, x19, x20, _, _, _), l21, m22, _)) => (
            if !x13 then
              match verify_at n ((x1, ErrV.sent 104, ()), ()) with
              | some ((x23, _), _) => (
                some ((x23, ()), ((x14, x15, x16, x17, x18, x19, x20, (), (), ()), l21, m22, ())))
              | none => none
            else
              if (rdT ty6 x8 x1).1 == 5 then
                if ((((rdT ty6 x8 x1).2).2).2).1 != 4 then
                  if ((((rdT ty6 x8 x1).2).2).2).1 != 5 then
                    match verify_at n ((x1, ErrV.sent 102, ()), ()) with
                    | some ((x24, _), _) => (
                      some ((x24, ()), ((x14, x15, x16, x17, x18, x19, x20, (), (), ()), l21, m22, ())))
                    | none => none
                  else
                    if (rdT ty6 x8 x1).1 == 6 then
                      if decide ((((((rdT ty6 x8 x1).2).2).2).2).2 < 6) then
                        match verify_at n ((x1, ErrV.sent 102, ()), ()) with
                        | some ((x25, _), _) => (
                          some ((x25, ()), ((x14, x15, x16, x17, x18, x19, x20, (), (), ()), l21, m22, ())))
                        | none => none
                      else
                        if decide ((((((rdT ty6 x8 x1).2).2).2).2).2 > 19) then
                          match verify_at n ((x1, ErrV.sent 102, ()), ()) with
                          | some ((x26, _), _) => (
                            some ((x26, ()), ((x14, x15, x16, x17, x18, x19, x20, (), (), ()), l21, m22, ())))
                          | none => none
                        else
                          if (rdT ty6 x8 x1).1 == 11 then
                            let v27 : Int := (mfind (keyEq ((.int .i64) : Ty)) (((rdT ty6 x8 x1).2).1) m22).getD 0
                            if decide (v27 > 0) then
                              match verify_at n ((x1, ErrV.sent 103, ()), ()) with
                              | some ((x28, _), _) => (
                                some ((x28, ()), ((x14, x15, x16, x17, x18, x19, x20, (), (), ()), l21, m22, ())))
                              | none => none
                            else
                              some ((ErrV.nil, ()), ((x14, x15, x16, x17, x18, x19, x20, (), (), ()), l21, mset (keyEq ((.int .i64) : Ty)) (((rdT ty6 x8 x1).2).1) 1 m22, ()))
                          else
                            match verify_checker_instr_2_c16 n (((), x1, (), ()), ((x14, x15, x16, x17, x18, x19, x20, (), (), ()), l21, m22, ((rdT ty6 x8 x1).1, ((rdT ty6 x8 x1).2).1, (((rdT ty6 x8 x1).2).2).1, ((((rdT ty6 x8 x1).2).2).2).1, (((((rdT ty6 x8 x1).2).2).2).2).1, (((((rdT ty6 x8 x1).2).2).2).2).2, ()), ())) with
                            | some (.inl ((_, x29, _, x30, _), ((x31, x32, x33, x34, x35, x36, x37, _, _, _), l38, m39, (x40, x41, x42, x43, x44, x45, _), _))) => (
                              if x30 then
                                if decide (x45 ≤ x29) then
                                  match verify_at n ((x29, ErrV.sent 104, ()), ()) with
                                  | some ((x46, _), _) => (
                                    some ((x46, ()), ((x31, x32, x33, x34, x35, x36, x37, (), (), ()), l38, m39, ())))
                                  | none => none
                                else
                                  if decide (x45 ≥ (x37.length : Int)) then
                                    match verify_at n ((x29, ErrV.sent 104, ()), ()) with
                                    | some ((x47, _), _) => (
                                      some ((x47, ()), ((x31, x32, x33, x34, x35, x36, x37, (), (), ()), l38, m39, ())))
                                    | none => none
                                  else
                                    some ((ErrV.nil, ()), ((x31, x32, x33, x34, x35, x36, x37, (), (), ()), l38, m39, ()))
                              else
                                some ((ErrV.nil, ()), ((x31, x32, x33, x34, x35, x36, x37, (), (), ()), l38, m39, ())))
                            | some (.inr (_)) => none
                            | none => none
                    else
                      if (rdT ty6 x8 x1).1 == 11 then
                        let v48 : Int := (mfind (keyEq ((.int .i64) : Ty)) (((rdT ty6 x8 x1).2).1) m22).getD 0
                        if decide (v48 > 0) then
                          match verify_at n ((x1, ErrV.sent 103, ()), ()) with
                          | some ((x49, _), _) => (
                            some ((x49, ()), ((x14, x15, x16, x17, x18, x19, x20, (), (), ()), l21, m22, ())))
                          | none => none
                        else
                          some ((ErrV.nil, ()), ((x14, x15, x16, x17, x18, x19, x20, (), (), ()), l21, mset (keyEq ((.int .i64) : Ty)) (((rdT ty6 x8 x1).2).1) 1 m22, ()))
                      else
                        match verify_checker_instr_2_c16 n (((), x1, (), ()), ((x14, x15, x16, x17, x18, x19, x20, (), (), ()), l21, m22, ((rdT ty6 x8 x1).1, ((rdT ty6 x8 x1).2).1, (((rdT ty6 x8 x1).2).2).1, ((((rdT ty6 x8 x1).2).2).2).1, (((((rdT ty6 x8 x1).2).2).2).2).1, (((((rdT ty6 x8 x1).2).2).2).2).2, ()), ())) with
                        | some (.inl ((_, x50, _, x51, _), ((x52, x53, x54, x55, x56, x57, x58, _, _, _), l59, m60, (x61, x62, x63, x64, x65, x66, _), _))) => (
                          if x51 then
                            if decide (x66 ≤ x50) then
                              match verify_at n ((x50, ErrV.sent 104, ()), ()) with
                              | some ((x67, _), _) => (
                                some ((x67, ()), ((x52, x53, x54, x55, x56, x57, x58, (), (), ()), l59, m60, ())))
                              | none => none
                            else
                              if decide (x66 ≥ (x58.length : Int)) then
                                match verify_at n ((x50, ErrV.sent 104, ()), ()) with
                                | some ((x68, _), _) => (
                                  some ((x68, ()), ((x52, x53, x54, x55, x56, x57, x58, (), (), ()), l59, m60, ())))
                                | none => none
                              else
                                some ((ErrV.nil, ()), ((x52, x53, x54, x55, x56, x57, x58, (), (), ()), l59, m60, ()))
                          else
                            some ((ErrV.nil, ()), ((x52, x53, x54, x55, x56, x57, x58, (), (), ()), l59, m60, ())))
                        | some (.inr (_)) => none
                        | none => none
                else
                  if (rdT ty6 x8 x1).1 == 6 then
                    if decide ((((((rdT ty6 x8 x1).2).2).2).2).2 < 6) then
                      match verify_at n ((x1, ErrV.sent 102, ()), ()) with
                      | some ((x69, _), _) => (
                        some ((x69, ()), ((x14, x15, x16, x17, x18, x19, x20, (), (), ()), l21, m22, ())))
                      | none => none
                    else
                      if decide ((((((rdT ty6 x8 x1).2).2).2).2).2 > 19) then
                        match verify_at n ((x1, ErrV.sent 102, ()), ()) with
                        | some ((x70, _), _) => (
                          some ((x70, ()), ((x14, x15, x16, x17, x18, x19, x20, (), (), ()), l21, m22, ())))
                        | none => none
                      else
                        if (rdT ty6 x8 x1).1 == 11 then
                          let v71 : Int := (mfind (keyEq ((.int .i64) : Ty)) (((rdT ty6 x8 x1).2).1) m22).getD 0
                          if decide (v71 > 0) then
                            match verify_at n ((x1, ErrV.sent 103, ()), ()) with
                            | some ((x72, _), _) => (
                              some ((x72, ()), ((x14, x15, x16, x17, x18, x19, x20, (), (), ()), l21, m22, ())))
                            | none => none
                          else
                            some ((ErrV.nil, ()), ((x14, x15, x16, x17, x18, x19, x20, (), (), ()), l21, mset (keyEq ((.int .i64) : Ty)) (((rdT ty6 x8 x1).2).1) 1 m22, ()))
                        else
                          match verify_checker_instr_2_c16 n (((), x1, (), ()), ((x14, x15, x16, x17, x18, x19, x20, (), (), ()), l21, m22, ((rdT ty6 x8 x1).1, ((rdT ty6 x8 x1).2).1, (((rdT ty6 x8 x1).2).2).1, ((((rdT ty6 x8 x1).2).2).2).1, (((((rdT ty6 x8 x1).2).2).2).2).1, (((((rdT ty6 x8 x1).2).2).2).2).2, ()), ())) with
                          | some (.inl ((_, x73, _, x74, _), ((x75, x76, x77, x78, x79, x80, x81, _, _, _), l82, m83, (x84, x85, x86, x87, x88, x89, _), _))) => (
                            if x74 then
                              if decide (x89 ≤ x73) then
                                match verify_at n ((x73, ErrV.sent 104, ()), ()) with
                                | some ((x90, _), _) => (
                                  some ((x90, ()), ((x75, x76, x77, x78, x79, x80, x81, (), (), ()), l82, m83, ())))
                                | none => none
                              else
                                if decide (x89 ≥ (x81.length : Int)) then
                                  match verify_at n ((x73, ErrV.sent 104, ()), ()) with
                                  | some ((x91, _), _) => (
                                    some ((x91, ()), ((x75, x76, x77, x78, x79, x80, x81, (), (), ()), l82, m83, ())))
                                  | none => none
                                else
                                  some ((ErrV.nil, ()), ((x75, x76, x77, x78, x79, x80, x81, (), (), ()), l82, m83, ()))
                            else
                              some ((ErrV.nil, ()), ((x75, x76, x77, x78, x79, x80, x81, (), (), ()), l82, m83, ())))
                          | some (.inr (_)) => none
                          | none => none
                  else
                    if (rdT ty6 x8 x1).1 == 11 then
                      let v92 : Int := (mfind (keyEq ((.int .i64) : Ty)) (((rdT ty6 x8 x1).2).1) m22).getD 0
                      if decide (v92 > 0) then
                        match verify_at n ((x1, ErrV.sent 103, ()), ()) with
                        | some ((x93, _), _) => (
                          some ((x93, ()), ((x14, x15, x16, x17, x18, x19, x20, (), (), ()), l21, m22, ())))
                        | none => none
                      else
                        some ((ErrV.nil, ()), ((x14, x15, x16, x17, x18, x19, x20, (), (), ()), l21, mset (keyEq ((.int .i64) : Ty)) (((rdT ty6 x8 x1).2).1) 1 m22, ()))
                    else
                      match verify_checker_instr_2_c16 n (((), x1, (), ()), ((x14, x15, x16, x17, x18, x19, x20, (), (), ()), l21, m22, ((rdT ty6 x8 x1).1, ((rdT ty6 x8 x1).2).1, (((rdT ty6 x8 x1).2).2).1, ((((rdT ty6 x8 x1).2).2).2).1, (((((rdT ty6 x8 x1).2).2).2).2).1, (((((rdT ty6 x8 x1).2).2).2).2).2, ()), ())) with
                      | some (.inl ((_, x94, _, x95, _), ((x96, x97, x98, x99, x100, x101, x102, _, _, _), l103, m104, (x105, x106, x107, x108, x109, x110, _), _))) => (
                        if x95 then
                          if decide (x110 ≤ x94) then
                            match verify_at n ((x94, ErrV.sent 104, ()), ()) with
                            | some ((x111, _), _) => (
                              some ((x111, ()), ((x96, x97, x98, x99, x100, x101, x102, (), (), ()), l103, m104, ())))
                            | none => none
                          else
                            if decide (x110 ≥ (x102.length : Int)) then
                              match verify_at n ((x94, ErrV.sent 104, ()), ()) with
                              | some ((x112, _), _) => (
                                some ((x112, ()), ((x96, x97, x98, x99, x100, x101, x102, (), (), ()), l103, m104, ())))
                              | none => none
                            else
                              some ((ErrV.nil, ()), ((x96, x97, x98, x99, x100, x101, x102, (), (), ()), l103, m104, ()))
                        else
                          some ((ErrV.nil, ()), ((x96, x97, x98, x99, x100, x101, x102, (), (), ()), l103, m104, ())))
                      | some (.inr (_)) => none
                      | none => none
              else
                if (rdT ty6 x8 x1).1 == 6 then
                  if decide ((((((rdT ty6 x8 x1).2).2).2).2).2 < 6) then
                    match verify_at n ((x1, ErrV.sent 102, ()), ()) with
                    | some ((x113, _), _) => (
                      some ((x113, ()), ((x14, x15, x16, x17, x18, x19, x20, (), (), ()), l21, m22, ())))
                    | none => none
                  else
                    if decide ((((((rdT ty6 x8 x1).2).2).2).2).2 > 19) then
                      match verify_at n ((x1, ErrV.sent 102, ()), ()) with
                      | some ((x114, _), _) => (
                        some ((x114, ()), ((x14, x15, x16, x17, x18, x19, x20, (), (), ()), l21, m22, ())))
                      | none => none
                    else
                      if (rdT ty6 x8 x1).1 == 11 then
                        let v115 : Int := (mfind (keyEq ((.int .i64) : Ty)) (((rdT ty6 x8 x1).2).1) m22).getD 0
                        if decide (v115 > 0) then
                          match verify_at n ((x1, ErrV.sent 103, ()), ()) with
                          | some ((x116, _), _) => (
                            some ((x116, ()), ((x14, x15, x16, x17, x18, x19, x20, (), (), ()), l21, m22, ())))
                          | none => none
                        else
                          some ((ErrV.nil, ()), ((x14, x15, x16, x17, x18, x19, x20, (), (), ()), l21, mset (keyEq ((.int .i64) : Ty)) (((rdT ty6 x8 x1).2).1) 1 m22, ()))
                      else
                        match verify_checker_instr_2_c16 n (((), x1, (), ()), ((x14, x15, x16, x17, x18, x19, x20, (), (), ()), l21, m22, ((rdT ty6 x8 x1).1, ((rdT ty6 x8 x1).2).1, (((rdT ty6 x8 x1).2).2).1, ((((rdT ty6 x8 x1).2).2).2).1, (((((rdT ty6 x8 x1).2).2).2).2).1, (((((rdT ty6 x8 x1).2).2).2).2).2, ()), ())) with
                        | some (.inl ((_, x117, _, x118, _), ((x119, x120, x121, x122, x123, x124, x125, _, _, _), l126, m127, (x128, x129, x130, x131, x132, x133, _), _))) => (
                          if x118 then
                            if decide (x133 ≤ x117) then
                              match verify_at n ((x117, ErrV.sent 104, ()), ()) with
                              | some ((x134, _), _) => (
                                some ((x134, ()), ((x119, x120, x121, x122, x123, x124, x125, (), (), ()), l126, m127, ())))
                              | none => none
                            else
                              if decide (x133 ≥ (x125.length : Int)) then
                                match verify_at n ((x117, ErrV.sent 104, ()), ()) with
                                | some ((x135, _), _) => (
                                  some ((x135, ()), ((x119, x120, x121, x122, x123, x124, x125, (), (), ()), l126, m127, ())))
                                | none => none
                              else
                                some ((ErrV.nil, ()), ((x119, x120, x121, x122, x123, x124, x125, (), (), ()), l126, m127, ()))
                          else
                            some ((ErrV.nil, ()), ((x119, x120, x121, x122, x123, x124, x125, (), (), ()), l126, m127, ())))
                        | some (.inr (_)) => none
                        | none => none
                else
                  if (rdT ty6 x8 x1).1 == 11 then
                    let v136 : Int := (mfind (keyEq ((.int .i64) : Ty)) (((rdT ty6 x8 x1).2).1) m22).getD 0
                    if decide (v136 > 0) then
                      match verify_at n ((x1, ErrV.sent 103, ()), ()) with
                      | some ((x137, _), _) => (
                        some ((x137, ()), ((x14, x15, x16, x17, x18, x19, x20, (), (), ()), l21, m22, ())))
                      | none => none
                    else
                      some ((ErrV.nil, ()), ((x14, x15, x16, x17, x18, x19, x20, (), (), ()), l21, mset (keyEq ((.int .i64) : Ty)) (((rdT ty6 x8 x1).2).1) 1 m22, ()))
                  else
                    match verify_checker_instr_2_c16 n (((), x1, (), ()), ((x14, x15, x16, x17, x18, x19, x20, (), (), ()), l21, m22, ((rdT ty6 x8 x1).1, ((rdT ty6 x8 x1).2).1, (((rdT ty6 x8 x1).2).2).1, ((((rdT ty6 x8 x1).2).2).2).1, (((((rdT ty6 x8 x1).2).2).2).2).1, (((((rdT ty6 x8 x1).2).2).2).2).2, ()), ())) with
                    | some (.inl ((_, x138, _, x139, _), ((x140, x141, x142, x143, x144, x145, x146, _, _, _), l147, m148, (x149, x150, x151, x152, x153, x154, _), _))) => (
                      if x139 then
                        if decide (x154 ≤ x138) then
                          match verify_at n ((x138, ErrV.sent 104, ()), ()) with
                          | some ((x155, _), _) => (
                            some ((x155, ()), ((x140, x141, x142, x143, x144, x145, x146, (), (), ()), l147, m148, ())))
                          | none => none
                        else
                          if decide (x154 ≥ (x146.length : Int)) then
                            match verify_at n ((x138, ErrV.sent 104, ()), ()) with
                            | some ((x156, _), _) => (
                              some ((x156, ()), ((x140, x141, x142, x143, x144, x145, x146, (), (), ()), l147, m148, ())))
                            | none => none
                          else
                            some ((ErrV.nil, ()), ((x140, x141, x142, x143, x144, x145, x146, (), (), ()), l147, m148, ()))
                      else
                        some ((ErrV.nil, ()), ((x140, x141, x142, x143, x144, x145, x146, (), (), ()), l147, m148, ())))
                    | some (.inr (_)) => none
                    | none => none)
          | none => none) else none
def verify_checker_instr_2_H (n : Nat) : Hints := ⟨[], fun _ => [], fun _ => none, fun k => match k with | 16 => some ⟨[0, 1, 5], verify_checker_instr_2_c16_h, verify_checker_instr_2_c16_o, fun n => verify_checker_instr_2_c16 n⟩ | _ => none, fun _ => none⟩
def verify_checker_instr_2_O (n : Nat) : FuncId → List FSpec := asc [(27, ⟨verify_at_ins, verify_at_outs, verify_at n⟩), (49, ⟨verify_checker_there_2_ins, verify_checker_there_2_outs, verify_checker_there_2 n⟩)]
theorem verify_checker_instr_2_c16_k15 (n : Nat) : CutOk P CC (verify_checker_instr_2_O n) n 3 114 (verify_checker_instr_2_H n) ⟨[0, 1, 5], verify_checker_instr_2_c16_h, verify_checker_instr_2_c16_o, fun n => verify_checker_instr_2_c16 n⟩ ((cutsOf b30).getD 15 (0, .skip)).2 := by
  rintro ⟨⟨⟨⟩, x1, ⟨⟩, ⟨⟩⟩, ⟨⟨x2, x3, x4, x5, x6, x7, x8, ⟨⟩, ⟨⟩, ⟨⟩⟩, x9, x10, ⟨x11, x12, x13, x14, x15, x16, ⟨⟩⟩, ⟨⟩⟩⟩
  kernel_rfl
theorem verify_checker_instr_2_ok {S : Nat → Addr} (ok : CfgOk P CC S) : ∀ n, SpecOk P CC S 30 ⟨verify_checker_instr_2_ins, verify_checker_instr_2_outs, verify_checker_instr_2 n⟩ :=
  fn_all ok (O := verify_checker_instr_2_O) (H := verify_checker_instr_2_H) (fn := Tryd.f30) (body := b30) (by kernel_rfl) (by kernel_rfl) (by kernel_rfl) (by decide) (by kernel_rfl)
    (fun x => by kernel_rfl) (fun n => by
      rintro ⟨⟨⟨⟩, x1, ⟨⟩⟩, ⟨⟨x2, x3, x4, x5, x6, x7, x8, ⟨⟩, ⟨⟩, ⟨⟩⟩, x9, x10, ⟨⟩⟩⟩
      kernel_rfl)
    (fun n => obl_of (by kernel_rfl) (by kernel_rfl) (lz) (cn (cn (cn (cn (cs (cn (cn (cn (cn (cn (cn (cn (cn (cn (cn (cn (cn (cn (cn (cn (cz) (by kernel_rfl)) (by kernel_rfl)) (by kernel_rfl)) (by kernel_rfl)) (by kernel_rfl)) (by kernel_rfl)) (by kernel_rfl)) (by kernel_rfl)) (by kernel_rfl)) (by kernel_rfl)) (by kernel_rfl)) (by kernel_rfl)) (by kernel_rfl)) (by kernel_rfl)) (by kernel_rfl)) (by kernel_rfl) (verify_checker_instr_2_c16_k15 n)) (by kernel_rfl)) (by kernel_rfl)) (by kernel_rfl)) (by kernel_rfl)) (hn fun _ => rfl))
    (fun n ih => asc_cons (verify_at_ok ok n) <| asc_cons (verify_checker_there_2_ok ok n) <| asc_nil)
/-! ### pendulum/verify.Object -/
abbrev verify_Object_2_ins : Sh := ⟨[(.agg [(.val .str), (.val ty5), (.val ty5), (.val (.int .i64)), (.val ty15), (.val ty17), (.val ty18)]), (.one (.val ty21))], []⟩
abbrev verify_Object_2_outs : List Sh := [⟨[(.one (.val .err))], []⟩]
abbrev verify_Object_2_l5_h : Sh := ⟨[(.one (.val ty21)), (.one (.ptr 0 0)), (.one (.ptr 1 0)), (.one (.val ty20)), (.one (.val (.int .i64))), (.one (.val (.int .i64)))], [(.obj 34 [(.val .str), (.val ty5), (.val ty5), (.val (.int .i64)), (.val ty15), (.val ty17), (.val ty18)]), (.obj 74 [(.val .str), (.val ty5), (.val ty5), (.val (.int .i64)), (.val ty15), (.val ty17), (.val ty18), (.arr 2), (.map 3)]), (.arr 56 ty3), (.map (.int .i64) (.int .i64) false)]⟩
abbrev verify_Object_2_l5_o : List Out := [⟨(.exit 0), [2, 5], ⟨[(.one (.ptr 0 0)), (.one (.ptr 1 0))], [(.obj 34 [(.val .str), (.val ty5), (.val ty5), (.val (.int .i64)), (.val ty15), (.val ty17), (.val ty18)]), (.obj 74 [(.val .str), (.val ty5), (.val ty5), (.val (.int .i64)), (.val ty15), (.val ty17), (.val ty18), (.arr 2), (.map 3)]), (.arr 56 ty3), (.map (.int .i64) (.int .i64) false)]⟩⟩, ⟨.ret, [4], ⟨[(.one (.val .err))], []⟩⟩]
def verify_Object_2_l5 (n : Nat) : Nat → verify_Object_2_l5_h.T → Option (OutT verify_Object_2_l5_o)
  | 0, _ => none
  | k + 1, ((x1, _, _, x2, x3, x4, _), ((x5, x6, x7, x8, x9, x10, x11, _), (x12, x13, x14, x15, x16, x17, x18, _, _, _), l19, m20, _)) =>
    if decide (x4 < x3) then
      if 0 ≤ x4 ∧ x4 < (x2.length : Int) then (
        match slices_IndexFunc_api_Face_api_Face n ((x1, (), ()), (((rdT ty2 x2 x4).1, (rdT ty2 x2 x4).2, ()), ())) with
        | some ((x21, _), ((x22, x23, _), _)) => (
          if decide (x21 < 0) then
            match verify_at n (((-1), ErrV.sent 116, ()), ()) with
            | some ((x24, _), _) => (
              some (.inr (.inl ((x24, ()), ()))))
            | none => none
          else
            if 0 ≤ x21 ∧ x21 < (x1.length : Int) then (
              if (l19.length + ([((rdT ty3 x1 x21).1, ((rdT ty3 x1 x21).2))] : List ty3.T).length) * 64 ≤ 140737488355328 then (
                let v25 : Int := IntKind.i64.wrap (x4 + 1)
                verify_Object_2_l5 n k ((x1, (), (), x2, x3, v25, ()), ((x5, x6, x7, x8, x9, x10, x11, ()), (x12, x13, x14, x15, x16, x17, x18, (), (), ()), l19 ++ [((rdT ty3 x1 x21).1, ((rdT ty3 x1 x21).2))], m20, ()))) else none) else none)
        | none => none) else none
    else
      some (.inl (((), (), ()), ((x5, x6, x7, x8, x9, x10, x11, ()), (x12, x13, x14, x15, x16, x17, x18, (), (), ()), l19, m20, ())))
abbrev verify_Object_2_l16_h : Sh := ⟨[(.one (.ptr 0 0)), (.one (.val (.int .i64))), (.one (.val (.int .i64)))], [(.obj 74 [(.val .str), (.val ty5), (.val ty5), (.val (.int .i64)), (.val ty15), (.val ty17), (.val ty18), (.arr 1), (.map 2)]), (.arr 56 ty3), (.map (.int .i64) (.int .i64) false)]⟩
abbrev verify_Object_2_l16_o : List Out := [⟨(.exit 2), [], ⟨[], []⟩⟩, ⟨.ret, [4], ⟨[(.one (.val .err))], []⟩⟩]
def verify_Object_2_l16 (n : Nat) : Nat → verify_Object_2_l16_h.T → Option (OutT verify_Object_2_l16_o)
  | 0, _ => none
  | k + 1, ((_, x1, x2, _), ((x3, x4, x5, x6, x7, x8, x9, _, _, _), l10, m11, _)) =>
    if decide (x2 < x1) then
      match verify_checker_instr_2 n (((), x2, ()), ((x3, x4, x5, x6, x7, x8, x9, (), (), ()), l10, m11, ())) with
      | some ((x12, _), ((x13, x14, x15, x16, x17, x18, x19, _, _, _), l20, m21, _)) => (
        if !(errNil x12) then
          some (.inr (.inl ((x12, ()), ())))
        else
          let v22 : Int := IntKind.i64.wrap (x2 + 1)
          verify_Object_2_l16 n k (((), x1, v22, ()), ((x13, x14, x15, x16, x17, x18, x19, (), (), ()), l20, m21, ())))
      | none => none
    else
      some (.inl ((), ()))
def verify_Object_2 : Nat → verify_Object_2_ins.T → Option (OutsT verify_Object_2_outs)
  | 0, _ => none
  | n + 1, (((x1, x2, x3, x4, x5, x6, x7, _), x8, _), _) =>
    match verify_shape_2 n (((x1, x2, x3, x4, x5, x6, x7, ()), ()), ()) with
    | some ((x9, _), _) => (
      if !x9 then
        match verify_at n (((-1), ErrV.sent 102, ()), ()) with
        | some ((x10, _), _) => (
          some ((x10, ()), ()))
        | none => none
      else
        match verify_Object_2_l5 n n ((x8, (), (), x6.2, (x6.2.length : Int), 0, ()), ((x1, x2, x3, x4, x5, x6, x7, ()), (x1, x2, x3, x4, x5, x6, x7, (), (), ()), [], [], ())) with
        | some (.inl ((_, _, _), ((x11, x12, x13, x14, x15, x16, x17, _), (x18, x19, x20, x21, x22, x23, x24, _, _, _), l25, m26, _))) => (
          if (x17.length : Int) == 0 then
            match verify_at n (((x17.length : Int), ErrV.sent 101, ()), ()) with
            | some ((x29, _), _) => (
              some ((x29, ()), ()))
            | none => none
          else
            let v28 : Int := IntKind.i64.wrap ((x17.length : Int) - 1)
            if 0 ≤ v28 ∧ v28 < (x17.length : Int) then (
              if (rdT ty6 x17 v28).1 != 12 then
                match verify_at n (((x17.length : Int), ErrV.sent 101, ()), ()) with
                | some ((x30, _), _) => (
                  some ((x30, ()), ()))
                | none => none
              else
                match verify_Object_2_l16 n n (((), (x17.length : Int), 0, ()), ((x18, x19, x20, x21, x22, x23, x24, (), (), ()), l25, m26, ())) with
                | some (.inl (_, _)) => (
                  some ((ErrV.nil, ()), ()))
                | some (.inr (.inl ((x31, _), _))) => (
                  some ((x31, ()), ()))
                | some (.inr (.inr (_))) => none
                | none => none) else none)
        | some (.inr (.inl ((x27, _), _))) => (
          some ((x27, ()), ()))
        | some (.inr (.inr (_))) => none
        | none => none)
    | none => none
def verify_Object_2_H (n : Nat) : Hints := ⟨[], fun _ => [], fun k => match k with | 5 => some ⟨[1, 2, 5, 22, 23, 24], verify_Object_2_l5_h, verify_Object_2_l5_o, verify_Object_2_l5 n⟩ | 16 => some ⟨[5, 69, 70], verify_Object_2_l16_h, verify_Object_2_l16_o, verify_Object_2_l16 n⟩ | _ => none, fun _ => none, fun _ => none⟩
def verify_Object_2_O (n : Nat) : FuncId → List FSpec := asc [(26, ⟨verify_shape_2_ins, verify_shape_2_outs, verify_shape_2 n⟩), (27, ⟨verify_at_ins, verify_at_outs, verify_at n⟩), (28, ⟨slices_IndexFunc_api_Face_api_Face_ins, slices_IndexFunc_api_Face_api_Face_outs, slices_IndexFunc_api_Face_api_Face n⟩), (30, ⟨verify_checker_instr_2_ins, verify_checker_instr_2_outs, verify_checker_instr_2 n⟩)]
theorem verify_Object_2_l5_k0 (n : Nat) : LoopOk P CC (verify_Object_2_O n) n 0 80 (verify_Object_2_H n) ⟨[1, 2, 5, 22, 23, 24], verify_Object_2_l5_h, verify_Object_2_l5_o, verify_Object_2_l5 n⟩ ((loopsOf b12).getD 0 .skip) := by
  refine ⟨fun _ => by kernel_rfl, ?_⟩
  rintro k ⟨⟨x1, ⟨⟩, ⟨⟩, x2, x3, x4, ⟨⟩⟩, ⟨⟨x5, x6, x7, x8, x9, x10, x11, ⟨⟩⟩, ⟨x12, x13, x14, x15, x16, x17, x18, ⟨⟩, ⟨⟩, ⟨⟩⟩, x19, x20, ⟨⟩⟩⟩
  kernel_rfl
theorem verify_Object_2_l16_k1 (n : Nat) : LoopOk P CC (verify_Object_2_O n) n 0 80 (verify_Object_2_H n) ⟨[5, 69, 70], verify_Object_2_l16_h, verify_Object_2_l16_o, verify_Object_2_l16 n⟩ ((loopsOf b12).getD 1 .skip) := by
  refine ⟨fun _ => by kernel_rfl, ?_⟩
  rintro k ⟨⟨⟨⟩, x1, x2, ⟨⟩⟩, ⟨⟨x3, x4, x5, x6, x7, x8, x9, ⟨⟩, ⟨⟩, ⟨⟩⟩, x10, x11, ⟨⟩⟩⟩
  kernel_rfl
theorem verify_Object_2_ok {S : Nat → Addr} (ok : CfgOk P CC S) : ∀ n, SpecOk P CC S 12 ⟨verify_Object_2_ins, verify_Object_2_outs, verify_Object_2 n⟩ :=
  fn_all ok (O := verify_Object_2_O) (H := verify_Object_2_H) (fn := Tryd.f12) (body := b12) (by kernel_rfl) (by kernel_rfl) (by kernel_rfl) (by decide) (by kernel_rfl)
    (fun x => by kernel_rfl) (fun n => by
      rintro ⟨⟨⟨x1, x2, x3, x4, x5, x6, x7, ⟨⟩⟩, x8, ⟨⟩⟩, ⟨⟩⟩
      kernel_rfl)
    (fun n => obl_of (by kernel_rfl) (by kernel_rfl) (ls (ls (lz) (by kernel_rfl) (verify_Object_2_l5_k0 n)) (by kernel_rfl) (verify_Object_2_l16_k1 n)) (cn (cn (cn (cn (cn (cn (cn (cn (cn (cn (cn (cn (cn (cn (cn (cn (cn (cn (cn (cn (cn (cn (cn (cn (cn (cn (cn (cn (cn (cz) (by kernel_rfl)) (by kernel_rfl)) (by kernel_rfl)) (by kernel_rfl)) (by kernel_rfl)) (by kernel_rfl)) (by kernel_rfl)) (by kernel_rfl)) (by kernel_rfl)) (by kernel_rfl)) (by kernel_rfl)) (by kernel_rfl)) (by kernel_rfl)) (by kernel_rfl)) (by kernel_rfl)) (by kernel_rfl)) (by kernel_rfl)) (by kernel_rfl)) (by kernel_rfl)) (by kernel_rfl)) (by kernel_rfl)) (by kernel_rfl)) (by kernel_rfl)) (by kernel_rfl)) (by kernel_rfl)) (by kernel_rfl)) (by kernel_rfl)) (by kernel_rfl)) (by kernel_rfl)) (hn fun _ => rfl))
    (fun n ih => asc_cons (verify_shape_2_ok ok n) <| asc_cons (verify_at_ok ok n) <| asc_cons (slices_IndexFunc_api_Face_api_Face_ok ok n) <| asc_cons (verify_checker_instr_2_ok ok n) <| asc_nil)
/-! ### pendulum/verify.All -/
abbrev verify_All_ins : Sh := ⟨[(.one (.val .str)), (.one (.val ty22))], []⟩
abbrev verify_All_outs : List Sh := [⟨[(.one (.val .err))], []⟩]
abbrev verify_All_l10_h : Sh := ⟨[(.one (.arr 0)), (.one (.arr 1)), (.one (.map 2)), (.one (.val ty22)), (.one (.val (.int .i64))), (.one (.val (.int .i64)))], [(.arr 9 .str), (.arr 56 ty3), (.map .str ty10 true)]⟩
abbrev verify_All_l10_o : List Out := [⟨(.exit 0), [7, 9, 10], ⟨[(.one (.arr 0)), (.one (.arr 1)), (.one (.map 2))], [(.arr 9 .str), (.arr 56 ty3), (.map .str ty10 true)]⟩⟩]
def verify_All_l10 (n : Nat) : Nat → verify_All_l10_h.T → Option (OutT verify_All_l10_o)
  | 0, _ => none
  | k + 1, ((_, _, _, x1, x2, x3, _), (l4, l5, m6, _)) =>
    if decide (x3 < x2) then
      if 0 ≤ x3 ∧ x3 < (x1.length : Int) then (
        match obj_Face n ((((rdT ty10 x1 x3).1, ((rdT ty10 x1 x3).2).1, (((rdT ty10 x1 x3).2).2).1, ((((rdT ty10 x1 x3).2).2).2).1, (((((rdT ty10 x1 x3).2).2).2).2).1, ((((((rdT ty10 x1 x3).2).2).2).2).2).1, ((((((rdT ty10 x1 x3).2).2).2).2).2).2, ()), ()), ()) with
        | some (((x7, _, _, _), _), (l8, l9, _)) => (
          if (l5.length + ([(x7, (l8, l9))] : List ty3.T).length) * 64 ≤ 140737488355328 then (
            let v10 : Int := IntKind.i64.wrap (x3 + 1)
            verify_All_l10 n k (((), (), (), x1, x2, v10, ()), (l4, l5 ++ [(x7, (l8, l9))], mset (keyEq (.str : Ty)) ((rdT ty10 x1 x3).1) ((rdT ty10 x1 x3).1, (((rdT ty10 x1 x3).2).1, ((((rdT ty10 x1 x3).2).2).1, (((((rdT ty10 x1 x3).2).2).2).1, ((((((rdT ty10 x1 x3).2).2).2).2).1, ((((((rdT ty10 x1 x3).2).2).2).2).2)))))) m6, ()))) else none)
        | none => none) else none
    else
      some (.inl (((), (), (), ()), (l4, l5, m6, ())))
abbrev verify_All_l16_h : Sh := ⟨[(.one (.val ty21)), (.one (.map 0)), (.one (.arr 1)), (.one (.val (.int .i64))), (.one (.val (.int .i64)))], [(.map .str ty10 true), (.arr 9 .str)]⟩
abbrev verify_All_l16_o : List Out := [⟨(.exit 2), [], ⟨[], []⟩⟩, ⟨.ret, [4], ⟨[(.one (.val .err))], []⟩⟩]
def verify_All_l16 (n : Nat) : Nat → verify_All_l16_h.T → Option (OutT verify_All_l16_o)
  | 0, _ => none
  | k + 1, ((x1, _, _, x2, x3, _), (m4, l5, _)) =>
    if decide (x3 < x2) then
      if 0 ≤ x3 ∧ x3 < (l5.length : Int) then (
        let v6 : ty10.T := (mfind (keyEq (.str : Ty)) (rdT (.str : Ty) l5 x3) m4).getD ((⟨#[]⟩ : ByteArray), ([], ([], (0, ([], ((true, []), []))))))
        match verify_Object_2 n (((v6.1, v6.2.1, v6.2.2.1, v6.2.2.2.1, v6.2.2.2.2.1, v6.2.2.2.2.2.1, v6.2.2.2.2.2.2, ()), x1, ()), ()) with
        | some ((x7, _), _) => (
          if !(errNil x7) then
            some (.inr (.inl ((x7, ()), ())))
          else
            let v8 : Int := IntKind.i64.wrap (x3 + 1)
            verify_All_l16 n k ((x1, (), (), x2, v8, ()), (m4, l5, ())))
        | none => none) else none
    else
      some (.inl ((), ()))
def verify_All : Nat → verify_All_ins.T → Option (OutsT verify_All_outs)
  | 0, _ => none
  | n + 1, ((x1, x2, _), _) =>
    match lay_Of n ((x1, x2, ()), ()) with
    | some ((((_, _), (x3, _), _), _), (l4, _)) => (
      if !(errNil x3) then
        some ((x3, ()), ())
      else
        match lay_Uses n ((x1, x2, ()), ()) with
        | some ((((_, _), (x5, _), _), _), (l6, _)) => (
          if !(errNil x5) then
            some ((x5, ()), ())
          else
            match verify_All_l10 n n (((), (), (), x2, (x2.length : Int), 0, ()), (l6, [], [], ())) with
            | some (.inl ((_, _, _, _), (l7, l8, m9, _))) => (
              match verify_All_l16 n n ((l8, (), (), (l7.length : Int), 0, ()), (m9, l7, ())) with
              | some (.inl (_, _)) => (
                some ((ErrV.nil, ()), ()))
              | some (.inr (.inl ((x10, _), _))) => (
                some ((x10, ()), ()))
              | some (.inr (.inr (_))) => none
              | none => none)
            | some (.inr (_)) => none
            | none => none)
        | none => none)
    | none => none
def verify_All_H (n : Nat) : Hints := ⟨[], fun _ => [], fun k => match k with | 10 => some ⟨[7, 9, 10, 35, 36, 37], verify_All_l10_h, verify_All_l10_o, verify_All_l10 n⟩ | 16 => some ⟨[9, 10, 51, 52, 53], verify_All_l16_h, verify_All_l16_o, verify_All_l16 n⟩ | _ => none, fun _ => none, fun _ => none⟩
def verify_All_O (n : Nat) : FuncId → List FSpec := asc [(12, ⟨verify_Object_2_ins, verify_Object_2_outs, verify_Object_2 n⟩), (14, ⟨lay_Of_ins, lay_Of_outs, lay_Of n⟩), (15, ⟨lay_Uses_ins, lay_Uses_outs, lay_Uses n⟩), (16, ⟨obj_Face_ins, obj_Face_outs, obj_Face n⟩)]
def b8 : Code := bodyOf Tryd.f8
theorem verify_All_l10_k0 (n : Nat) : LoopOk P CC (verify_All_O n) n 0 66 (verify_All_H n) ⟨[7, 9, 10, 35, 36, 37], verify_All_l10_h, verify_All_l10_o, verify_All_l10 n⟩ ((loopsOf b8).getD 0 .skip) := by
  refine ⟨fun _ => by kernel_rfl, ?_⟩
  rintro k ⟨⟨⟨⟩, ⟨⟩, ⟨⟩, x1, x2, x3, ⟨⟩⟩, ⟨x4, x5, x6, ⟨⟩⟩⟩
  kernel_rfl
theorem verify_All_l16_k1 (n : Nat) : LoopOk P CC (verify_All_O n) n 0 66 (verify_All_H n) ⟨[9, 10, 51, 52, 53], verify_All_l16_h, verify_All_l16_o, verify_All_l16 n⟩ ((loopsOf b8).getD 1 .skip) := by
  refine ⟨fun _ => by kernel_rfl, ?_⟩
  rintro k ⟨⟨x1, ⟨⟩, ⟨⟩, x2, x3, ⟨⟩⟩, ⟨x4, x5, ⟨⟩⟩⟩
  kernel_rfl
theorem verify_All_ok {S : Nat → Addr} (ok : CfgOk P CC S) : ∀ n, SpecOk P CC S 8 ⟨verify_All_ins, verify_All_outs, verify_All n⟩ :=
  fn_all ok (O := verify_All_O) (H := verify_All_H) (fn := Tryd.f8) (body := b8) (by kernel_rfl) (by kernel_rfl) (by kernel_rfl) (by decide) (by kernel_rfl)
    (fun x => by kernel_rfl) (fun n => by
      rintro ⟨⟨x1, x2, ⟨⟩⟩, ⟨⟩⟩
      kernel_rfl)
    (fun n => obl_of (by kernel_rfl) (by kernel_rfl) (ls (ls (lz) (by kernel_rfl) (verify_All_l10_k0 n)) (by kernel_rfl) (verify_All_l16_k1 n)) (cn (cn (cn (cn (cn (cn (cn (cn (cn (cn (cn (cn (cn (cn (cn (cn (cn (cn (cn (cn (cn (cn (cn (cn (cn (cn (cn (cn (cz) (by kernel_rfl)) (by kernel_rfl)) (by kernel_rfl)) (by kernel_rfl)) (by kernel_rfl)) (by kernel_rfl)) (by kernel_rfl)) (by kernel_rfl)) (by kernel_rfl)) (by kernel_rfl)) (by kernel_rfl)) (by kernel_rfl)) (by kernel_rfl)) (by kernel_rfl)) (by kernel_rfl)) (by kernel_rfl)) (by kernel_rfl)) (by kernel_rfl)) (by kernel_rfl)) (by kernel_rfl)) (by kernel_rfl)) (by kernel_rfl)) (by kernel_rfl)) (by kernel_rfl)) (by kernel_rfl)) (by kernel_rfl)) (by kernel_rfl)) (by kernel_rfl)) (hn fun _ => rfl))
    (fun n ih => asc_cons (verify_Object_2_ok ok n) <| asc_cons (lay_Of_ok ok n) <| asc_cons (lay_Uses_ok ok n) <| asc_cons (obj_Face_ok ok n) <| asc_nil)
/-! ### pendulum/pendulumref17.object -/
abbrev ref17_object_ins : Sh := ⟨[(.one (.val ty22)), (.one (.val .str))], []⟩
abbrev ref17_object_outs : List Sh := [⟨[(.one (.val (.int .i64)))], []⟩]
abbrev ref17_object_l2_h : Sh := ⟨[(.one (.val ty22)), (.one (.val .str)), (.one (.val (.int .i64)))], []⟩
abbrev ref17_object_l2_o : List Out := [⟨(.exit 0), [], ⟨[], []⟩⟩, ⟨.ret, [4], ⟨[(.one (.val (.int .i64)))], []⟩⟩]
def ref17_object_l2 (n : Nat) : Nat → ref17_object_l2_h.T → Option (OutT ref17_object_l2_o)
  | 0, _ => none
  | k + 1, ((x1, x2, x3, _), _) =>
    if decide (x3 < (x1.length : Int)) then
      if 0 ≤ x3 ∧ x3 < (x1.length : Int) then (
        if strEq ((rdT ty10 x1 x3).1) x2 then
          some (.inr (.inl ((x3, ()), ())))
        else
          let v4 : Int := IntKind.i64.wrap (x3 + 1)
          ref17_object_l2 n k ((x1, x2, v4, ()), ())) else none
    else
      some (.inl ((), ()))
def ref17_object : Nat → ref17_object_ins.T → Option (OutsT ref17_object_outs)
  | 0, _ => none
  | n + 1, ((x1, x2, _), _) =>
    match ref17_object_l2 n n ((x1, x2, 0, ()), ()) with
    | some (.inl (_, _)) => (
      some (((-1), ()), ()))
    | some (.inr (.inl ((x3, _), _))) => (
      some ((x3, ()), ()))
    | some (.inr (.inr (_))) => none
    | none => none
def ref17_object_H (n : Nat) : Hints := ⟨[], fun _ => [], fun k => match k with | 2 => some ⟨[0, 1, 5], ref17_object_l2_h, ref17_object_l2_o, ref17_object_l2 n⟩ | _ => none, fun _ => none, fun _ => none⟩
def ref17_object_O (n : Nat) : FuncId → List FSpec := asc []
def b25 : Code := bodyOf Tryd.f25
theorem ref17_object_l2_k0 (n : Nat) : LoopOk P CC (ref17_object_O n) n 0 20 (ref17_object_H n) ⟨[0, 1, 5], ref17_object_l2_h, ref17_object_l2_o, ref17_object_l2 n⟩ ((loopsOf b25).getD 0 .skip) := by
  refine ⟨fun _ => by kernel_rfl, ?_⟩
  rintro k ⟨⟨x1, x2, x3, ⟨⟩⟩, ⟨⟩⟩
  kernel_rfl
theorem ref17_object_ok {S : Nat → Addr} (ok : CfgOk P CC S) : ∀ n, SpecOk P CC S 25 ⟨ref17_object_ins, ref17_object_outs, ref17_object n⟩ :=
  fn_all ok (O := ref17_object_O) (H := ref17_object_H) (fn := Tryd.f25) (body := b25) (by kernel_rfl) (by kernel_rfl) (by kernel_rfl) (by decide) (by kernel_rfl)
    (fun x => by kernel_rfl) (fun n => by
      rintro ⟨⟨x1, x2, ⟨⟩⟩, ⟨⟩⟩
      kernel_rfl)
    (fun n => obl_of (by kernel_rfl) (by kernel_rfl) (ls (lz) (by kernel_rfl) (ref17_object_l2_k0 n)) (cn (cn (cn (cn (cn (cn (cn (cn (cn (cz) (by kernel_rfl)) (by kernel_rfl)) (by kernel_rfl)) (by kernel_rfl)) (by kernel_rfl)) (by kernel_rfl)) (by kernel_rfl)) (by kernel_rfl)) (by kernel_rfl)) (hn fun _ => rfl))
    (fun n ih => asc_nil)
/-! ### pendulum/pendulumref.Among -/
abbrev ref_Among_ins : Sh := ⟨[(.one (.arr 0)), (.one (.val .str))], [(.arr 9 .str)]⟩
abbrev ref_Among_outs : List Sh := [⟨[(.one (.val (.int .i64)))], [(.arr 9 .str)]⟩]
abbrev ref_Among_l2_h : Sh := ⟨[(.one (.arr 0)), (.one (.val .str)), (.one (.val (.int .i64)))], [(.arr 9 .str)]⟩
abbrev ref_Among_l2_o : List Out := [⟨(.exit 0), [], ⟨[], [(.arr 9 .str)]⟩⟩, ⟨.ret, [4], ⟨[(.one (.val (.int .i64)))], [(.arr 9 .str)]⟩⟩]
def ref_Among_l2 (n : Nat) : Nat → ref_Among_l2_h.T → Option (OutT ref_Among_l2_o)
  | 0, _ => none
  | k + 1, ((_, x1, x2, _), (l3, _)) =>
    if decide (x2 < (l3.length : Int)) then
      if 0 ≤ x2 ∧ x2 < (l3.length : Int) then (
        if strEq (rdT (.str : Ty) l3 x2) x1 then
          some (.inr (.inl ((x2, ()), (l3, ()))))
        else
          let v4 : Int := IntKind.i64.wrap (x2 + 1)
          ref_Among_l2 n k (((), x1, v4, ()), (l3, ()))) else none
    else
      some (.inl ((), (l3, ())))
def ref_Among : Nat → ref_Among_ins.T → Option (OutsT ref_Among_outs)
  | 0, _ => none
  | n + 1, ((_, x1, _), (l2, _)) =>
    match ref_Among_l2 n n (((), x1, 0, ()), (l2, ())) with
    | some (.inl (_, (l3, _))) => (
      some (((-1), ()), (l3, ())))
    | some (.inr (.inl ((x4, _), (l5, _)))) => (
      some ((x4, ()), (l5, ())))
    | some (.inr (.inr (_))) => none
    | none => none
def ref_Among_H (n : Nat) : Hints := ⟨[], fun _ => [], fun k => match k with | 2 => some ⟨[0, 1, 5], ref_Among_l2_h, ref_Among_l2_o, ref_Among_l2 n⟩ | _ => none, fun _ => none, fun _ => none⟩
def ref_Among_O (n : Nat) : FuncId → List FSpec := asc []
def b42 : Code := bodyOf Tryd.f42
theorem ref_Among_l2_k0 (n : Nat) : LoopOk P CC (ref_Among_O n) n 1 19 (ref_Among_H n) ⟨[0, 1, 5], ref_Among_l2_h, ref_Among_l2_o, ref_Among_l2 n⟩ ((loopsOf b42).getD 0 .skip) := by
  refine ⟨fun _ => by kernel_rfl, ?_⟩
  rintro k ⟨⟨⟨⟩, x1, x2, ⟨⟩⟩, ⟨x3, ⟨⟩⟩⟩
  kernel_rfl
theorem ref_Among_ok {S : Nat → Addr} (ok : CfgOk P CC S) : ∀ n, SpecOk P CC S 42 ⟨ref_Among_ins, ref_Among_outs, ref_Among n⟩ :=
  fn_all ok (O := ref_Among_O) (H := ref_Among_H) (fn := Tryd.f42) (body := b42) (by kernel_rfl) (by kernel_rfl) (by kernel_rfl) (by decide) (by kernel_rfl)
    (fun x => by kernel_rfl) (fun n => by
      rintro ⟨⟨⟨⟩, x1, ⟨⟩⟩, ⟨x2, ⟨⟩⟩⟩
      kernel_rfl)
    (fun n => obl_of (by kernel_rfl) (by kernel_rfl) (ls (lz) (by kernel_rfl) (ref_Among_l2_k0 n)) (cn (cn (cn (cn (cn (cn (cn (cn (cn (cz) (by kernel_rfl)) (by kernel_rfl)) (by kernel_rfl)) (by kernel_rfl)) (by kernel_rfl)) (by kernel_rfl)) (by kernel_rfl)) (by kernel_rfl)) (by kernel_rfl)) (hn fun _ => rfl))
    (fun n ih => asc_nil)
/-! ### pendulum/pendulumref.Rising -/
abbrev ref_Rising_ins : Sh := ⟨[(.one (.arr 0))], [(.arr 9 .str)]⟩
abbrev ref_Rising_outs : List Sh := [⟨[(.one (.arr 1))], [(.arr 9 .str), (.arr 9 .str)]⟩]
abbrev ref_Rising_l6_h : Sh := ⟨[(.one (.arr 0)), (.one (.arr 1)), (.one (.val (.int .i64))), (.one (.val (.int .i64)))], [(.arr 9 .str), (.arr 9 .str)]⟩
abbrev ref_Rising_l6_o : List Out := [⟨(.exit 2), [0, 3, 4, 5], ⟨[(.one (.arr 0)), (.one (.arr 1)), (.one (.val (.int .i64))), (.one (.val (.int .i64)))], [(.arr 9 .str), (.arr 9 .str)]⟩⟩]
def ref_Rising_l6 (n : Nat) : Nat → ref_Rising_l6_h.T → Option (OutT ref_Rising_l6_o)
  | 0, _ => none
  | k + 1, ((_, _, x1, x2, _), (l3, l4, _)) =>
    if decide (x2 < (l4.length : Int)) then
      if 0 ≤ x2 ∧ x2 < (l4.length : Int) then (
        if 0 ≤ x1 ∧ x1 < (l3.length : Int) then (
          if strLt (rdT (.str : Ty) l4 x2) (rdT (.str : Ty) l3 x1) then
            let v5 : Int := IntKind.i64.wrap (x2 + 1)
            ref_Rising_l6 n k (((), (), x1, v5, ()), (l3, l4, ()))
          else
            some (.inl (((), (), x1, x2, ()), (l3, l4, ())))) else none) else none
    else
      some (.inl (((), (), x1, x2, ()), (l3, l4, ())))
abbrev ref_Rising_c9_h : Sh := ⟨[(.one (.arr 0)), (.one (.arr 1)), (.one (.val (.int .i64))), (.one (.val (.int .i64)))], [(.arr 9 .str), (.arr 9 .str)]⟩
abbrev ref_Rising_c9_o : List Out := [⟨(.exit 1), [0, 3, 4], ⟨[(.one (.arr 0)), (.one (.arr 1)), (.one (.val (.int .i64)))], [(.arr 9 .str), (.arr 9 .str)]⟩⟩, ⟨.normal, [0, 3, 4, 5], ⟨[(.one (.arr 0)), (.one (.arr 1)), (.one (.val (.int .i64))), (.one (.val (.int .i64)))], [(.arr 9 .str), (.arr 9 .str)]⟩⟩]
def ref_Rising_c9 (n : Nat) : ref_Rising_c9_h.T → Option (OutT ref_Rising_c9_o)
  | ((_, _, x1, x2, _), (l3, l4, _)) =>
    if decide (x2 < (l4.length : Int)) then
      if 0 ≤ x2 ∧ x2 < (l4.length : Int) then (
        if 0 ≤ x1 ∧ x1 < (l3.length : Int) then (
          if strEq (rdT (.str : Ty) l4 x2) (rdT (.str : Ty) l3 x1) then
            some (.inl (((), (), x1, ()), (l3, l4, ())))
          else
            some (.inr (.inl (((), (), x1, x2, ()), (l3, l4, ()))))) else none) else none
    else
      some (.inr (.inl (((), (), x1, x2, ()), (l3, l4, ()))))
abbrev ref_Rising_l3_h : Sh := ⟨[(.one (.arr 0)), (.one (.arr 1)), (.one (.val (.int .i64)))], [(.arr 9 .str), (.arr 9 .str)]⟩
abbrev ref_Rising_l3_o : List Out := [⟨(.exit 0), [3], ⟨[(.one (.arr 1))], [(.arr 9 .str), (.arr 9 .str)]⟩⟩]
def ref_Rising_l3 (n : Nat) : Nat → ref_Rising_l3_h.T → Option (OutT ref_Rising_l3_o)
  | 0, _ => none
  | k + 1, ((_, _, x1, _), (l2, l3, _)) =>
    if decide (x1 < (l2.length : Int)) then
      match ref_Rising_l6 n n (((), (), x1, 0, ()), (l2, l3, ())) with
      | some (.inl ((_, _, x4, x5, _), (l6, l7, _))) => (
        match ref_Rising_c9 n (((), (), x4, x5, ()), (l6, l7, ())) with
        | some (.inl ((_, _, x8, _), (l9, l10, _))) => (
          let v17 : Int := IntKind.i64.wrap (x8 + 1)
          ref_Rising_l3 n k (((), (), v17, ()), (l9, l10, ())))
        | some (.inr (.inl ((_, _, x11, x12, _), (l13, l14, _)))) => (
          let v15 : Int := IntKind.i64.wrap ((l14.length : Int) + 1)
          if 0 ≤ (0 : Int) ∧ (0 : Int) ≤ v15 ∧ v15 * ((16 : Nat) : Int) ≤ 140737488355328 ∧ v15 ≤ 140737488355328 then (
            if 0 ≤ x12 ∧ x12 ≤ (l14.length : Int) then (
              if ((List.replicate (0 : Int).toNat (⟨#[]⟩ : ByteArray)).length + (cutL l14 0 x12).length) * 16 ≤ 140737488355328 then (
                if 0 ≤ x11 ∧ x11 < (l13.length : Int) then (
                  if (((List.replicate (0 : Int).toNat (⟨#[]⟩ : ByteArray)) ++ (cutL l14 0 x12)).length + ([rdT (.str : Ty) l13 x11] : List (.str : Ty).T).length) * 16 ≤ 140737488355328 then (
                    if 0 ≤ x12 ∧ x12 ≤ (l14.length : Int) then (
                      let v16 : List ByteArray := cutL l14 x12 (l14.length : Int)
                      if ((((List.replicate (0 : Int).toNat (⟨#[]⟩ : ByteArray)) ++ (cutL l14 0 x12)) ++ [rdT (.str : Ty) l13 x11]).length + v16.length) * 16 ≤ 140737488355328 then (
                        let v18 : Int := IntKind.i64.wrap (x11 + 1)
                        ref_Rising_l3 n k (((), (), v18, ()), (l13, (((List.replicate (0 : Int).toNat (⟨#[]⟩ : ByteArray)) ++ (cutL l14 0 x12)) ++ [rdT (.str : Ty) l13 x11]) ++ v16, ()))) else none) else none) else none) else none) else none) else none) else none)
        | some (.inr (.inr (_))) => none
        | none => none)
      | some (.inr (_)) => none
      | none => none
    else
      some (.inl (((), ()), (l2, l3, ())))
def ref_Rising : Nat → ref_Rising_ins.T → Option (OutsT ref_Rising_outs)
  | 0, _ => none
  | n + 1, ((_, _), (l1, _)) =>
    match ref_Rising_l3 n n (((), (), 0, ()), (l1, [], ())) with
    | some (.inl ((_, _), (l2, l3, _))) => (
      some (((), ()), (l2, l3, ())))
    | some (.inr (_)) => none
    | none => none
def ref_Rising_H (n : Nat) : Hints := ⟨[], fun k => match k with | 9 => [3] | _ => [], fun k => match k with | 6 => some ⟨[0, 3, 4, 5], ref_Rising_l6_h, ref_Rising_l6_o, ref_Rising_l6 n⟩ | 3 => some ⟨[0, 3, 4], ref_Rising_l3_h, ref_Rising_l3_o, ref_Rising_l3 n⟩ | _ => none, fun k => match k with | 9 => some ⟨[0, 3, 4, 5], ref_Rising_c9_h, ref_Rising_c9_o, fun n => ref_Rising_c9 n⟩ | _ => none, fun _ => none⟩
def ref_Rising_O (n : Nat) : FuncId → List FSpec := asc []
def b43 : Code := bodyOf Tryd.f43
theorem ref_Rising_l3_k0 (n : Nat) : LoopOk P CC (ref_Rising_O n) n 1 66 (ref_Rising_H n) ⟨[0, 3, 4], ref_Rising_l3_h, ref_Rising_l3_o, ref_Rising_l3 n⟩ ((loopsOf b43).getD 0 .skip) := by
  refine ⟨fun _ => by kernel_rfl, ?_⟩
  rintro k ⟨⟨⟨⟩, ⟨⟩, x1, ⟨⟩⟩, ⟨x2, x3, ⟨⟩⟩⟩
  kernel_rfl
theorem ref_Rising_l6_k1 (n : Nat) : LoopOk P CC (ref_Rising_O n) n 1 66 (ref_Rising_H n) ⟨[0, 3, 4, 5], ref_Rising_l6_h, ref_Rising_l6_o, ref_Rising_l6 n⟩ ((loopsOf b43).getD 1 .skip) := by
  refine ⟨fun _ => by kernel_rfl, ?_⟩
  rintro k ⟨⟨⟨⟩, ⟨⟩, x1, x2, ⟨⟩⟩, ⟨x3, x4, ⟨⟩⟩⟩
  kernel_rfl
theorem ref_Rising_c9_k11 (n : Nat) : CutOk P CC (ref_Rising_O n) n 1 66 (ref_Rising_H n) ⟨[0, 3, 4, 5], ref_Rising_c9_h, ref_Rising_c9_o, fun n => ref_Rising_c9 n⟩ ((cutsOf b43).getD 11 (0, .skip)).2 := by
  rintro ⟨⟨⟨⟩, ⟨⟩, x1, x2, ⟨⟩⟩, ⟨x3, x4, ⟨⟩⟩⟩
  kernel_rfl
theorem ref_Rising_ok {S : Nat → Addr} (ok : CfgOk P CC S) : ∀ n, SpecOk P CC S 43 ⟨ref_Rising_ins, ref_Rising_outs, ref_Rising n⟩ :=
  fn_all ok (O := ref_Rising_O) (H := ref_Rising_H) (fn := Tryd.f43) (body := b43) (by kernel_rfl) (by kernel_rfl) (by kernel_rfl) (by decide) (by kernel_rfl)
    (fun x => by kernel_rfl) (fun n => by
      rintro ⟨⟨⟨⟩, ⟨⟩⟩, ⟨x1, ⟨⟩⟩⟩
      kernel_rfl)
    (fun n => obl_of (by kernel_rfl) (by kernel_rfl) (ls (ls (lz) (by kernel_rfl) (ref_Rising_l3_k0 n)) (by kernel_rfl) (ref_Rising_l6_k1 n)) (cn (cn (cn (cn (cs (cn (cn (cn (cn (cn (cn (cn (cn (cn (cn (cn (cz) (by kernel_rfl)) (by kernel_rfl)) (by kernel_rfl)) (by kernel_rfl)) (by kernel_rfl)) (by kernel_rfl)) (by kernel_rfl)) (by kernel_rfl)) (by kernel_rfl)) (by kernel_rfl)) (by kernel_rfl)) (by kernel_rfl) (ref_Rising_c9_k11 n)) (by kernel_rfl)) (by kernel_rfl)) (by kernel_rfl)) (by kernel_rfl)) (hn fun _ => rfl))
    (fun n ih => asc_nil)
/-! ### pendulum/pendulumref17.used -/
abbrev ref17_used_ins : Sh := ⟨[(.one (.val .str)), (.one (.val ty22))], []⟩
abbrev ref17_used_outs : List Sh := [⟨[(.tup [(false, [(.arr 0)]), (false, [(.val (.int .i64))])])], [(.arr 9 .str)]⟩]
abbrev ref17_used_l9_h : Sh := ⟨[(.one (.val ty22)), (.one (.arr 0)), (.one (.val (.int .i64))), (.one (.val (.int .i64))), (.one (.val (.int .i64)))], [(.arr 9 .str)]⟩
abbrev ref17_used_l9_o : List Out := [⟨(.exit 2), [1, 6, 7], ⟨[(.one (.val ty22)), (.one (.arr 0)), (.one (.val (.int .i64)))], [(.arr 9 .str)]⟩⟩]
def ref17_used_l9 (n : Nat) : Nat → ref17_used_l9_h.T → Option (OutT ref17_used_l9_o)
  | 0, _ => none
  | k + 1, ((x1, _, x2, x3, x4, _), (l5, _)) =>
    if 0 ≤ x3 ∧ x3 < (x1.length : Int) then (
      if decide (x4 < (((((((((rdT ty10 x1 x3).2).2).2).2).2).1).2).length : Int)) then
        if 0 ≤ x3 ∧ x3 < (x1.length : Int) then (
          if 0 ≤ x4 ∧ x4 < (((((((((rdT ty10 x1 x3).2).2).2).2).2).1).2).length : Int) then (
            let v6 : ty2.T := rdT ty2 ((((((((rdT ty10 x1 x3).2).2).2).2).2).1).2) x4
            match ref_Among n (((), v6.2, ()), (l5, ())) with
            | some ((x7, _), (l8, _)) => (
              if decide (x7 < 0) then
                if 0 ≤ x3 ∧ x3 < (x1.length : Int) then (
                  if 0 ≤ x4 ∧ x4 < (((((((((rdT ty10 x1 x3).2).2).2).2).2).1).2).length : Int) then (
                    let v9 : ty2.T := rdT ty2 ((((((((rdT ty10 x1 x3).2).2).2).2).2).1).2) x4
                    if (l8.length + ([v9.2] : List (.str : Ty).T).length) * 16 ≤ 140737488355328 then (
                      let v10 : Int := IntKind.i64.wrap (x4 + 1)
                      ref17_used_l9 n k ((x1, (), x2, x3, v10, ()), (l8 ++ [v9.2], ()))) else none) else none) else none
              else
                let v11 : Int := IntKind.i64.wrap (x4 + 1)
                ref17_used_l9 n k ((x1, (), x2, x3, v11, ()), (l8, ())))
            | none => none) else none) else none
      else
        some (.inl ((x1, (), x2, ()), (l5, ())))) else none
abbrev ref17_used_l3_h : Sh := ⟨[(.one (.val ty22)), (.one (.arr 0)), (.one (.val (.int .i64)))], [(.arr 9 .str)]⟩
abbrev ref17_used_l3_o : List Out := [⟨(.exit 0), [6], ⟨[(.one (.arr 0))], [(.arr 9 .str)]⟩⟩, ⟨.ret, [4, 5], ⟨[(.one (.emp true)), (.one (.val (.int .i64)))], []⟩⟩]
def ref17_used_l3 (n : Nat) : Nat → ref17_used_l3_h.T → Option (OutT ref17_used_l3_o)
  | 0, _ => none
  | k + 1, ((x1, _, x2, _), (l3, _)) =>
    if decide (x2 < (l3.length : Int)) then
      if 0 ≤ x2 ∧ x2 < (l3.length : Int) then (
        match ref17_object n ((x1, rdT (.str : Ty) l3 x2, ()), ()) with
        | some ((x4, _), _) => (
          if decide (x4 < 0) then
            some (.inr (.inl (((), 116, ()), ())))
          else
            match ref17_used_l9 n n ((x1, (), x2, x4, 0, ()), (l3, ())) with
            | some (.inl ((x5, _, x6, _), (l7, _))) => (
              let v8 : Int := IntKind.i64.wrap (x6 + 1)
              ref17_used_l3 n k ((x5, (), v8, ()), (l7, ())))
            | some (.inr (_)) => none
            | none => none)
        | none => none) else none
    else
      some (.inl (((), ()), (l3, ())))
def ref17_used : Nat → ref17_used_ins.T → Option (OutsT ref17_used_outs)
  | 0, _ => none
  | n + 1, ((x1, x2, _), _) =>
    match ref17_used_l3 n n ((x2, (), 0, ()), ([x1], ())) with
    | some (.inl ((_, _), (l3, _))) => (
      match ref_Rising n (((), ()), (l3, ())) with
      | some ((_, _), (l5, l6, _)) => (
        some (((((), ()), (0, ()), ()), ()), (l6, ())))
      | none => none)
    | some (.inr (.inl ((_, x4, _), _))) => (
      some (((((), ()), (x4, ()), ()), ()), ([], ())))
    | some (.inr (.inr (_))) => none
    | none => none
def ref17_used_H (n : Nat) : Hints := ⟨[], fun _ => [], fun k => match k with | 9 => some ⟨[1, 6, 7, 8, 9], ref17_used_l9_h, ref17_used_l9_o, ref17_used_l9 n⟩ | 3 => some ⟨[1, 6, 7], ref17_used_l3_h, ref17_used_l3_o, ref17_used_l3 n⟩ | _ => none, fun _ => none, fun _ => none⟩
def ref17_used_O (n : Nat) : FuncId → List FSpec := asc [(25, ⟨ref17_object_ins, ref17_object_outs, ref17_object n⟩), (42, ⟨ref_Among_ins, ref_Among_outs, ref_Among n⟩), (43, ⟨ref_Rising_ins, ref_Rising_outs, ref_Rising n⟩)]
def b23 : Code := bodyOf Tryd.f23
theorem ref17_used_l3_k0 (n : Nat) : LoopOk P CC (ref17_used_O n) n 0 62 (ref17_used_H n) ⟨[1, 6, 7], ref17_used_l3_h, ref17_used_l3_o, ref17_used_l3 n⟩ ((loopsOf b23).getD 0 .skip) := by
  refine ⟨fun _ => by kernel_rfl, ?_⟩
  rintro k ⟨⟨x1, ⟨⟩, x2, ⟨⟩⟩, ⟨x3, ⟨⟩⟩⟩
  kernel_rfl
theorem ref17_used_l9_k1 (n : Nat) : LoopOk P CC (ref17_used_O n) n 0 62 (ref17_used_H n) ⟨[1, 6, 7, 8, 9], ref17_used_l9_h, ref17_used_l9_o, ref17_used_l9 n⟩ ((loopsOf b23).getD 1 .skip) := by
  refine ⟨fun _ => by kernel_rfl, ?_⟩
  rintro k ⟨⟨x1, ⟨⟩, x2, x3, x4, ⟨⟩⟩, ⟨x5, ⟨⟩⟩⟩
  kernel_rfl
theorem ref17_used_ok {S : Nat → Addr} (ok : CfgOk P CC S) : ∀ n, SpecOk P CC S 23 ⟨ref17_used_ins, ref17_used_outs, ref17_used n⟩ :=
  fn_all ok (O := ref17_used_O) (H := ref17_used_H) (fn := Tryd.f23) (body := b23) (by kernel_rfl) (by kernel_rfl) (by kernel_rfl) (by decide) (by kernel_rfl)
    (fun x => by kernel_rfl) (fun n => by
      rintro ⟨⟨x1, x2, ⟨⟩⟩, ⟨⟩⟩
      kernel_rfl)
    (fun n => obl_of (by kernel_rfl) (by kernel_rfl) (ls (ls (lz) (by kernel_rfl) (ref17_used_l3_k0 n)) (by kernel_rfl) (ref17_used_l9_k1 n)) (cn (cn (cn (cn (cn (cn (cn (cn (cn (cn (cn (cn (cn (cn (cn (cn (cn (cz) (by kernel_rfl)) (by kernel_rfl)) (by kernel_rfl)) (by kernel_rfl)) (by kernel_rfl)) (by kernel_rfl)) (by kernel_rfl)) (by kernel_rfl)) (by kernel_rfl)) (by kernel_rfl)) (by kernel_rfl)) (by kernel_rfl)) (by kernel_rfl)) (by kernel_rfl)) (by kernel_rfl)) (by kernel_rfl)) (by kernel_rfl)) (hn fun _ => rfl))
    (fun n ih => asc_cons (ref17_object_ok ok n) <| asc_cons (ref_Among_ok ok n) <| asc_cons (ref_Rising_ok ok n) <| asc_nil)
/-! ### pendulum/pendulumref17.loops -/
abbrev ref17_loops_ins : Sh := ⟨[(.one (.val ty19)), (.one (.val ty22))], []⟩
abbrev ref17_loops_outs : List Sh := [⟨[(.one (.val .bool))], []⟩]
abbrev ref17_loops_l12_h : Sh := ⟨[(.one (.val ty19)), (.one (.val ty22)), (.one (.arr 0)), (.one (.val .str)), (.one (.val .bool)), (.one (.val (.int .i64))), (.one (.ptr 1 0)), (.one (.val .bool)), (.one (.val (.int .i64)))], [(.arr 9 .str), (.obj 34 [(.val .str), (.val ty5), (.val ty5), (.val (.int .i64)), (.val ty15), (.val ty17), (.val ty18)])]⟩
abbrev ref17_loops_l12_o : List Out := [⟨(.exit 4), [0, 1, 5, 6, 7, 8, 10], ⟨[(.one (.val ty19)), (.one (.val ty22)), (.one (.arr 0)), (.one (.val .str)), (.one (.val .bool)), (.one (.val (.int .i64))), (.one (.val .bool))], [(.arr 9 .str)]⟩⟩]
def ref17_loops_l12 (n : Nat) : Nat → ref17_loops_l12_h.T → Option (OutT ref17_loops_l12_o)
  | 0, _ => none
  | k + 1, ((x1, x2, _, x3, x4, x5, _, x6, x7, _), (l8, (x9, x10, x11, x12, x13, x14, x15, _), _)) =>
    if decide (x7 < (x14.2.length : Int)) then
      if x6 then
        if 0 ≤ x7 ∧ x7 < (x14.2.length : Int) then (
          match ref_Among n (((), (rdT ty2 x14.2 x7).2, ()), (l8, ())) with
          | some ((x16, _), (l17, _)) => (
            let v18 : Int := IntKind.i64.wrap (x7 + 1)
            ref17_loops_l12 n k ((x1, x2, (), x3, x4, x5, (), decide (x16 ≥ 0), v18, ()), (l17, (x9, x10, x11, x12, x13, x14, x15, ()), ())))
          | none => none) else none
      else
        let v19 : Int := IntKind.i64.wrap (x7 + 1)
        ref17_loops_l12 n k ((x1, x2, (), x3, x4, x5, (), false, v19, ()), (l8, (x9, x10, x11, x12, x13, x14, x15, ()), ()))
    else
      some (.inl ((x1, x2, (), x3, x4, x5, x6, ()), (l8, ())))
abbrev ref17_loops_l6_h : Sh := ⟨[(.one (.val ty19)), (.one (.val ty22)), (.one (.arr 0)), (.one (.val .str)), (.one (.val .bool)), (.one (.val (.int .i64)))], [(.arr 9 .str)]⟩
abbrev ref17_loops_l6_o : List Out := [⟨(.exit 2), [0, 1, 5, 6, 7], ⟨[(.one (.val ty19)), (.one (.val ty22)), (.one (.arr 0)), (.one (.val .str)), (.one (.val .bool))], [(.arr 9 .str)]⟩⟩]
def ref17_loops_l6 (n : Nat) : Nat → ref17_loops_l6_h.T → Option (OutT ref17_loops_l6_o)
  | 0, _ => none
  | k + 1, ((x1, x2, _, x3, x4, x5, _), (l6, _)) =>
    if decide (x5 < (x1.length : Int)) then
      if !x4 then
        if 0 ≤ x5 ∧ x5 < (x1.length : Int) then (
          match ref_Among n (((), rdT (.str : Ty) x1 x5, ()), (l6, ())) with
          | some ((x7, _), (l8, _)) => (
            if decide (x7 ≥ 0) then
              let v17 : Int := IntKind.i64.wrap (x5 + 1)
              ref17_loops_l6 n k ((x1, x2, (), x3, x4, v17, ()), (l8, ()))
            else
              if 0 ≤ x5 ∧ x5 < (x1.length : Int) then (
                match ref17_object n ((x2, rdT (.str : Ty) x1 x5, ()), ()) with
                | some ((x9, _), _) => (
                  if 0 ≤ x9 ∧ x9 < (x2.length : Int) then (
                    match ref17_loops_l12 n n ((x1, x2, (), x3, x4, x5, (), true, 0, ()), (l8, ((rdT ty10 x2 x9).1, ((rdT ty10 x2 x9).2).1, (((rdT ty10 x2 x9).2).2).1, ((((rdT ty10 x2 x9).2).2).2).1, (((((rdT ty10 x2 x9).2).2).2).2).1, ((((((rdT ty10 x2 x9).2).2).2).2).2).1, ((((((rdT ty10 x2 x9).2).2).2).2).2).2, ()), ())) with
                    | some (.inl ((x10, x11, _, x12, x13, x14, x15, _), (l16, _))) => (
                      if x15 then
                        if 0 ≤ x14 ∧ x14 < (x10.length : Int) then (
                          let v18 : Int := IntKind.i64.wrap (x14 + 1)
                          ref17_loops_l6 n k ((x10, x11, (), rdT (.str : Ty) x10 x14, true, v18, ()), (l16, ()))) else none
                      else
                        let v19 : Int := IntKind.i64.wrap (x14 + 1)
                        ref17_loops_l6 n k ((x10, x11, (), x12, x13, v19, ()), (l16, ())))
                    | some (.inr (_)) => none
                    | none => none) else none)
                | none => none) else none)
          | none => none) else none
      else
        some (.inl ((x1, x2, (), x3, x4, ()), (l6, ())))
    else
      some (.inl ((x1, x2, (), x3, x4, ()), (l6, ())))
abbrev ref17_loops_l2_h : Sh := ⟨[(.one (.val ty19)), (.one (.val ty22)), (.one (.arr 0))], [(.arr 9 .str)]⟩
abbrev ref17_loops_l2_o : List Out := [⟨(.exit 0), [], ⟨[], []⟩⟩, ⟨.ret, [4], ⟨[(.one (.val .bool))], []⟩⟩]
def ref17_loops_l2 (n : Nat) : Nat → ref17_loops_l2_h.T → Option (OutT ref17_loops_l2_o)
  | 0, _ => none
  | k + 1, ((x1, x2, _, _), (l3, _)) =>
    if decide ((l3.length : Int) < (x1.length : Int)) then
      match ref17_loops_l6 n n ((x1, x2, (), (⟨#[]⟩ : ByteArray), false, 0, ()), (l3, ())) with
      | some (.inl ((x4, x5, _, x6, x7, _), (l8, _))) => (
        if !x7 then
          some (.inr (.inl ((true, ()), ())))
        else
          if (l8.length + ([x6] : List (.str : Ty).T).length) * 16 ≤ 140737488355328 then (
            ref17_loops_l2 n k ((x4, x5, (), ()), (l8 ++ [x6], ()))) else none)
      | some (.inr (_)) => none
      | none => none
    else
      some (.inl ((), ()))
def ref17_loops : Nat → ref17_loops_ins.T → Option (OutsT ref17_loops_outs)
  | 0, _ => none
  | n + 1, ((x1, x2, _), _) =>
    match ref17_loops_l2 n n ((x1, x2, (), ()), ([], ())) with
    | some (.inl (_, _)) => (
      some ((false, ()), ()))
    | some (.inr (.inl ((x3, _), _))) => (
      some ((x3, ()), ()))
    | some (.inr (.inr (_))) => none
    | none => none
def ref17_loops_H (n : Nat) : Hints := ⟨[], fun _ => [], fun k => match k with | 12 => some ⟨[0, 1, 5, 6, 7, 8, 9, 10, 11], ref17_loops_l12_h, ref17_loops_l12_o, ref17_loops_l12 n⟩ | 6 => some ⟨[0, 1, 5, 6, 7, 8], ref17_loops_l6_h, ref17_loops_l6_o, ref17_loops_l6 n⟩ | 2 => some ⟨[0, 1, 5], ref17_loops_l2_h, ref17_loops_l2_o, ref17_loops_l2 n⟩ | _ => none, fun _ => none, fun _ => none⟩
def ref17_loops_O (n : Nat) : FuncId → List FSpec := asc [(25, ⟨ref17_object_ins, ref17_object_outs, ref17_object n⟩), (42, ⟨ref_Among_ins, ref_Among_outs, ref_Among n⟩)]
def b38 : Code := bodyOf Tryd.f38
theorem ref17_loops_l2_k0 (n : Nat) : LoopOk P CC (ref17_loops_O n) n 0 73 (ref17_loops_H n) ⟨[0, 1, 5], ref17_loops_l2_h, ref17_loops_l2_o, ref17_loops_l2 n⟩ ((loopsOf b38).getD 0 .skip) := by
  refine ⟨fun _ => by kernel_rfl, ?_⟩
  rintro k ⟨⟨x1, x2, ⟨⟩, ⟨⟩⟩, ⟨x3, ⟨⟩⟩⟩
  kernel_rfl
theorem ref17_loops_l6_k1 (n : Nat) : LoopOk P CC (ref17_loops_O n) n 0 73 (ref17_loops_H n) ⟨[0, 1, 5, 6, 7, 8], ref17_loops_l6_h, ref17_loops_l6_o, ref17_loops_l6 n⟩ ((loopsOf b38).getD 1 .skip) := by
  refine ⟨fun _ => by kernel_rfl, ?_⟩
  rintro k ⟨⟨x1, x2, ⟨⟩, x3, x4, x5, ⟨⟩⟩, ⟨x6, ⟨⟩⟩⟩
  kernel_rfl
theorem ref17_loops_l12_k2 (n : Nat) : LoopOk P CC (ref17_loops_O n) n 0 73 (ref17_loops_H n) ⟨[0, 1, 5, 6, 7, 8, 9, 10, 11], ref17_loops_l12_h, ref17_loops_l12_o, ref17_loops_l12 n⟩ ((loopsOf b38).getD 2 .skip) := by
  refine ⟨fun _ => by kernel_rfl, ?_⟩
  rintro k ⟨⟨x1, x2, ⟨⟩, x3, x4, x5, ⟨⟩, x6, x7, ⟨⟩⟩, ⟨x8, ⟨x9, x10, x11, x12, x13, x14, x15, ⟨⟩⟩, ⟨⟩⟩⟩
  kernel_rfl
theorem ref17_loops_ok {S : Nat → Addr} (ok : CfgOk P CC S) : ∀ n, SpecOk P CC S 38 ⟨ref17_loops_ins, ref17_loops_outs, ref17_loops n⟩ :=
  fn_all ok (O := ref17_loops_O) (H := ref17_loops_H) (fn := Tryd.f38) (body := b38) (by kernel_rfl) (by kernel_rfl) (by kernel_rfl) (by decide) (by kernel_rfl)
    (fun x => by kernel_rfl) (fun n => by
      rintro ⟨⟨x1, x2, ⟨⟩⟩, ⟨⟩⟩
      kernel_rfl)
    (fun n => obl_of (by kernel_rfl) (by kernel_rfl) (ls (ls (ls (lz) (by kernel_rfl) (ref17_loops_l2_k0 n)) (by kernel_rfl) (ref17_loops_l6_k1 n)) (by kernel_rfl) (ref17_loops_l12_k2 n)) (cn (cn (cn (cn (cn (cn (cn (cn (cn (cn (cn (cn (cn (cn (cn (cn (cn (cn (cn (cn (cn (cn (cn (cn (cn (cn (cn (cz) (by kernel_rfl)) (by kernel_rfl)) (by kernel_rfl)) (by kernel_rfl)) (by kernel_rfl)) (by kernel_rfl)) (by kernel_rfl)) (by kernel_rfl)) (by kernel_rfl)) (by kernel_rfl)) (by kernel_rfl)) (by kernel_rfl)) (by kernel_rfl)) (by kernel_rfl)) (by kernel_rfl)) (by kernel_rfl)) (by kernel_rfl)) (by kernel_rfl)) (by kernel_rfl)) (by kernel_rfl)) (by kernel_rfl)) (by kernel_rfl)) (by kernel_rfl)) (by kernel_rfl)) (by kernel_rfl)) (by kernel_rfl)) (by kernel_rfl)) (hn fun _ => rfl))
    (fun n ih => asc_cons (ref17_object_ok ok n) <| asc_cons (ref_Among_ok ok n) <| asc_nil)
end
end Go.Proofs.YtkcgcaefhoepoaaDoor.Cm

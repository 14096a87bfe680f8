/- Printed by cmtext.py: the code as plain functions. -/
import Derived.Test.YtkcgcaefhoepoaaDoorCVerifyAll1
namespace Go.Proofs.YtkcgcaefhoepoaaDoor.Cm
open Go
noncomputable section
set_option linter.unusedVariables false
set_option maxRecDepth 100000
/-! ### pendulum/pendulumref17.deep -/
abbrev ref17_deep_ins : Sh := ⟨[(.one (.val .str)), (.one (.val ty22)), (.one (.val (.int .i64)))], []⟩
abbrev ref17_deep_outs : List Sh := [⟨[(.one (.val (.int .i64)))], []⟩]
abbrev ref17_deep_l7_h : Sh := ⟨[(.one (.val ty22)), (.one (.val (.int .i64))), (.one (.val (.int .i64))), (.one (.ptr 0 0)), (.one (.arr 1)), (.one (.val (.int .i64)))], [(.obj 34 [(.val .str), (.val ty5), (.val ty5), (.val (.int .i64)), (.val ty15), (.val ty17), (.val ty18)]), (.arr 9 .str)]⟩
abbrev ref17_deep_l7_o : List Out := [⟨(.exit 0), [7], ⟨[(.one (.val (.int .i64)))], []⟩⟩]
def ref17_deep_l7 (n : Nat) (rc : ref17_deep_ins.T → Option (OutsT ref17_deep_outs)) : Nat → ref17_deep_l7_h.T → Option (OutT ref17_deep_l7_o)
  | 0, _ => none
  | k + 1, ((x1, x2, x3, _, _, x4, _), ((x5, x6, x7, x8, x9, x10, x11, _), l12, _)) =>
    if decide (x4 < (x10.2.length : Int)) then
      if 0 ≤ x4 ∧ x4 < (x10.2.length : Int) then (
        match ref_Among n (((), (rdT ty2 x10.2 x4).2, ()), (l12, ())) with
        | some ((x13, _), (l14, _)) => (
          if decide (x13 ≥ 0) then
            let v17 : Int := IntKind.i64.wrap (x4 + 1)
            ref17_deep_l7 n rc k ((x1, x2, x3, (), (), v17, ()), ((x5, x6, x7, x8, x9, x10, x11, ()), l14, ()))
          else
            if 0 ≤ x4 ∧ x4 < (x10.2.length : Int) then (
              if (l14.length + ([(rdT ty2 x10.2 x4).2] : List (.str : Ty).T).length) * 16 ≤ 140737488355328 then (
                if 0 ≤ x4 ∧ x4 < (x10.2.length : Int) then (
                  let v15 : Int := IntKind.i64.wrap (x2 - 1)
                  match rc (((rdT ty2 x10.2 x4).2, x1, v15, ()), ()) with
                  | some ((x16, _), _) => (
                    let v18 : Int := IntKind.i64.wrap (x4 + 1)
                    ref17_deep_l7 n rc k ((x1, x2, mx x3 x16, (), (), v18, ()), ((x5, x6, x7, x8, x9, x10, x11, ()), l14 ++ [(rdT ty2 x10.2 x4).2], ())))
                  | none => none) else none) else none) else none)
        | none => none) else none
    else
      some (.inl ((x3, ()), ()))
def ref17_deep : Nat → ref17_deep_ins.T → Option (OutsT ref17_deep_outs)
  | 0, _ => none
  | n + 1, ((x1, x2, x3, _), _) =>
    if x3 == 0 then
      some ((1, ()), ())
    else
      match ref17_object n ((x2, x1, ()), ()) with
      | some ((x4, _), _) => (
        if 0 ≤ x4 ∧ x4 < (x2.length : Int) then (
          match ref17_deep_l7 n (ref17_deep n) n ((x2, x3, 0, (), (), 0, ()), (((rdT ty10 x2 x4).1, ((rdT ty10 x2 x4).2).1, (((rdT ty10 x2 x4).2).2).1, ((((rdT ty10 x2 x4).2).2).2).1, (((((rdT ty10 x2 x4).2).2).2).2).1, ((((((rdT ty10 x2 x4).2).2).2).2).2).1, ((((((rdT ty10 x2 x4).2).2).2).2).2).2, ()), [], ())) with
          | some (.inl ((x5, _), _)) => (
            let v6 : Int := IntKind.i64.wrap (x5 + 1)
            some ((v6, ()), ()))
          | some (.inr (_)) => none
          | none => none) else none)
      | none => none
def ref17_deep_H (n : Nat) : Hints := ⟨[], fun _ => [], fun k => match k with | 7 => some ⟨[1, 2, 7, 8, 9, 10], ref17_deep_l7_h, ref17_deep_l7_o, ref17_deep_l7 n (ref17_deep n)⟩ | _ => none, fun _ => none, fun _ => none⟩
def ref17_deep_O (n : Nat) : FuncId → List FSpec := asc [(25, ⟨ref17_object_ins, ref17_object_outs, ref17_object n⟩), (39, ⟨ref17_deep_ins, ref17_deep_outs, ref17_deep n⟩), (42, ⟨ref_Among_ins, ref_Among_outs, ref_Among n⟩)]
def b39 : Code := bodyOf Tryd.f39
theorem ref17_deep_l7_k0 (n : Nat) : LoopOk P CC (ref17_deep_O n) n 0 58 (ref17_deep_H n) ⟨[1, 2, 7, 8, 9, 10], ref17_deep_l7_h, ref17_deep_l7_o, ref17_deep_l7 n (ref17_deep n)⟩ ((loopsOf b39).getD 0 .skip) := by
  refine ⟨fun _ => by kernel_rfl, ?_⟩
  rintro k ⟨⟨x1, x2, x3, ⟨⟩, ⟨⟩, x4, ⟨⟩⟩, ⟨⟨x5, x6, x7, x8, x9, x10, x11, ⟨⟩⟩, x12, ⟨⟩⟩⟩
  kernel_rfl
theorem ref17_deep_ok {S : Nat → Addr} (ok : CfgOk P CC S) : ∀ n, SpecOk P CC S 39 ⟨ref17_deep_ins, ref17_deep_outs, ref17_deep n⟩ :=
  fn_all ok (O := ref17_deep_O) (H := ref17_deep_H) (fn := Tryd.f39) (body := b39) (by kernel_rfl) (by kernel_rfl) (by kernel_rfl) (by decide) (by kernel_rfl)
    (fun x => by kernel_rfl) (fun n => by
      rintro ⟨⟨x1, x2, x3, ⟨⟩⟩, ⟨⟩⟩
      kernel_rfl)
    (fun n => obl_of (by kernel_rfl) (by kernel_rfl) (ls (lz) (by kernel_rfl) (ref17_deep_l7_k0 n)) (cn (cn (cn (cn (cn (cn (cn (cn (cn (cn (cn (cn (cn (cn (cn (cn (cz) (by kernel_rfl)) (by kernel_rfl)) (by kernel_rfl)) (by kernel_rfl)) (by kernel_rfl)) (by kernel_rfl)) (by kernel_rfl)) (by kernel_rfl)) (by kernel_rfl)) (by kernel_rfl)) (by kernel_rfl)) (by kernel_rfl)) (by kernel_rfl)) (by kernel_rfl)) (by kernel_rfl)) (by kernel_rfl)) (hn fun _ => rfl))
    (fun n ih => asc_cons (ref17_object_ok ok n) <| asc_cons (ih) <| asc_cons (ref_Among_ok ok n) <| asc_nil)
/-! ### (*pendulum/pendulumref17.lays).lay -/
abbrev ref17_lays_lay_2_ins : Sh := ⟨[(.one (.ptr 0 0)), (.one (.val .str)), (.one (.val .str))], [(.obj 98 [(.val ty22), (.arr 1), (.arr 2), (.arr 3), (.val (.int .i64))]), (.arr 121 ty0), (.arr 9 .str), (.arr 3 (.int .i64))]⟩
abbrev ref17_lays_lay_2_outs : List Sh := [⟨[(.tup [])], [(.obj 98 [(.val ty22), (.arr 4), (.arr 5), (.arr 6), (.val (.int .i64))]), .dead, .dead, .dead, (.arr 121 ty0), (.arr 9 .str), (.arr 3 (.int .i64))]⟩]
abbrev ref17_lays_lay_2_l6_h : Sh := ⟨[(.one (.ptr 0 0)), (.one (.val .str)), (.one (.ptr 4 0)), (.one (.val (.int .i64)))], [(.obj 98 [(.val ty22), (.arr 5), (.arr 6), (.arr 7), (.val (.int .i64))]), .dead, .dead, .dead, (.obj 34 [(.val .str), (.val ty5), (.val ty5), (.val (.int .i64)), (.val ty15), (.val ty17), (.val ty18)]), (.arr 121 ty0), (.arr 9 .str), (.arr 3 (.int .i64))]⟩
abbrev ref17_lays_lay_2_l6_o : List Out := [⟨(.exit 0), [0, 2, 6], ⟨[(.one (.ptr 0 0)), (.one (.val .str)), (.one (.ptr 4 0))], [(.obj 98 [(.val ty22), (.arr 5), (.arr 6), (.arr 7), (.val (.int .i64))]), .dead, .dead, .dead, (.obj 34 [(.val .str), (.val ty5), (.val ty5), (.val (.int .i64)), (.val ty15), (.val ty17), (.val ty18)]), (.arr 121 ty0), (.arr 9 .str), (.arr 3 (.int .i64))]⟩⟩]
def ref17_lays_lay_2_l6 (n : Nat) (rc : ref17_lays_lay_2_ins.T → Option (OutsT ref17_lays_lay_2_outs)) : Nat → ref17_lays_lay_2_l6_h.T → Option (OutT ref17_lays_lay_2_l6_o)
  | 0, _ => none
  | k + 1, ((_, x1, _, x2, _), ((x3, _, _, _, x4, _), _, _, _, (x5, x6, x7, x8, x9, x10, x11, _), l12, l13, l14, _)) =>
    if decide (x2 < (x9.length : Int)) then
      if 0 ≤ x2 ∧ x2 < (x9.length : Int) then (
        if x1.size + ((rdT ty0 x9 x2).1).size ≤ 9223372036854775807 then (
          if (l12.length + ([(x1 ++ ((rdT ty0 x9 x2).1), ((rdT ty0 x9 x2).2))] : List ty0.T).length) * 32 ≤ 140737488355328 then (
            let v15 : Int := IntKind.i64.wrap (x2 + 1)
            ref17_lays_lay_2_l6 n rc k (((), x1, (), v15, ()), ((x3, (), (), (), x4, ()), (), (), (), (x5, x6, x7, x8, x9, x10, x11, ()), l12 ++ [(x1 ++ ((rdT ty0 x9 x2).1), ((rdT ty0 x9 x2).2))], l13, l14, ()))) else none) else none) else none
    else
      some (.inl (((), x1, (), ()), ((x3, (), (), (), x4, ()), (), (), (), (x5, x6, x7, x8, x9, x10, x11, ()), l12, l13, l14, ())))
abbrev ref17_lays_lay_2_l11_h : Sh := ⟨[(.one (.ptr 0 0)), (.one (.val .str)), (.one (.ptr 4 0)), (.one (.val (.int .i64)))], [(.obj 98 [(.val ty22), (.arr 5), (.arr 6), (.arr 7), (.val (.int .i64))]), .dead, .dead, .dead, (.obj 34 [(.val .str), (.val ty5), (.val ty5), (.val (.int .i64)), (.val ty15), (.val ty17), (.val ty18)]), (.arr 121 ty0), (.arr 9 .str), (.arr 3 (.int .i64))]⟩
abbrev ref17_lays_lay_2_l11_o : List Out := [⟨(.exit 2), [], ⟨[], [(.obj 98 [(.val ty22), (.arr 4), (.arr 5), (.arr 6), (.val (.int .i64))]), .dead, .dead, .dead, (.arr 121 ty0), (.arr 9 .str), (.arr 3 (.int .i64))]⟩⟩]
def ref17_lays_lay_2_l11 (n : Nat) (rc : ref17_lays_lay_2_ins.T → Option (OutsT ref17_lays_lay_2_outs)) : Nat → ref17_lays_lay_2_l11_h.T → Option (OutT ref17_lays_lay_2_l11_o)
  | 0, _ => none
  | k + 1, ((_, x1, _, x2, _), ((x3, _, _, _, x4, _), _, _, _, (x5, x6, x7, x8, x9, x10, x11, _), l12, l13, l14, _)) =>
    if decide (x2 < (x10.2.length : Int)) then
      if decide (x4 ≤ 512) then
        if decide ((l12.length : Int) ≤ 512) then
          if 0 ≤ x2 ∧ x2 < (x10.2.length : Int) then (
            if 0 ≤ x2 ∧ x2 < (x10.2.length : Int) then (
              if x1.size + ((rdT ty2 x10.2 x2).1).size ≤ 9223372036854775807 then (
                if (x1 ++ ((rdT ty2 x10.2 x2).1)).size + (⟨#[47]⟩ : ByteArray).size ≤ 9223372036854775807 then (
                  match rc (((), (rdT ty2 x10.2 x2).2, (x1 ++ ((rdT ty2 x10.2 x2).1)) ++ (⟨#[47]⟩ : ByteArray), ()), ((x3, (), (), (), x4, ()), l12, l13, l14, ())) with
                  | some ((_, _), ((x15, _, _, _, x16, _), _, _, _, l17, l18, l19, _)) => (
                    let v20 : Int := IntKind.i64.wrap (x2 + 1)
                    ref17_lays_lay_2_l11 n rc k (((), x1, (), v20, ()), ((x15, (), (), (), x16, ()), (), (), (), (x5, x6, x7, x8, x9, x10, x11, ()), l17, l18, l19, ())))
                  | none => none) else none) else none) else none) else none
        else
          some (.inl ((), ((x3, (), (), (), x4, ()), (), (), (), l12, l13, l14, ())))
      else
        some (.inl ((), ((x3, (), (), (), x4, ()), (), (), (), l12, l13, l14, ())))
    else
      some (.inl ((), ((x3, (), (), (), x4, ()), (), (), (), l12, l13, l14, ())))
def ref17_lays_lay_2 : Nat → ref17_lays_lay_2_ins.T → Option (OutsT ref17_lays_lay_2_outs)
  | 0, _ => none
  | n + 1, ((_, x1, x2, _), ((x3, _, _, _, x4, _), l5, l6, l7, _)) =>
    let v8 : Int := IntKind.i64.wrap (x4 + 1)
    if decide (v8 > 512) then
      some (((), ()), ((x3, (), (), (), v8, ()), (), (), (), l5, l6, l7, ()))
    else
      if decide ((l5.length : Int) > 512) then
        some (((), ()), ((x3, (), (), (), v8, ()), (), (), (), l5, l6, l7, ()))
      else
        match ref17_object n ((x3, x1, ()), ()) with
        | some ((x9, _), _) => (
          if 0 ≤ x9 ∧ x9 < (x3.length : Int) then (
            if (l6.length + ([x2] : List (.str : Ty).T).length) * 16 ≤ 140737488355328 then (
              if (l7.length + ([(l5.length : Int)] : List ((.int .i64) : Ty).T).length) * 8 ≤ 140737488355328 then (
                match ref17_lays_lay_2_l6 n (ref17_lays_lay_2 n) n (((), x2, (), 0, ()), ((x3, (), (), (), v8, ()), (), (), (), ((rdT ty10 x3 x9).1, ((rdT ty10 x3 x9).2).1, (((rdT ty10 x3 x9).2).2).1, ((((rdT ty10 x3 x9).2).2).2).1, (((((rdT ty10 x3 x9).2).2).2).2).1, ((((((rdT ty10 x3 x9).2).2).2).2).2).1, ((((((rdT ty10 x3 x9).2).2).2).2).2).2, ()), l5, l6 ++ [x2], l7 ++ [(l5.length : Int)], ())) with
                | some (.inl ((_, x10, _, _), ((x11, _, _, _, x12, _), _, _, _, (x13, x14, x15, x16, x17, x18, x19, _), l20, l21, l22, _))) => (
                  match ref17_lays_lay_2_l11 n (ref17_lays_lay_2 n) n (((), x10, (), 0, ()), ((x11, (), (), (), x12, ()), (), (), (), (x13, x14, x15, x16, x17, x18, x19, ()), l20, l21, l22, ())) with
                  | some (.inl (_, ((x23, _, _, _, x24, _), _, _, _, l25, l26, l27, _))) => (
                    some (((), ()), ((x23, (), (), (), x24, ()), (), (), (), l25, l26, l27, ())))
                  | some (.inr (_)) => none
                  | none => none)
                | some (.inr (_)) => none
                | none => none) else none) else none) else none)
        | none => none
def ref17_lays_lay_2_H (n : Nat) : Hints := ⟨[], fun _ => [], fun k => match k with | 6 => some ⟨[0, 2, 6, 7], ref17_lays_lay_2_l6_h, ref17_lays_lay_2_l6_o, ref17_lays_lay_2_l6 n (ref17_lays_lay_2 n)⟩ | 11 => some ⟨[0, 2, 6, 9], ref17_lays_lay_2_l11_h, ref17_lays_lay_2_l11_o, ref17_lays_lay_2_l11 n (ref17_lays_lay_2 n)⟩ | _ => none, fun _ => none, fun _ => none⟩
def ref17_lays_lay_2_O (n : Nat) : FuncId → List FSpec := asc [(25, ⟨ref17_object_ins, ref17_object_outs, ref17_object n⟩), (40, ⟨ref17_lays_lay_2_ins, ref17_lays_lay_2_outs, ref17_lays_lay_2 n⟩)]
def b40 : Code := bodyOf Tryd.f40
theorem ref17_lays_lay_2_l6_k0 (n : Nat) : LoopOk P CC (ref17_lays_lay_2_O n) n 4 136 (ref17_lays_lay_2_H n) ⟨[0, 2, 6, 7], ref17_lays_lay_2_l6_h, ref17_lays_lay_2_l6_o, ref17_lays_lay_2_l6 n (ref17_lays_lay_2 n)⟩ ((loopsOf b40).getD 0 .skip) := by
  refine ⟨fun _ => by kernel_rfl, ?_⟩
  rintro k ⟨⟨⟨⟩, x1, ⟨⟩, x2, ⟨⟩⟩, ⟨⟨x3, ⟨⟩, ⟨⟩, ⟨⟩, x4, ⟨⟩⟩, ⟨⟩, ⟨⟩, ⟨⟩, ⟨x5, x6, x7, x8, x9, x10, x11, ⟨⟩⟩, x12, x13, x14, ⟨⟩⟩⟩
  kernel_rfl
theorem ref17_lays_lay_2_l11_k1 (n : Nat) : LoopOk P CC (ref17_lays_lay_2_O n) n 4 136 (ref17_lays_lay_2_H n) ⟨[0, 2, 6, 9], ref17_lays_lay_2_l11_h, ref17_lays_lay_2_l11_o, ref17_lays_lay_2_l11 n (ref17_lays_lay_2 n)⟩ ((loopsOf b40).getD 1 .skip) := by
  refine ⟨fun _ => by kernel_rfl, ?_⟩
  rintro k ⟨⟨⟨⟩, x1, ⟨⟩, x2, ⟨⟩⟩, ⟨⟨x3, ⟨⟩, ⟨⟩, ⟨⟩, x4, ⟨⟩⟩, ⟨⟩, ⟨⟩, ⟨⟩, ⟨x5, x6, x7, x8, x9, x10, x11, ⟨⟩⟩, x12, x13, x14, ⟨⟩⟩⟩
  kernel_rfl
theorem ref17_lays_lay_2_ok {S : Nat → Addr} (ok : CfgOk P CC S) : ∀ n, SpecOk P CC S 40 ⟨ref17_lays_lay_2_ins, ref17_lays_lay_2_outs, ref17_lays_lay_2 n⟩ :=
  fn_all ok (O := ref17_lays_lay_2_O) (H := ref17_lays_lay_2_H) (fn := Tryd.f40) (body := b40) (by kernel_rfl) (by kernel_rfl) (by kernel_rfl) (by decide) (by kernel_rfl)
    (fun x => by kernel_rfl) (fun n => by
      rintro ⟨⟨⟨⟩, x1, x2, ⟨⟩⟩, ⟨⟨x3, ⟨⟩, ⟨⟩, ⟨⟩, x4, ⟨⟩⟩, x5, x6, x7, ⟨⟩⟩⟩
      kernel_rfl)
    (fun n => obl_of (by kernel_rfl) (by kernel_rfl) (ls (ls (lz) (by kernel_rfl) (ref17_lays_lay_2_l6_k0 n)) (by kernel_rfl) (ref17_lays_lay_2_l11_k1 n)) (cn (cn (cn (cn (cn (cn (cn (cn (cn (cn (cn (cn (cn (cn (cn (cn (cz) (by kernel_rfl)) (by kernel_rfl)) (by kernel_rfl)) (by kernel_rfl)) (by kernel_rfl)) (by kernel_rfl)) (by kernel_rfl)) (by kernel_rfl)) (by kernel_rfl)) (by kernel_rfl)) (by kernel_rfl)) (by kernel_rfl)) (by kernel_rfl)) (by kernel_rfl)) (by kernel_rfl)) (by kernel_rfl)) (hn fun _ => rfl))
    (fun n ih => asc_cons (ref17_object_ok ok n) <| asc_cons (ih) <| asc_nil)
/-! ### (*pendulum/pendulumref17.lays).lay -/
abbrev ref17_lays_lay_ins : Sh := ⟨[(.one (.ptr 0 0)), (.one (.val .str)), (.one (.val .str))], [(.obj 98 [(.val ty22), (.emp true), (.emp true), (.emp true), (.val (.int .i64))])]⟩
abbrev ref17_lays_lay_outs : List Sh := [⟨[(.tup [])], [(.obj 98 [(.val ty22), (.arr 1), (.arr 2), (.arr 3), (.val (.int .i64))]), (.arr 121 ty0), (.arr 9 .str), (.arr 3 (.int .i64))]⟩]
abbrev ref17_lays_lay_l6_h : Sh := ⟨[(.one (.ptr 0 0)), (.one (.val .str)), (.one (.ptr 1 0)), (.one (.val (.int .i64)))], [(.obj 98 [(.val ty22), (.arr 2), (.arr 3), (.arr 4), (.val (.int .i64))]), (.obj 34 [(.val .str), (.val ty5), (.val ty5), (.val (.int .i64)), (.val ty15), (.val ty17), (.val ty18)]), (.arr 121 ty0), (.arr 9 .str), (.arr 3 (.int .i64))]⟩
abbrev ref17_lays_lay_l6_o : List Out := [⟨(.exit 0), [0, 2, 6], ⟨[(.one (.ptr 0 0)), (.one (.val .str)), (.one (.ptr 1 0))], [(.obj 98 [(.val ty22), (.arr 2), (.arr 3), (.arr 4), (.val (.int .i64))]), (.obj 34 [(.val .str), (.val ty5), (.val ty5), (.val (.int .i64)), (.val ty15), (.val ty17), (.val ty18)]), (.arr 121 ty0), (.arr 9 .str), (.arr 3 (.int .i64))]⟩⟩]
def ref17_lays_lay_l6 (n : Nat) (rc : ref17_lays_lay_ins.T → Option (OutsT ref17_lays_lay_outs)) : Nat → ref17_lays_lay_l6_h.T → Option (OutT ref17_lays_lay_l6_o)
  | 0, _ => none
  | k + 1, ((_, x1, _, x2, _), ((x3, _, _, _, x4, _), (x5, x6, x7, x8, x9, x10, x11, _), l12, l13, l14, _)) =>
    if decide (x2 < (x9.length : Int)) then
      if 0 ≤ x2 ∧ x2 < (x9.length : Int) then (
        if x1.size + ((rdT ty0 x9 x2).1).size ≤ 9223372036854775807 then (
          if (l12.length + ([(x1 ++ ((rdT ty0 x9 x2).1), ((rdT ty0 x9 x2).2))] : List ty0.T).length) * 32 ≤ 140737488355328 then (
            let v15 : Int := IntKind.i64.wrap (x2 + 1)
            ref17_lays_lay_l6 n rc k (((), x1, (), v15, ()), ((x3, (), (), (), x4, ()), (x5, x6, x7, x8, x9, x10, x11, ()), l12 ++ [(x1 ++ ((rdT ty0 x9 x2).1), ((rdT ty0 x9 x2).2))], l13, l14, ()))) else none) else none) else none
    else
      some (.inl (((), x1, (), ()), ((x3, (), (), (), x4, ()), (x5, x6, x7, x8, x9, x10, x11, ()), l12, l13, l14, ())))
abbrev ref17_lays_lay_l11_h : Sh := ⟨[(.one (.ptr 0 0)), (.one (.val .str)), (.one (.ptr 1 0)), (.one (.val (.int .i64)))], [(.obj 98 [(.val ty22), (.arr 2), (.arr 3), (.arr 4), (.val (.int .i64))]), (.obj 34 [(.val .str), (.val ty5), (.val ty5), (.val (.int .i64)), (.val ty15), (.val ty17), (.val ty18)]), (.arr 121 ty0), (.arr 9 .str), (.arr 3 (.int .i64))]⟩
abbrev ref17_lays_lay_l11_o : List Out := [⟨(.exit 2), [], ⟨[], [(.obj 98 [(.val ty22), (.arr 1), (.arr 2), (.arr 3), (.val (.int .i64))]), (.arr 121 ty0), (.arr 9 .str), (.arr 3 (.int .i64))]⟩⟩]
def ref17_lays_lay_l11 (n : Nat) (rc : ref17_lays_lay_ins.T → Option (OutsT ref17_lays_lay_outs)) : Nat → ref17_lays_lay_l11_h.T → Option (OutT ref17_lays_lay_l11_o)
  | 0, _ => none
  | k + 1, ((_, x1, _, x2, _), ((x3, _, _, _, x4, _), (x5, x6, x7, x8, x9, x10, x11, _), l12, l13, l14, _)) =>
    if decide (x2 < (x10.2.length : Int)) then
      if decide (x4 ≤ 512) then
        if decide ((l12.length : Int) ≤ 512) then
          if 0 ≤ x2 ∧ x2 < (x10.2.length : Int) then (
            if 0 ≤ x2 ∧ x2 < (x10.2.length : Int) then (
              if x1.size + ((rdT ty2 x10.2 x2).1).size ≤ 9223372036854775807 then (
                if (x1 ++ ((rdT ty2 x10.2 x2).1)).size + (⟨#[47]⟩ : ByteArray).size ≤ 9223372036854775807 then (
                  match ref17_lays_lay_2 n (((), (rdT ty2 x10.2 x2).2, (x1 ++ ((rdT ty2 x10.2 x2).1)) ++ (⟨#[47]⟩ : ByteArray), ()), ((x3, (), (), (), x4, ()), l12, l13, l14, ())) with
                  | some ((_, _), ((x15, _, _, _, x16, _), _, _, _, l17, l18, l19, _)) => (
                    let v20 : Int := IntKind.i64.wrap (x2 + 1)
                    ref17_lays_lay_l11 n rc k (((), x1, (), v20, ()), ((x15, (), (), (), x16, ()), (x5, x6, x7, x8, x9, x10, x11, ()), l17, l18, l19, ())))
                  | none => none) else none) else none) else none) else none
        else
          some (.inl ((), ((x3, (), (), (), x4, ()), l12, l13, l14, ())))
      else
        some (.inl ((), ((x3, (), (), (), x4, ()), l12, l13, l14, ())))
    else
      some (.inl ((), ((x3, (), (), (), x4, ()), l12, l13, l14, ())))
def ref17_lays_lay : Nat → ref17_lays_lay_ins.T → Option (OutsT ref17_lays_lay_outs)
  | 0, _ => none
  | n + 1, ((_, x1, x2, _), ((x3, _, _, _, x4, _), _)) =>
    let v5 : Int := IntKind.i64.wrap (x4 + 1)
    if decide (v5 > 512) then
      some (((), ()), ((x3, (), (), (), v5, ()), [], [], [], ()))
    else
      match ref17_object n ((x3, x1, ()), ()) with
      | some ((x6, _), _) => (
        if 0 ≤ x6 ∧ x6 < (x3.length : Int) then (
          if (([] : List (.str : Ty).T).length + ([x2] : List (.str : Ty).T).length) * 16 ≤ 140737488355328 then (
            if (([] : List ((.int .i64) : Ty).T).length + ([0] : List ((.int .i64) : Ty).T).length) * 8 ≤ 140737488355328 then (
              match ref17_lays_lay_l6 n (ref17_lays_lay n) n (((), x2, (), 0, ()), ((x3, (), (), (), v5, ()), ((rdT ty10 x3 x6).1, ((rdT ty10 x3 x6).2).1, (((rdT ty10 x3 x6).2).2).1, ((((rdT ty10 x3 x6).2).2).2).1, (((((rdT ty10 x3 x6).2).2).2).2).1, ((((((rdT ty10 x3 x6).2).2).2).2).2).1, ((((((rdT ty10 x3 x6).2).2).2).2).2).2, ()), [], [] ++ [x2], [] ++ [0], ())) with
              | some (.inl ((_, x7, _, _), ((x8, _, _, _, x9, _), (x10, x11, x12, x13, x14, x15, x16, _), l17, l18, l19, _))) => (
                match ref17_lays_lay_l11 n (ref17_lays_lay n) n (((), x7, (), 0, ()), ((x8, (), (), (), x9, ()), (x10, x11, x12, x13, x14, x15, x16, ()), l17, l18, l19, ())) with
                | some (.inl (_, ((x20, _, _, _, x21, _), l22, l23, l24, _))) => (
                  some (((), ()), ((x20, (), (), (), x21, ()), l22, l23, l24, ())))
                | some (.inr (_)) => none
                | none => none)
              | some (.inr (_)) => none
              | none => none) else none) else none) else none)
      | none => none
def ref17_lays_lay_H (n : Nat) : Hints := ⟨[], fun _ => [], fun k => match k with | 6 => some ⟨[0, 2, 6, 7], ref17_lays_lay_l6_h, ref17_lays_lay_l6_o, ref17_lays_lay_l6 n (ref17_lays_lay n)⟩ | 11 => some ⟨[0, 2, 6, 9], ref17_lays_lay_l11_h, ref17_lays_lay_l11_o, ref17_lays_lay_l11 n (ref17_lays_lay n)⟩ | _ => none, fun _ => none, fun _ => none⟩
def ref17_lays_lay_O (n : Nat) : FuncId → List FSpec := asc [(25, ⟨ref17_object_ins, ref17_object_outs, ref17_object n⟩), (40, ⟨ref17_lays_lay_2_ins, ref17_lays_lay_2_outs, ref17_lays_lay_2 n⟩)]
theorem ref17_lays_lay_l6_k0 (n : Nat) : LoopOk P CC (ref17_lays_lay_O n) n 1 136 (ref17_lays_lay_H n) ⟨[0, 2, 6, 7], ref17_lays_lay_l6_h, ref17_lays_lay_l6_o, ref17_lays_lay_l6 n (ref17_lays_lay n)⟩ ((loopsOf b40).getD 0 .skip) := by
  refine ⟨fun _ => by kernel_rfl, ?_⟩
  rintro k ⟨⟨⟨⟩, x1, ⟨⟩, x2, ⟨⟩⟩, ⟨⟨x3, ⟨⟩, ⟨⟩, ⟨⟩, x4, ⟨⟩⟩, ⟨x5, x6, x7, x8, x9, x10, x11, ⟨⟩⟩, x12, x13, x14, ⟨⟩⟩⟩
  kernel_rfl
theorem ref17_lays_lay_l11_k1 (n : Nat) : LoopOk P CC (ref17_lays_lay_O n) n 1 136 (ref17_lays_lay_H n) ⟨[0, 2, 6, 9], ref17_lays_lay_l11_h, ref17_lays_lay_l11_o, ref17_lays_lay_l11 n (ref17_lays_lay n)⟩ ((loopsOf b40).getD 1 .skip) := by
  refine ⟨fun _ => by kernel_rfl, ?_⟩
  rintro k ⟨⟨⟨⟩, x1, ⟨⟩, x2, ⟨⟩⟩, ⟨⟨x3, ⟨⟩, ⟨⟩, ⟨⟩, x4, ⟨⟩⟩, ⟨x5, x6, x7, x8, x9, x10, x11, ⟨⟩⟩, x12, x13, x14, ⟨⟩⟩⟩
  kernel_rfl
theorem ref17_lays_lay_ok {S : Nat → Addr} (ok : CfgOk P CC S) : ∀ n, SpecOk P CC S 40 ⟨ref17_lays_lay_ins, ref17_lays_lay_outs, ref17_lays_lay n⟩ :=
  fn_all ok (O := ref17_lays_lay_O) (H := ref17_lays_lay_H) (fn := Tryd.f40) (body := b40) (by kernel_rfl) (by kernel_rfl) (by kernel_rfl) (by decide) (by kernel_rfl)
    (fun x => by kernel_rfl) (fun n => by
      rintro ⟨⟨⟨⟩, x1, x2, ⟨⟩⟩, ⟨⟨x3, ⟨⟩, ⟨⟩, ⟨⟩, x4, ⟨⟩⟩, ⟨⟩⟩⟩
      kernel_rfl)
    (fun n => obl_of (by kernel_rfl) (by kernel_rfl) (ls (ls (lz) (by kernel_rfl) (ref17_lays_lay_l6_k0 n)) (by kernel_rfl) (ref17_lays_lay_l11_k1 n)) (cn (cn (cn (cn (cn (cn (cn (cn (cn (cn (cn (cn (cn (cn (cn (cn (cz) (by kernel_rfl)) (by kernel_rfl)) (by kernel_rfl)) (by kernel_rfl)) (by kernel_rfl)) (by kernel_rfl)) (by kernel_rfl)) (by kernel_rfl)) (by kernel_rfl)) (by kernel_rfl)) (by kernel_rfl)) (by kernel_rfl)) (by kernel_rfl)) (by kernel_rfl)) (by kernel_rfl)) (by kernel_rfl)) (hn fun _ => rfl))
    (fun n ih => asc_cons (ref17_object_ok ok n) <| asc_cons (ref17_lays_lay_2_ok ok n) <| asc_nil)
/-! ### pendulum/pendulumref17.made -/
abbrev ref17_made_ins : Sh := ⟨[(.one (.val .str)), (.one (.val ty22))], []⟩
abbrev ref17_made_outs : List Sh := [⟨[(.tup [(false, [(.ptr 0 0)]), (false, [(.val (.int .i64))])])], [(.obj 98 [(.val ty22), (.arr 1), (.arr 2), (.arr 3), (.val (.int .i64))]), (.arr 121 ty0), (.arr 9 .str), (.arr 3 (.int .i64))]⟩, ⟨[(.tup [(false, [.nilp]), (false, [(.val (.int .i64))])])], []⟩]
abbrev ref17_made_l2_h : Sh := ⟨[(.one (.val .str)), (.one (.val ty22)), (.one (.val (.int .i64)))], []⟩
abbrev ref17_made_l2_o : List Out := [⟨(.exit 0), [0, 1], ⟨[(.one (.val .str)), (.one (.val ty22))], []⟩⟩, ⟨.ret, [4, 5], ⟨[(.one .nilp), (.one (.val (.int .i64)))], []⟩⟩]
def ref17_made_l2 (n : Nat) : Nat → ref17_made_l2_h.T → Option (OutT ref17_made_l2_o)
  | 0, _ => none
  | k + 1, ((x1, x2, x3, _), _) =>
    if decide (x3 < (x2.length : Int)) then
      if 0 ≤ x3 ∧ x3 ≤ (x2.length : Int) then (
        if 0 ≤ x3 ∧ x3 < (x2.length : Int) then (
          match ref17_object n ((cutL x2 0 x3, (rdT ty10 x2 x3).1, ()), ()) with
          | some ((x4, _), _) => (
            if decide (x4 ≥ 0) then
              some (.inr (.inl (((), 110, ()), ())))
            else
              let v5 : Int := IntKind.i64.wrap (x3 + 1)
              ref17_made_l2 n k ((x1, x2, v5, ()), ()))
          | none => none) else none) else none
    else
      some (.inl ((x1, x2, ()), ()))
def ref17_made : Nat → ref17_made_ins.T → Option (OutsT ref17_made_outs)
  | 0, _ => none
  | n + 1, ((x1, x2, _), _) =>
    match ref17_made_l2 n n ((x1, x2, 0, ()), ()) with
    | some (.inl ((x3, x4, _), _)) => (
      match ref17_used n ((x3, x4, ()), ()) with
      | some ((((_, _), (x6, _), _), _), (l7, _)) => (
        if x6 != 0 then
          some (.inr ((((((), ()), (x6, ()), ()), ()), ())))
        else
          match ref17_loops n ((l7, x4, ()), ()) with
          | some ((x8, _), _) => (
            if x8 then
              some (.inr ((((((), ()), (113, ()), ()), ()), ())))
            else
              match ref17_deep n ((x3, x4, 8, ()), ()) with
              | some ((x9, _), _) => (
                if decide (x9 > 8) then
                  some (.inr ((((((), ()), (108, ()), ()), ()), ())))
                else
                  match ref17_lays_lay n (((), x3, (⟨#[]⟩ : ByteArray), ()), ((x4, (), (), (), 0, ()), ())) with
                  | some ((_, _), ((x10, _, _, _, x11, _), l12, l13, l14, _)) => (
                    if decide (x11 > 512) then
                      some (.inr ((((((), ()), (103, ()), ()), ()), ())))
                    else
                      if decide ((l12.length : Int) > 512) then
                        some (.inr ((((((), ()), (103, ()), ()), ()), ())))
                      else
                        some (.inl (((((), ()), (0, ()), ()), ()), ((x10, (), (), (), x11, ()), l12, l13, l14, ()))))
                  | none => none)
              | none => none)
          | none => none)
      | none => none)
    | some (.inr (.inl ((_, x5, _), _))) => (
      some (.inr ((((((), ()), (x5, ()), ()), ()), ()))))
    | some (.inr (.inr (_))) => none
    | none => none
def ref17_made_H (n : Nat) : Hints := ⟨[], fun _ => [], fun k => match k with | 2 => some ⟨[0, 1, 6], ref17_made_l2_h, ref17_made_l2_o, ref17_made_l2 n⟩ | _ => none, fun _ => none, fun _ => none⟩
def ref17_made_O (n : Nat) : FuncId → List FSpec := asc [(23, ⟨ref17_used_ins, ref17_used_outs, ref17_used n⟩), (25, ⟨ref17_object_ins, ref17_object_outs, ref17_object n⟩), (38, ⟨ref17_loops_ins, ref17_loops_outs, ref17_loops n⟩), (39, ⟨ref17_deep_ins, ref17_deep_outs, ref17_deep n⟩), (40, ⟨ref17_lays_lay_ins, ref17_lays_lay_outs, ref17_lays_lay n⟩)]
def b20 : Code := bodyOf Tryd.f20
theorem ref17_made_l2_k0 (n : Nat) : LoopOk P CC (ref17_made_O n) n 0 62 (ref17_made_H n) ⟨[0, 1, 6], ref17_made_l2_h, ref17_made_l2_o, ref17_made_l2 n⟩ ((loopsOf b20).getD 0 .skip) := by
  refine ⟨fun _ => by kernel_rfl, ?_⟩
  rintro k ⟨⟨x1, x2, x3, ⟨⟩⟩, ⟨⟩⟩
  kernel_rfl
theorem ref17_made_ok {S : Nat → Addr} (ok : CfgOk P CC S) : ∀ n, SpecOk P CC S 20 ⟨ref17_made_ins, ref17_made_outs, ref17_made n⟩ :=
  fn_all ok (O := ref17_made_O) (H := ref17_made_H) (fn := Tryd.f20) (body := b20) (by kernel_rfl) (by kernel_rfl) (by kernel_rfl) (by decide) (by kernel_rfl)
    (fun x => by kernel_rfl) (fun n => by
      rintro ⟨⟨x1, x2, ⟨⟩⟩, ⟨⟩⟩
      kernel_rfl)
    (fun n => obl_of (by kernel_rfl) (by kernel_rfl) (ls (lz) (by kernel_rfl) (ref17_made_l2_k0 n)) (cn (cn (cn (cn (cn (cn (cn (cn (cn (cn (cn (cn (cn (cn (cn (cn (cn (cn (cn (cn (cn (cn (cn (cn (cz) (by kernel_rfl)) (by kernel_rfl)) (by kernel_rfl)) (by kernel_rfl)) (by kernel_rfl)) (by kernel_rfl)) (by kernel_rfl)) (by kernel_rfl)) (by kernel_rfl)) (by kernel_rfl)) (by kernel_rfl)) (by kernel_rfl)) (by kernel_rfl)) (by kernel_rfl)) (by kernel_rfl)) (by kernel_rfl)) (by kernel_rfl)) (by kernel_rfl)) (by kernel_rfl)) (by kernel_rfl)) (by kernel_rfl)) (by kernel_rfl)) (by kernel_rfl)) (by kernel_rfl)) (hn fun _ => rfl))
    (fun n ih => asc_cons (ref17_used_ok ok n) <| asc_cons (ref17_object_ok ok n) <| asc_cons (ref17_loops_ok ok n) <| asc_cons (ref17_deep_ok ok n) <| asc_cons (ref17_lays_lay_ok ok n) <| asc_nil)
/-! ### pendulum/pendulumref.Ints -/
abbrev ref_Ints_ins : Sh := ⟨[(.one (.val ty5))], []⟩
abbrev ref_Ints_outs : List Sh := [⟨[(.one (.arr 0))], [(.arr 3 (.int .i64))]⟩]
abbrev ref_Ints_l3_h : Sh := ⟨[(.one (.val ty5)), (.one (.arr 0)), (.one (.val (.int .i64)))], [(.arr 3 (.int .i64))]⟩
abbrev ref_Ints_l3_o : List Out := [⟨(.exit 0), [3], ⟨[(.one (.arr 0))], [(.arr 3 (.int .i64))]⟩⟩]
def ref_Ints_l3 (n : Nat) : Nat → ref_Ints_l3_h.T → Option (OutT ref_Ints_l3_o)
  | 0, _ => none
  | k + 1, ((x1, _, x2, _), (l3, _)) =>
    if decide (x2 < (x1.length : Int)) then
      if 0 ≤ x2 ∧ x2 < (x1.length : Int) then (
        let v4 : Int := rdT ((.int .i64) : Ty) x1 x2
        if (l3.length + ([v4] : List ((.int .i64) : Ty).T).length) * 8 ≤ 140737488355328 then (
          let v5 : Int := IntKind.i64.wrap (x2 + 1)
          ref_Ints_l3 n k ((x1, (), v5, ()), (l3 ++ [v4], ()))) else none) else none
    else
      some (.inl (((), ()), (l3, ())))
def ref_Ints : Nat → ref_Ints_ins.T → Option (OutsT ref_Ints_outs)
  | 0, _ => none
  | n + 1, ((x1, _), _) =>
    if 0 ≤ (0 : Int) ∧ (0 : Int) ≤ (x1.length : Int) ∧ (x1.length : Int) * ((8 : Nat) : Int) ≤ 140737488355328 ∧ (x1.length : Int) ≤ 140737488355328 then (
      match ref_Ints_l3 n n ((x1, (), 0, ()), (List.replicate (0 : Int).toNat 0, ())) with
      | some (.inl ((_, _), (l2, _))) => (
        some (((), ()), (l2, ())))
      | some (.inr (_)) => none
      | none => none) else none
def ref_Ints_H (n : Nat) : Hints := ⟨[], fun _ => [], fun k => match k with | 3 => some ⟨[0, 3, 4], ref_Ints_l3_h, ref_Ints_l3_o, ref_Ints_l3 n⟩ | _ => none, fun _ => none, fun _ => none⟩
def ref_Ints_O (n : Nat) : FuncId → List FSpec := asc []
def b41 : Code := bodyOf Tryd.f41
theorem ref_Ints_l3_k0 (n : Nat) : LoopOk P CC (ref_Ints_O n) n 0 22 (ref_Ints_H n) ⟨[0, 3, 4], ref_Ints_l3_h, ref_Ints_l3_o, ref_Ints_l3 n⟩ ((loopsOf b41).getD 0 .skip) := by
  refine ⟨fun _ => by kernel_rfl, ?_⟩
  rintro k ⟨⟨x1, ⟨⟩, x2, ⟨⟩⟩, ⟨x3, ⟨⟩⟩⟩
  kernel_rfl
theorem ref_Ints_ok {S : Nat → Addr} (ok : CfgOk P CC S) : ∀ n, SpecOk P CC S 41 ⟨ref_Ints_ins, ref_Ints_outs, ref_Ints n⟩ :=
  fn_all ok (O := ref_Ints_O) (H := ref_Ints_H) (fn := Tryd.f41) (body := b41) (by kernel_rfl) (by kernel_rfl) (by kernel_rfl) (by decide) (by kernel_rfl)
    (fun x => by kernel_rfl) (fun n => by
      rintro ⟨⟨x1, ⟨⟩⟩, ⟨⟩⟩
      kernel_rfl)
    (fun n => obl_of (by kernel_rfl) (by kernel_rfl) (ls (lz) (by kernel_rfl) (ref_Ints_l3_k0 n)) (cn (cn (cn (cn (cn (cn (cn (cn (cz) (by kernel_rfl)) (by kernel_rfl)) (by kernel_rfl)) (by kernel_rfl)) (by kernel_rfl)) (by kernel_rfl)) (by kernel_rfl)) (by kernel_rfl)) (hn fun _ => rfl))
    (fun n ih => asc_nil)
/-! ### pendulum/pendulumref17.Face -/
abbrev ref17_Face_ins : Sh := ⟨[(.agg [(.val .str), (.val ty5), (.val ty5), (.val (.int .i64)), (.val ty15), (.val ty17), (.val ty18)])], []⟩
abbrev ref17_Face_outs : List Sh := [⟨[(.agg [(.val .str), (.arr 0), (.arr 1)])], [(.arr 3 (.int .i64)), (.arr 3 (.int .i64))]⟩]
def ref17_Face : Nat → ref17_Face_ins.T → Option (OutsT ref17_Face_outs)
  | 0, _ => none
  | n + 1, (((x1, x2, x3, x4, x5, x6, x7, _), _), _) =>
    match ref_Ints n ((x2, ()), ()) with
    | some ((_, _), (l8, _)) => (
      match ref_Ints n ((x3, ()), ()) with
      | some ((_, _), (l9, _)) => (
        some (((x1, (), (), ()), ()), (l8, l9, ())))
      | none => none)
    | none => none
def ref17_Face_H (n : Nat) : Hints := ⟨[], fun _ => [], fun _ => none, fun _ => none, fun _ => none⟩
def ref17_Face_O (n : Nat) : FuncId → List FSpec := asc [(41, ⟨ref_Ints_ins, ref_Ints_outs, ref_Ints n⟩)]
def b22 : Code := bodyOf Tryd.f22
theorem ref17_Face_ok {S : Nat → Addr} (ok : CfgOk P CC S) : ∀ n, SpecOk P CC S 22 ⟨ref17_Face_ins, ref17_Face_outs, ref17_Face n⟩ :=
  fn_all ok (O := ref17_Face_O) (H := ref17_Face_H) (fn := Tryd.f22) (body := b22) (by kernel_rfl) (by kernel_rfl) (by kernel_rfl) (by decide) (by kernel_rfl)
    (fun x => by kernel_rfl) (fun n => by
      rintro ⟨⟨⟨x1, x2, x3, x4, x5, x6, x7, ⟨⟩⟩, ⟨⟩⟩, ⟨⟩⟩
      kernel_rfl)
    (fun n => obl_of (by kernel_rfl) (by kernel_rfl) (lz) (cn (cn (cz) (by kernel_rfl)) (by kernel_rfl)) (hn fun _ => rfl))
    (fun n ih => asc_cons (ref_Ints_ok ok n) <| asc_nil)
/-! ### pendulum/pendulumref17.face -/
abbrev ref17_face_ins : Sh := ⟨[(.one (.val ty21)), (.one (.val .str))], []⟩
abbrev ref17_face_outs : List Sh := [⟨[(.tup [(true, [(.val .str), (.val ty5), (.val ty5)]), (false, [(.val .bool)])])], []⟩]
abbrev ref17_face_l2_h : Sh := ⟨[(.one (.val ty21)), (.one (.val .str)), (.one (.ptr 0 0)), (.one (.val (.int .i64)))], [(.obj 56 [(.val .str), (.emp true), (.emp true)])]⟩
abbrev ref17_face_l2_o : List Out := [⟨(.exit 0), [4], ⟨[(.one (.ptr 0 0))], [(.obj 56 [(.val .str), (.emp true), (.emp true)])]⟩⟩, ⟨.ret, [4, 5], ⟨[(.one (.ptr 0 0)), (.one (.val .bool))], [(.obj 56 [(.val .str), (.val ty5), (.val ty5)])]⟩⟩]
def ref17_face_l2 (n : Nat) : Nat → ref17_face_l2_h.T → Option (OutT ref17_face_l2_o)
  | 0, _ => none
  | k + 1, ((x1, x2, _, x3, _), ((x4, _, _, _), _)) =>
    if decide (x3 < (x1.length : Int)) then
      if 0 ≤ x3 ∧ x3 < (x1.length : Int) then (
        if strEq ((rdT ty3 x1 x3).1) x2 then
          if 0 ≤ x3 ∧ x3 < (x1.length : Int) then (
            some (.inr (.inl (((), true, ()), (((rdT ty3 x1 x3).1, ((rdT ty3 x1 x3).2).1, ((rdT ty3 x1 x3).2).2, ()), ()))))) else none
        else
          let v5 : Int := IntKind.i64.wrap (x3 + 1)
          ref17_face_l2 n k ((x1, x2, (), v5, ()), ((x4, (), (), ()), ()))) else none
    else
      some (.inl (((), ()), ((x4, (), (), ()), ())))
def ref17_face : Nat → ref17_face_ins.T → Option (OutsT ref17_face_outs)
  | 0, _ => none
  | n + 1, ((x1, x2, _), _) =>
    match ref17_face_l2 n n ((x1, x2, (), 0, ()), (((⟨#[]⟩ : ByteArray), (), (), ()), ())) with
    | some (.inl ((_, _), ((x3, _, _, _), _))) => (
      some (((((⟨#[]⟩ : ByteArray), [], [], ()), (false, ()), ()), ()), ()))
    | some (.inr (.inl ((_, x4, _), ((x5, x6, x7, _), _)))) => (
      some ((((x5, x6, x7, ()), (x4, ()), ()), ()), ()))
    | some (.inr (.inr (_))) => none
    | none => none
def ref17_face_H (n : Nat) : Hints := ⟨[], fun _ => [], fun k => match k with | 2 => some ⟨[0, 1, 4, 6], ref17_face_l2_h, ref17_face_l2_o, ref17_face_l2 n⟩ | _ => none, fun _ => none, fun _ => none⟩
def ref17_face_O (n : Nat) : FuncId → List FSpec := asc []
def b57 : Code := bodyOf Tryd.f57
theorem ref17_face_l2_k0 (n : Nat) : LoopOk P CC (ref17_face_O n) n 0 25 (ref17_face_H n) ⟨[0, 1, 4, 6], ref17_face_l2_h, ref17_face_l2_o, ref17_face_l2 n⟩ ((loopsOf b57).getD 0 .skip) := by
  refine ⟨fun _ => by kernel_rfl, ?_⟩
  rintro k ⟨⟨x1, x2, ⟨⟩, x3, ⟨⟩⟩, ⟨⟨x4, ⟨⟩, ⟨⟩, ⟨⟩⟩, ⟨⟩⟩⟩
  kernel_rfl
theorem ref17_face_ok {S : Nat → Addr} (ok : CfgOk P CC S) : ∀ n, SpecOk P CC S 57 ⟨ref17_face_ins, ref17_face_outs, ref17_face n⟩ :=
  fn_all ok (O := ref17_face_O) (H := ref17_face_H) (fn := Tryd.f57) (body := b57) (by kernel_rfl) (by kernel_rfl) (by kernel_rfl) (by decide) (by kernel_rfl)
    (fun x => by kernel_rfl) (fun n => by
      rintro ⟨⟨x1, x2, ⟨⟩⟩, ⟨⟩⟩
      kernel_rfl)
    (fun n => obl_of (by kernel_rfl) (by kernel_rfl) (ls (lz) (by kernel_rfl) (ref17_face_l2_k0 n)) (cn (cn (cn (cn (cn (cn (cn (cn (cn (cz) (by kernel_rfl)) (by kernel_rfl)) (by kernel_rfl)) (by kernel_rfl)) (by kernel_rfl)) (by kernel_rfl)) (by kernel_rfl)) (by kernel_rfl)) (by kernel_rfl)) (hn fun _ => rfl))
    (fun n ih => asc_nil)
/-! ### pendulum/pendulumref17.whole -/
abbrev ref17_whole_ins : Sh := ⟨[(.agg [(.val .str), (.val ty5), (.val ty5), (.val (.int .i64)), (.val ty15), (.val ty17), (.val ty18)]), (.one (.val ty21))], []⟩
abbrev ref17_whole_outs : List Sh := [⟨[(.one (.val (.int .i64)))], []⟩]
abbrev ref17_whole_l5_h : Sh := ⟨[(.one (.val ty21)), (.one (.ptr 0 0)), (.one (.val .bool)), (.one (.arr 1)), (.one (.arr 2)), (.one (.emp true)), (.one (.val (.int .i64)))], [(.obj 34 [(.val .str), (.val ty5), (.val ty5), (.val (.int .i64)), (.val ty15), (.val ty17), (.val ty18)]), (.arr 3 (.int .i64)), (.arr 9 .str)]⟩
abbrev ref17_whole_l5_o : List Out := [⟨(.exit 0), [1, 2, 5, 6, 8], ⟨[(.one (.val ty21)), (.one (.ptr 0 0)), (.one (.val .bool)), (.one (.arr 1)), (.one (.emp true))], [(.obj 34 [(.val .str), (.val ty5), (.val ty5), (.val (.int .i64)), (.val ty15), (.val ty17), (.val ty18)]), (.arr 3 (.int .i64))]⟩⟩]
def ref17_whole_l5 (n : Nat) : Nat → ref17_whole_l5_h.T → Option (OutT ref17_whole_l5_o)
  | 0, _ => none
  | k + 1, ((x1, _, x2, _, _, _, x3, _), ((x4, x5, x6, x7, x8, x9, x10, _), l11, l12, _)) =>
    if decide (x3 < (x8.length : Int)) then
      if 0 ≤ x3 ∧ x3 < (x8.length : Int) then (
        if (l11.length + ([((rdT ty0 x8 x3).2).1] : List ((.int .i64) : Ty).T).length) * 8 ≤ 140737488355328 then (
          if x2 then
            match ref_Among n (((), (rdT ty0 x8 x3).1, ()), (l12, ())) with
            | some ((x13, _), (l14, _)) => (
              if decide (x13 < 0) then
                if ((rdT ty0 x8 x3).2).1 != 2 then
                  if (l14.length + ([(rdT ty0 x8 x3).1] : List (.str : Ty).T).length) * 16 ≤ 140737488355328 then (
                    let v15 : Int := IntKind.i64.wrap (x3 + 1)
                    ref17_whole_l5 n k ((x1, (), true, (), (), (), v15, ()), ((x4, x5, x6, x7, x8, x9, x10, ()), l11 ++ [((rdT ty0 x8 x3).2).1], l14 ++ [(rdT ty0 x8 x3).1], ()))) else none
                else
                  if ((rdT ty0 x8 x3).2).2 == 0 then
                    if (l14.length + ([(rdT ty0 x8 x3).1] : List (.str : Ty).T).length) * 16 ≤ 140737488355328 then (
                      let v16 : Int := IntKind.i64.wrap (x3 + 1)
                      ref17_whole_l5 n k ((x1, (), true, (), (), (), v16, ()), ((x4, x5, x6, x7, x8, x9, x10, ()), l11 ++ [((rdT ty0 x8 x3).2).1], l14 ++ [(rdT ty0 x8 x3).1], ()))) else none
                  else
                    if (l14.length + ([(rdT ty0 x8 x3).1] : List (.str : Ty).T).length) * 16 ≤ 140737488355328 then (
                      let v17 : Int := IntKind.i64.wrap (x3 + 1)
                      ref17_whole_l5 n k ((x1, (), ((rdT ty0 x8 x3).2).2 == 1, (), (), (), v17, ()), ((x4, x5, x6, x7, x8, x9, x10, ()), l11 ++ [((rdT ty0 x8 x3).2).1], l14 ++ [(rdT ty0 x8 x3).1], ()))) else none
              else
                if (l14.length + ([(rdT ty0 x8 x3).1] : List (.str : Ty).T).length) * 16 ≤ 140737488355328 then (
                  let v18 : Int := IntKind.i64.wrap (x3 + 1)
                  ref17_whole_l5 n k ((x1, (), false, (), (), (), v18, ()), ((x4, x5, x6, x7, x8, x9, x10, ()), l11 ++ [((rdT ty0 x8 x3).2).1], l14 ++ [(rdT ty0 x8 x3).1], ()))) else none)
            | none => none
          else
            if (l12.length + ([(rdT ty0 x8 x3).1] : List (.str : Ty).T).length) * 16 ≤ 140737488355328 then (
              let v19 : Int := IntKind.i64.wrap (x3 + 1)
              ref17_whole_l5 n k ((x1, (), false, (), (), (), v19, ()), ((x4, x5, x6, x7, x8, x9, x10, ()), l11 ++ [((rdT ty0 x8 x3).2).1], l12 ++ [(rdT ty0 x8 x3).1], ()))) else none) else none) else none
    else
      some (.inl ((x1, (), x2, (), (), ()), ((x4, x5, x6, x7, x8, x9, x10, ()), l11, ())))
abbrev ref17_whole_l12_h : Sh := ⟨[(.one (.val ty21)), (.one (.ptr 0 0)), (.one (.val .bool)), (.one (.arr 1)), (.one (.emp true)), (.one (.val (.int .i64)))], [(.obj 34 [(.val .str), (.val ty5), (.val ty5), (.val (.int .i64)), (.val ty15), (.val ty17), (.val ty18)]), (.arr 3 (.int .i64))]⟩
abbrev ref17_whole_l12_o : List Out := [⟨(.exit 2), [1, 2, 5, 8], ⟨[(.one (.val ty21)), (.one (.ptr 0 0)), (.one (.val .bool)), (.one (.emp true))], [(.obj 34 [(.val .str), (.val ty5), (.val ty5), (.val (.int .i64)), (.val ty15), (.val ty17), (.val ty18)])]⟩⟩]
def ref17_whole_l12 (n : Nat) : Nat → ref17_whole_l12_h.T → Option (OutT ref17_whole_l12_o)
  | 0, _ => none
  | k + 1, ((x1, _, x2, _, _, x3, _), ((x4, x5, x6, x7, x8, x9, x10, _), l11, _)) =>
    if decide (x3 < (l11.length : Int)) then
      if x2 then
        if 0 ≤ x3 ∧ x3 < (l11.length : Int) then (
          let v12 : Int := rdT ((.int .i64) : Ty) l11 x3
          if v12 == 1 then
            let v14 : Int := IntKind.i64.wrap (x3 + 1)
            ref17_whole_l12 n k ((x1, (), true, (), (), v14, ()), ((x4, x5, x6, x7, x8, x9, x10, ()), l11, ()))
          else
            if 0 ≤ x3 ∧ x3 < (l11.length : Int) then (
              let v13 : Int := rdT ((.int .i64) : Ty) l11 x3
              let v15 : Int := IntKind.i64.wrap (x3 + 1)
              ref17_whole_l12 n k ((x1, (), v13 == 2, (), (), v15, ()), ((x4, x5, x6, x7, x8, x9, x10, ()), l11, ()))) else none) else none
      else
        let v16 : Int := IntKind.i64.wrap (x3 + 1)
        ref17_whole_l12 n k ((x1, (), false, (), (), v16, ()), ((x4, x5, x6, x7, x8, x9, x10, ()), l11, ()))
    else
      some (.inl ((x1, (), x2, (), ()), ((x4, x5, x6, x7, x8, x9, x10, ()), ())))
abbrev ref17_whole_l16_h : Sh := ⟨[(.one (.val ty21)), (.one (.ptr 0 0)), (.one (.val .bool)), (.one (.arr 1)), (.one (.val (.int .i64)))], [(.obj 34 [(.val .str), (.val ty5), (.val ty5), (.val (.int .i64)), (.val ty15), (.val ty17), (.val ty18)]), (.arr 9 .str)]⟩
abbrev ref17_whole_l16_o : List Out := [⟨(.exit 4), [1, 2, 5], ⟨[(.one (.val ty21)), (.one (.ptr 0 0)), (.one (.val .bool))], [(.obj 34 [(.val .str), (.val ty5), (.val ty5), (.val (.int .i64)), (.val ty15), (.val ty17), (.val ty18)])]⟩⟩]
def ref17_whole_l16 (n : Nat) : Nat → ref17_whole_l16_h.T → Option (OutT ref17_whole_l16_o)
  | 0, _ => none
  | k + 1, ((x1, _, x2, _, x3, _), ((x4, x5, x6, x7, x8, x9, x10, _), l11, _)) =>
    if decide (x3 < (x9.2.length : Int)) then
      if x2 then
        if 0 ≤ x3 ∧ x3 < (x9.2.length : Int) then (
          match ref_Among n (((), (rdT ty2 x9.2 x3).1, ()), (l11, ())) with
          | some ((x12, _), (l13, _)) => (
            if 0 ≤ x3 ∧ x3 < (x9.2.length : Int) then (
              if (l13.length + ([(rdT ty2 x9.2 x3).1] : List (.str : Ty).T).length) * 16 ≤ 140737488355328 then (
                let v14 : Int := IntKind.i64.wrap (x3 + 1)
                ref17_whole_l16 n k ((x1, (), decide (x12 < 0), (), v14, ()), ((x4, x5, x6, x7, x8, x9, x10, ()), l13 ++ [(rdT ty2 x9.2 x3).1], ()))) else none) else none)
          | none => none) else none
      else
        if 0 ≤ x3 ∧ x3 < (x9.2.length : Int) then (
          if (l11.length + ([(rdT ty2 x9.2 x3).1] : List (.str : Ty).T).length) * 16 ≤ 140737488355328 then (
            let v15 : Int := IntKind.i64.wrap (x3 + 1)
            ref17_whole_l16 n k ((x1, (), false, (), v15, ()), ((x4, x5, x6, x7, x8, x9, x10, ()), l11 ++ [(rdT ty2 x9.2 x3).1], ()))) else none) else none
    else
      some (.inl ((x1, (), x2, ()), ((x4, x5, x6, x7, x8, x9, x10, ()), ())))
abbrev ref17_whole_l23_h : Sh := ⟨[(.one (.val ty21)), (.one (.ptr 0 0)), (.one (.val (.int .i64)))], [(.obj 34 [(.val .str), (.val ty5), (.val ty5), (.val (.int .i64)), (.val ty15), (.val ty17), (.val ty18)])]⟩
abbrev ref17_whole_l23_o : List Out := [⟨(.exit 6), [], ⟨[], []⟩⟩, ⟨.ret, [4], ⟨[(.one (.val (.int .i64)))], []⟩⟩]
def ref17_whole_l23 (n : Nat) : Nat → ref17_whole_l23_h.T → Option (OutT ref17_whole_l23_o)
  | 0, _ => none
  | k + 1, ((x1, _, x2, _), ((x3, x4, x5, x6, x7, x8, x9, _), _)) =>
    if decide (x2 < (x8.2.length : Int)) then
      if 0 ≤ x2 ∧ x2 < (x8.2.length : Int) then (
        match ref17_face n ((x1, (rdT ty2 x8.2 x2).2, ()), ()) with
        | some ((((x10, x11, x12, _), (x13, _), _), _), _) => (
          if !x13 then
            some (.inr (.inl ((116, ()), ())))
          else
            let v14 : Int := IntKind.i64.wrap (x2 + 1)
            ref17_whole_l23 n k ((x1, (), v14, ()), ((x3, x4, x5, x6, x7, x8, x9, ()), ())))
        | none => none) else none
    else
      some (.inl ((), ()))
def ref17_whole : Nat → ref17_whole_ins.T → Option (OutsT ref17_whole_outs)
  | 0, _ => none
  | n + 1, (((x1, x2, x3, x4, x5, x6, x7, _), x8, _), _) =>
    let v9 : Int := IntKind.i64.wrap ((x2.length : Int) + (x3.length : Int))
    if decide (x4 ≥ v9) then
      match ref_Ints n ((x2, ()), ()) with
      | some ((_, _), (l10, _)) => (
        if (l10.length + x3.length) * 8 ≤ 140737488355328 then (
          match ref17_whole_l5 n n ((x8, (), decide (x4 ≤ 1024), (), (), (), 0, ()), ((x1, x2, x3, x4, x5, x6, x7, ()), l10 ++ x3, [], ())) with
          | some (.inl ((x11, _, x12, _, _, _), ((x13, x14, x15, x16, x17, x18, x19, _), l20, _))) => (
            match ref17_whole_l12 n n ((x11, (), x12, (), (), 0, ()), ((x13, x14, x15, x16, x17, x18, x19, ()), l20, ())) with
            | some (.inl ((x21, _, x22, _, _), ((x23, x24, x25, x26, x27, x28, x29, _), _))) => (
              match ref17_whole_l16 n n ((x21, (), x22, (), 0, ()), ((x23, x24, x25, x26, x27, x28, x29, ()), [], ())) with
              | some (.inl ((x30, _, x31, _), ((x32, x33, x34, x35, x36, x37, x38, _), _))) => (
                if !x31 then
                  some ((102, ()), ())
                else
                  match ref17_whole_l23 n n ((x30, (), 0, ()), ((x32, x33, x34, x35, x36, x37, x38, ()), ())) with
                  | some (.inl (_, _)) => (
                    some ((0, ()), ()))
                  | some (.inr (.inl ((x39, _), _))) => (
                    some ((x39, ()), ()))
                  | some (.inr (.inr (_))) => none
                  | none => none)
              | some (.inr (_)) => none
              | none => none)
            | some (.inr (_)) => none
            | none => none)
          | some (.inr (_)) => none
          | none => none) else none)
      | none => none
    else
      match ref_Ints n ((x2, ()), ()) with
      | some ((_, _), (l40, _)) => (
        if (l40.length + x3.length) * 8 ≤ 140737488355328 then (
          match ref17_whole_l5 n n ((x8, (), false, (), (), (), 0, ()), ((x1, x2, x3, x4, x5, x6, x7, ()), l40 ++ x3, [], ())) with
          | some (.inl ((x41, _, x42, _, _, _), ((x43, x44, x45, x46, x47, x48, x49, _), l50, _))) => (
            match ref17_whole_l12 n n ((x41, (), x42, (), (), 0, ()), ((x43, x44, x45, x46, x47, x48, x49, ()), l50, ())) with
            | some (.inl ((x51, _, x52, _, _), ((x53, x54, x55, x56, x57, x58, x59, _), _))) => (
              match ref17_whole_l16 n n ((x51, (), x52, (), 0, ()), ((x53, x54, x55, x56, x57, x58, x59, ()), [], ())) with
              | some (.inl ((x60, _, x61, _), ((x62, x63, x64, x65, x66, x67, x68, _), _))) => (
                if !x61 then
                  some ((102, ()), ())
                else
                  match ref17_whole_l23 n n ((x60, (), 0, ()), ((x62, x63, x64, x65, x66, x67, x68, ()), ())) with
                  | some (.inl (_, _)) => (
                    some ((0, ()), ()))
                  | some (.inr (.inl ((x69, _), _))) => (
                    some ((x69, ()), ()))
                  | some (.inr (.inr (_))) => none
                  | none => none)
              | some (.inr (_)) => none
              | none => none)
            | some (.inr (_)) => none
            | none => none)
          | some (.inr (_)) => none
          | none => none) else none)
      | none => none
def ref17_whole_H (n : Nat) : Hints := ⟨[], fun _ => [], fun k => match k with | 5 => some ⟨[1, 2, 5, 6, 7, 8, 9], ref17_whole_l5_h, ref17_whole_l5_o, ref17_whole_l5 n⟩ | 12 => some ⟨[1, 2, 5, 6, 8, 11], ref17_whole_l12_h, ref17_whole_l12_o, ref17_whole_l12 n⟩ | 16 => some ⟨[1, 2, 5, 8, 12], ref17_whole_l16_h, ref17_whole_l16_o, ref17_whole_l16 n⟩ | 23 => some ⟨[1, 2, 13], ref17_whole_l23_h, ref17_whole_l23_o, ref17_whole_l23 n⟩ | _ => none, fun _ => none, fun _ => none⟩
def ref17_whole_O (n : Nat) : FuncId → List FSpec := asc [(41, ⟨ref_Ints_ins, ref_Ints_outs, ref_Ints n⟩), (42, ⟨ref_Among_ins, ref_Among_outs, ref_Among n⟩), (57, ⟨ref17_face_ins, ref17_face_outs, ref17_face n⟩)]
def b44 : Code := bodyOf Tryd.f44
theorem ref17_whole_l5_k0 (n : Nat) : LoopOk P CC (ref17_whole_O n) n 0 153 (ref17_whole_H n) ⟨[1, 2, 5, 6, 7, 8, 9], ref17_whole_l5_h, ref17_whole_l5_o, ref17_whole_l5 n⟩ ((loopsOf b44).getD 0 .skip) := by
  refine ⟨fun _ => by kernel_rfl, ?_⟩
  rintro k ⟨⟨x1, ⟨⟩, x2, ⟨⟩, ⟨⟩, ⟨⟩, x3, ⟨⟩⟩, ⟨⟨x4, x5, x6, x7, x8, x9, x10, ⟨⟩⟩, x11, x12, ⟨⟩⟩⟩
  kernel_rfl
theorem ref17_whole_l12_k1 (n : Nat) : LoopOk P CC (ref17_whole_O n) n 0 153 (ref17_whole_H n) ⟨[1, 2, 5, 6, 8, 11], ref17_whole_l12_h, ref17_whole_l12_o, ref17_whole_l12 n⟩ ((loopsOf b44).getD 1 .skip) := by
  refine ⟨fun _ => by kernel_rfl, ?_⟩
  rintro k ⟨⟨x1, ⟨⟩, x2, ⟨⟩, ⟨⟩, x3, ⟨⟩⟩, ⟨⟨x4, x5, x6, x7, x8, x9, x10, ⟨⟩⟩, x11, ⟨⟩⟩⟩
  kernel_rfl
theorem ref17_whole_l16_k2 (n : Nat) : LoopOk P CC (ref17_whole_O n) n 0 153 (ref17_whole_H n) ⟨[1, 2, 5, 8, 12], ref17_whole_l16_h, ref17_whole_l16_o, ref17_whole_l16 n⟩ ((loopsOf b44).getD 2 .skip) := by
  refine ⟨fun _ => by kernel_rfl, ?_⟩
  rintro k ⟨⟨x1, ⟨⟩, x2, ⟨⟩, x3, ⟨⟩⟩, ⟨⟨x4, x5, x6, x7, x8, x9, x10, ⟨⟩⟩, x11, ⟨⟩⟩⟩
  kernel_rfl
theorem ref17_whole_l23_k3 (n : Nat) : LoopOk P CC (ref17_whole_O n) n 0 153 (ref17_whole_H n) ⟨[1, 2, 13], ref17_whole_l23_h, ref17_whole_l23_o, ref17_whole_l23 n⟩ ((loopsOf b44).getD 3 .skip) := by
  refine ⟨fun _ => by kernel_rfl, ?_⟩
  rintro k ⟨⟨x1, ⟨⟩, x2, ⟨⟩⟩, ⟨⟨x3, x4, x5, x6, x7, x8, x9, ⟨⟩⟩, ⟨⟩⟩⟩
  kernel_rfl
theorem ref17_whole_ok {S : Nat → Addr} (ok : CfgOk P CC S) : ∀ n, SpecOk P CC S 44 ⟨ref17_whole_ins, ref17_whole_outs, ref17_whole n⟩ :=
  fn_all ok (O := ref17_whole_O) (H := ref17_whole_H) (fn := Tryd.f44) (body := b44) (by kernel_rfl) (by kernel_rfl) (by kernel_rfl) (by decide) (by kernel_rfl)
    (fun x => by kernel_rfl) (fun n => by
      rintro ⟨⟨⟨x1, x2, x3, x4, x5, x6, x7, ⟨⟩⟩, x8, ⟨⟩⟩, ⟨⟩⟩
      kernel_rfl)
    (fun n => obl_of (by kernel_rfl) (by kernel_rfl) (ls (ls (ls (ls (lz) (by kernel_rfl) (ref17_whole_l5_k0 n)) (by kernel_rfl) (ref17_whole_l12_k1 n)) (by kernel_rfl) (ref17_whole_l16_k2 n)) (by kernel_rfl) (ref17_whole_l23_k3 n)) (cn (cn (cn (cn (cn (cn (cn (cn (cn (cn (cn (cn (cn (cn (cn (cn (cn (cn (cn (cn (cn (cn (cn (cn (cn (cn (cn (cn (cn (cn (cn (cn (cn (cn (cn (cz) (by kernel_rfl)) (by kernel_rfl)) (by kernel_rfl)) (by kernel_rfl)) (by kernel_rfl)) (by kernel_rfl)) (by kernel_rfl)) (by kernel_rfl)) (by kernel_rfl)) (by kernel_rfl)) (by kernel_rfl)) (by kernel_rfl)) (by kernel_rfl)) (by kernel_rfl)) (by kernel_rfl)) (by kernel_rfl)) (by kernel_rfl)) (by kernel_rfl)) (by kernel_rfl)) (by kernel_rfl)) (by kernel_rfl)) (by kernel_rfl)) (by kernel_rfl)) (by kernel_rfl)) (by kernel_rfl)) (by kernel_rfl)) (by kernel_rfl)) (by kernel_rfl)) (by kernel_rfl)) (by kernel_rfl)) (by kernel_rfl)) (by kernel_rfl)) (by kernel_rfl)) (by kernel_rfl)) (by kernel_rfl)) (hn fun _ => rfl))
    (fun n ih => asc_cons (ref_Ints_ok ok n) <| asc_cons (ref_Among_ok ok n) <| asc_cons (ref17_face_ok ok n) <| asc_nil)
/-! ### pendulum/pendulumref17.reg -/
abbrev ref17_reg_ins : Sh := ⟨[(.agg [(.val .str), (.val ty5), (.val ty5), (.val (.int .i64)), (.val ty15), (.val ty17), (.val ty18)]), (.one (.val ty5))], []⟩
abbrev ref17_reg_outs : List Sh := [⟨[(.one (.val .bool))], []⟩]
abbrev ref17_reg_l2_h : Sh := ⟨[(.one (.val ty5)), (.one (.ptr 0 0)), (.one (.val (.int .i64)))], [(.obj 34 [(.val .str), (.val ty5), (.val ty5), (.val (.int .i64)), (.val ty15), (.val ty17), (.val ty18)])]⟩
abbrev ref17_reg_l2_o : List Out := [⟨(.exit 0), [], ⟨[], []⟩⟩, ⟨.ret, [4], ⟨[(.one (.val .bool))], []⟩⟩]
def ref17_reg_l2 (n : Nat) : Nat → ref17_reg_l2_h.T → Option (OutT ref17_reg_l2_o)
  | 0, _ => none
  | k + 1, ((x1, _, x2, _), ((x3, x4, x5, x6, x7, x8, x9, _), _)) =>
    if decide (x2 < (x1.length : Int)) then
      if 0 ≤ x2 ∧ x2 < (x1.length : Int) then (
        let v10 : Int := rdT ((.int .i64) : Ty) x1 x2
        if decide (v10 < 0) then
          some (.inr (.inl ((false, ()), ())))
        else
          if 0 ≤ x2 ∧ x2 < (x1.length : Int) then (
            let v11 : Int := rdT ((.int .i64) : Ty) x1 x2
            if decide (v11 ≥ x6) then
              some (.inr (.inl ((false, ()), ())))
            else
              let v12 : Int := IntKind.i64.wrap (x2 + 1)
              ref17_reg_l2 n k ((x1, (), v12, ()), ((x3, x4, x5, x6, x7, x8, x9, ()), ()))) else none) else none
    else
      some (.inl ((), ()))
def ref17_reg : Nat → ref17_reg_ins.T → Option (OutsT ref17_reg_outs)
  | 0, _ => none
  | n + 1, (((x1, x2, x3, x4, x5, x6, x7, _), x8, _), _) =>
    match ref17_reg_l2 n n ((x8, (), 0, ()), ((x1, x2, x3, x4, x5, x6, x7, ()), ())) with
    | some (.inl (_, _)) => (
      some ((true, ()), ()))
    | some (.inr (.inl ((x9, _), _))) => (
      some ((x9, ()), ()))
    | some (.inr (.inr (_))) => none
    | none => none
def ref17_reg_H (n : Nat) : Hints := ⟨[], fun _ => [], fun k => match k with | 2 => some ⟨[1, 2, 5], ref17_reg_l2_h, ref17_reg_l2_o, ref17_reg_l2 n⟩ | _ => none, fun _ => none, fun _ => none⟩
def ref17_reg_O (n : Nat) : FuncId → List FSpec := asc []
def b58 : Code := bodyOf Tryd.f58
theorem ref17_reg_l2_k0 (n : Nat) : LoopOk P CC (ref17_reg_O n) n 0 26 (ref17_reg_H n) ⟨[1, 2, 5], ref17_reg_l2_h, ref17_reg_l2_o, ref17_reg_l2 n⟩ ((loopsOf b58).getD 0 .skip) := by
  refine ⟨fun _ => by kernel_rfl, ?_⟩
  rintro k ⟨⟨x1, ⟨⟩, x2, ⟨⟩⟩, ⟨⟨x3, x4, x5, x6, x7, x8, x9, ⟨⟩⟩, ⟨⟩⟩⟩
  kernel_rfl
theorem ref17_reg_ok {S : Nat → Addr} (ok : CfgOk P CC S) : ∀ n, SpecOk P CC S 58 ⟨ref17_reg_ins, ref17_reg_outs, ref17_reg n⟩ :=
  fn_all ok (O := ref17_reg_O) (H := ref17_reg_H) (fn := Tryd.f58) (body := b58) (by kernel_rfl) (by kernel_rfl) (by kernel_rfl) (by decide) (by kernel_rfl)
    (fun x => by kernel_rfl) (fun n => by
      rintro ⟨⟨⟨x1, x2, x3, x4, x5, x6, x7, ⟨⟩⟩, x8, ⟨⟩⟩, ⟨⟩⟩
      kernel_rfl)
    (fun n => obl_of (by kernel_rfl) (by kernel_rfl) (ls (lz) (by kernel_rfl) (ref17_reg_l2_k0 n)) (cn (cn (cn (cn (cn (cn (cn (cn (cn (cz) (by kernel_rfl)) (by kernel_rfl)) (by kernel_rfl)) (by kernel_rfl)) (by kernel_rfl)) (by kernel_rfl)) (by kernel_rfl)) (by kernel_rfl)) (by kernel_rfl)) (hn fun _ => rfl))
    (fun n ih => asc_nil)
/-! ### pendulum/pendulumref17.names -/
abbrev ref17_names_ins : Sh := ⟨[(.agg [(.val .str), (.val ty5), (.val ty5), (.val (.int .i64)), (.val ty15), (.val ty17), (.val ty18)]), (.agg [(.val (.int .i64)), (.val (.int .i64)), (.val (.int .i64)), (.val (.int .i64)), (.val (.int .i64)), (.val (.int .i64))]), (.one (.val ty21))], []⟩
abbrev ref17_names_outs : List Sh := [⟨[(.one (.val .bool))], []⟩]
abbrev ref17_names_c6_h : Sh := ⟨[(.one (.val ty21)), (.one (.ptr 0 0)), (.one (.ptr 1 0)), (.one (.val (.int .i64)))], [(.obj 34 [(.val .str), (.val ty5), (.val ty5), (.val (.int .i64)), (.val ty15), (.val ty17), (.val ty18)]), (.obj 27 [(.val (.int .i64)), (.val (.int .i64)), (.val (.int .i64)), (.val (.int .i64)), (.val (.int .i64)), (.val (.int .i64))])]⟩
abbrev ref17_names_c6_o : List Out := [⟨.normal, [2, 3, 4, 11, 19], ⟨[(.one (.val ty21)), (.one (.ptr 0 0)), (.one (.ptr 1 0)), (.one (.val (.int .i64))), (.one (.val .bool))], [(.obj 34 [(.val .str), (.val ty5), (.val ty5), (.val (.int .i64)), (.val ty15), (.val ty17), (.val ty18)]), (.obj 27 [(.val (.int .i64)), (.val (.int .i64)), (.val (.int .i64)), (.val (.int .i64)), (.val (.int .i64)), (.val (.int .i64))])]⟩⟩]
def ref17_names_c6 (n : Nat) : ref17_names_c6_h.T → Option (OutT ref17_names_c6_o)
  | ((x1, _, _, x2, _), ((x3, x4, x5, x6, x7, x8, x9, _), (x10, x11, x12, x13, x14, x15, _), _)) =>
    if x2 == 2 then
      some (.inl ((x1, (), (), x2, x2 == 2, ()), ((x3, x4, x5, x6, x7, x8, x9, ()), (x10, x11, x12, x13, x14, x15, ()), ())))
    else
      some (.inl ((x1, (), (), x2, x2 == 5, ()), ((x3, x4, x5, x6, x7, x8, x9, ()), (x10, x11, x12, x13, x14, x15, ()), ())))
def ref17_names : Nat → ref17_names_ins.T → Option (OutsT ref17_names_outs)
  | 0, _ => none
  | n + 1, (((x1, x2, x3, x4, x5, x6, x7, _), (x8, x9, x10, x11, x12, x13, _), x14, _), _) =>
    if x8 == 1 then
      match ref17_reg n (((x1, x2, x3, x4, x5, x6, x7, ()), [x9], ()), ()) with
      | some ((x15, _), _) => (
        some ((x15, ()), ()))
      | none => none
    else
      match ref17_names_c6 n ((x14, (), (), x8, ()), ((x1, x2, x3, x4, x5, x6, x7, ()), (x8, x9, x10, x11, x12, x13, ()), ())) with
      | some (.inl ((x16, _, _, x17, x18, _), ((x19, x20, x21, x22, x23, x24, x25, _), (x26, x27, x28, x29, x30, x31, _), _))) => (
        if x18 then
          match ref17_reg n (((x19, x20, x21, x22, x23, x24, x25, ()), [x27, x28], ()), ()) with
          | some ((x32, _), _) => (
            some ((x32, ()), ()))
          | none => none
        else
          if x17 == 3 then
            match ref17_reg n (((x19, x20, x21, x22, x23, x24, x25, ()), [x27], ()), ()) with
            | some ((x33, _), _) => (
              if x33 then
                if decide (x28 ≥ 0) then
                  some ((decide (x28 < (x23.length : Int)), ()), ())
                else
                  some ((false, ()), ())
              else
                some ((false, ()), ()))
            | none => none
          else
            if x17 == 4 then
              match ref17_reg n (((x19, x20, x21, x22, x23, x24, x25, ()), [x28], ()), ()) with
              | some ((x34, _), _) => (
                if x34 then
                  if decide (x27 ≥ 0) then
                    some ((decide (x27 < (x23.length : Int)), ()), ())
                  else
                    some ((false, ()), ())
                else
                  some ((false, ()), ()))
              | none => none
            else
              if x17 == 6 then
                match ref17_reg n (((x19, x20, x21, x22, x23, x24, x25, ()), [x27, x28, x29], ()), ()) with
                | some ((x35, _), _) => (
                  some ((x35, ()), ()))
                | none => none
              else
                if x17 == 7 then
                  match ref17_reg n (((x19, x20, x21, x22, x23, x24, x25, ()), [x27, x28, x29, x30], ()), ()) with
                  | some ((x36, _), _) => (
                    some ((x36, ()), ()))
                  | none => none
                else
                  if x17 == 8 then
                    match ref17_reg n (((x19, x20, x21, x22, x23, x24, x25, ()), [x27], ()), ()) with
                    | some ((x37, _), _) => (
                      some ((x37, ()), ()))
                    | none => none
                  else
                    if x17 == 10 then
                      if decide (x27 ≥ 0) then
                        some ((decide (x27 < (x24.2.length : Int)), ()), ())
                      else
                        some ((false, ()), ())
                    else
                      if x17 == 11 then
                        if decide (x27 < 0) then
                          some ((false, ()), ())
                        else
                          if decide (x27 ≥ (x24.2.length : Int)) then
                            some ((false, ()), ())
                          else
                            if 0 ≤ x27 ∧ x27 < (x24.2.length : Int) then (
                              match ref17_face n ((x16, (rdT ty2 x24.2 x27).2, ()), ()) with
                              | some ((((x38, x39, x40, _), (x41, _), _), _), _) => (
                                if decide (x28 ≥ 0) then
                                  let v42 : Int := IntKind.i64.wrap (x22 - (x39.length : Int))
                                  if decide (x28 ≤ v42) then
                                    if decide (x29 ≥ 0) then
                                      let v43 : Int := IntKind.i64.wrap (x22 - (x40.length : Int))
                                      some ((decide (x29 ≤ v43), ()), ())
                                    else
                                      some ((false, ()), ())
                                  else
                                    some ((false, ()), ())
                                else
                                  some ((false, ()), ()))
                              | none => none) else none
                      else
                        some ((true, ()), ()))
      | some (.inr (_)) => none
      | none => none
def ref17_names_H (n : Nat) : Hints := ⟨[], fun _ => [], fun _ => none, fun k => match k with | 6 => some ⟨[2, 3, 4, 11], ref17_names_c6_h, ref17_names_c6_o, fun n => ref17_names_c6 n⟩ | _ => none, fun _ => none⟩
def ref17_names_O (n : Nat) : FuncId → List FSpec := asc [(57, ⟨ref17_face_ins, ref17_face_outs, ref17_face n⟩), (58, ⟨ref17_reg_ins, ref17_reg_outs, ref17_reg n⟩)]
def b45 : Code := bodyOf Tryd.f45
theorem ref17_names_c6_k5 (n : Nat) : CutOk P CC (ref17_names_O n) n 0 169 (ref17_names_H n) ⟨[2, 3, 4, 11], ref17_names_c6_h, ref17_names_c6_o, fun n => ref17_names_c6 n⟩ ((cutsOf b45).getD 5 (0, .skip)).2 := by
  rintro ⟨⟨x1, ⟨⟩, ⟨⟩, x2, ⟨⟩⟩, ⟨⟨x3, x4, x5, x6, x7, x8, x9, ⟨⟩⟩, ⟨x10, x11, x12, x13, x14, x15, ⟨⟩⟩, ⟨⟩⟩⟩
  kernel_rfl
theorem ref17_names_ok {S : Nat → Addr} (ok : CfgOk P CC S) : ∀ n, SpecOk P CC S 45 ⟨ref17_names_ins, ref17_names_outs, ref17_names n⟩ :=
  fn_all ok (O := ref17_names_O) (H := ref17_names_H) (fn := Tryd.f45) (body := b45) (by kernel_rfl) (by kernel_rfl) (by kernel_rfl) (by decide) (by kernel_rfl)
    (fun x => by kernel_rfl) (fun n => by
      rintro ⟨⟨⟨x1, x2, x3, x4, x5, x6, x7, ⟨⟩⟩, ⟨x8, x9, x10, x11, x12, x13, ⟨⟩⟩, x14, ⟨⟩⟩, ⟨⟩⟩
      kernel_rfl)
    (fun n => obl_of (by kernel_rfl) (by kernel_rfl) (lz) (cn (cn (cn (cn (cn (cn (cn (cn (cn (cn (cn (cn (cn (cn (cn (cn (cn (cn (cn (cn (cn (cn (cs (cn (cn (cn (cn (cn (cz) (by kernel_rfl)) (by kernel_rfl)) (by kernel_rfl)) (by kernel_rfl)) (by kernel_rfl)) (by kernel_rfl) (ref17_names_c6_k5 n)) (by kernel_rfl)) (by kernel_rfl)) (by kernel_rfl)) (by kernel_rfl)) (by kernel_rfl)) (by kernel_rfl)) (by kernel_rfl)) (by kernel_rfl)) (by kernel_rfl)) (by kernel_rfl)) (by kernel_rfl)) (by kernel_rfl)) (by kernel_rfl)) (by kernel_rfl)) (by kernel_rfl)) (by kernel_rfl)) (by kernel_rfl)) (by kernel_rfl)) (by kernel_rfl)) (by kernel_rfl)) (by kernel_rfl)) (by kernel_rfl)) (hn fun _ => rfl))
    (fun n ih => asc_cons (ref17_face_ok ok n) <| asc_cons (ref17_reg_ok ok n) <| asc_nil)
/-! ### pendulum/pendulumref17.Verify -/
abbrev ref17_Verify_ins : Sh := ⟨[(.agg [(.val .str), (.val ty5), (.val ty5), (.val (.int .i64)), (.val ty15), (.val ty17), (.val ty18)]), (.one (.val ty21))], []⟩
abbrev ref17_Verify_outs : List Sh := [⟨[(.agg [(.val (.int .i64)), (.val .bool), (.val .bool), (.val (.int .i64)), (.val (.int .i64))])], []⟩]
abbrev ref17_Verify_c14_h : Sh := ⟨[(.one (.val ty21)), (.one (.ptr 0 0)), (.one (.ptr 1 0)), (.one (.val (.int .i64))), (.one (.val (.int .i64))), (.one (.arr 2)), (.one (.val (.int .i64))), (.one (.ptr 3 0))], [(.obj 34 [(.val .str), (.val ty5), (.val ty5), (.val (.int .i64)), (.val ty15), (.val ty17), (.val ty18)]), (.obj 42 [(.val (.int .i64)), (.val .bool), (.val .bool), (.val (.int .i64)), (.val (.int .i64))]), (.arr 4 .bool), (.obj 27 [(.val (.int .i64)), (.val (.int .i64)), (.val (.int .i64)), (.val (.int .i64)), (.val (.int .i64)), (.val (.int .i64))])]⟩
abbrev ref17_Verify_c14_o : List Out := [⟨.normal, [1, 2, 4, 5, 6, 7, 8, 9, 48], ⟨[(.one (.val ty21)), (.one (.ptr 0 0)), (.one (.ptr 1 0)), (.one (.val (.int .i64))), (.one (.val (.int .i64))), (.one (.arr 2)), (.one (.val (.int .i64))), (.one (.ptr 3 0)), (.one (.val .bool))], [(.obj 34 [(.val .str), (.val ty5), (.val ty5), (.val (.int .i64)), (.val ty15), (.val ty17), (.val ty18)]), (.obj 42 [(.val (.int .i64)), (.val .bool), (.val .bool), (.val (.int .i64)), (.val (.int .i64))]), (.arr 4 .bool), (.obj 27 [(.val (.int .i64)), (.val (.int .i64)), (.val (.int .i64)), (.val (.int .i64)), (.val (.int .i64)), (.val (.int .i64))])]⟩⟩]
def ref17_Verify_c14 (n : Nat) : ref17_Verify_c14_h.T → Option (OutT ref17_Verify_c14_o)
  | ((x1, _, _, x2, x3, _, x4, _, _), ((x5, x6, x7, x8, x9, x10, x11, _), (x12, x13, x14, x15, x16, _), l17, (x18, x19, x20, x21, x22, x23, _), _)) =>
    if decide (x18 < 1) then
      some (.inl ((x1, (), (), x2, x3, (), x4, (), true, ()), ((x5, x6, x7, x8, x9, x10, x11, ()), (x12, x13, x14, x15, x16, ()), l17, (x18, x19, x20, x21, x22, x23, ()), ())))
    else
      some (.inl ((x1, (), (), x2, x3, (), x4, (), decide (x18 > 12), ()), ((x5, x6, x7, x8, x9, x10, x11, ()), (x12, x13, x14, x15, x16, ()), l17, (x18, x19, x20, x21, x22, x23, ()), ())))
abbrev ref17_Verify_c18_h : Sh := ⟨[(.one (.val ty21)), (.one (.ptr 0 0)), (.one (.ptr 1 0)), (.one (.val (.int .i64))), (.one (.val (.int .i64))), (.one (.arr 2)), (.one (.val (.int .i64))), (.one (.ptr 3 0))], [(.obj 34 [(.val .str), (.val ty5), (.val ty5), (.val (.int .i64)), (.val ty15), (.val ty17), (.val ty18)]), (.obj 42 [(.val (.int .i64)), (.val .bool), (.val .bool), (.val (.int .i64)), (.val (.int .i64))]), (.arr 4 .bool), (.obj 27 [(.val (.int .i64)), (.val (.int .i64)), (.val (.int .i64)), (.val (.int .i64)), (.val (.int .i64)), (.val (.int .i64))])]⟩
abbrev ref17_Verify_c18_o : List Out := [⟨.normal, [1, 2, 4, 5, 6, 7, 8, 9, 63], ⟨[(.one (.val ty21)), (.one (.ptr 0 0)), (.one (.ptr 1 0)), (.one (.val (.int .i64))), (.one (.val (.int .i64))), (.one (.arr 2)), (.one (.val (.int .i64))), (.one (.ptr 3 0)), (.one (.val .bool))], [(.obj 34 [(.val .str), (.val ty5), (.val ty5), (.val (.int .i64)), (.val ty15), (.val ty17), (.val ty18)]), (.obj 42 [(.val (.int .i64)), (.val .bool), (.val .bool), (.val (.int .i64)), (.val (.int .i64))]), (.arr 4 .bool), (.obj 27 [(.val (.int .i64)), (.val (.int .i64)), (.val (.int .i64)), (.val (.int .i64)), (.val (.int .i64)), (.val (.int .i64))])]⟩⟩]
def ref17_Verify_c18 (n : Nat) : ref17_Verify_c18_h.T → Option (OutT ref17_Verify_c18_o)
  | ((x1, _, _, x2, x3, _, x4, _, _), ((x5, x6, x7, x8, x9, x10, x11, _), (x12, x13, x14, x15, x16, _), l17, (x18, x19, x20, x21, x22, x23, _), _)) =>
    if x18 == 5 then
      if x21 != 4 then
        some (.inl ((x1, (), (), x2, x3, (), x4, (), x21 != 5, ()), ((x5, x6, x7, x8, x9, x10, x11, ()), (x12, x13, x14, x15, x16, ()), l17, (x18, x19, x20, x21, x22, x23, ()), ())))
      else
        some (.inl ((x1, (), (), x2, x3, (), x4, (), false, ()), ((x5, x6, x7, x8, x9, x10, x11, ()), (x12, x13, x14, x15, x16, ()), l17, (x18, x19, x20, x21, x22, x23, ()), ())))
    else
      some (.inl ((x1, (), (), x2, x3, (), x4, (), false, ()), ((x5, x6, x7, x8, x9, x10, x11, ()), (x12, x13, x14, x15, x16, ()), l17, (x18, x19, x20, x21, x22, x23, ()), ())))
abbrev ref17_Verify_c20_h : Sh := ⟨[(.one (.val ty21)), (.one (.ptr 0 0)), (.one (.ptr 1 0)), (.one (.val (.int .i64))), (.one (.val (.int .i64))), (.one (.arr 2)), (.one (.val (.int .i64))), (.one (.ptr 3 0))], [(.obj 34 [(.val .str), (.val ty5), (.val ty5), (.val (.int .i64)), (.val ty15), (.val ty17), (.val ty18)]), (.obj 42 [(.val (.int .i64)), (.val .bool), (.val .bool), (.val (.int .i64)), (.val (.int .i64))]), (.arr 4 .bool), (.obj 27 [(.val (.int .i64)), (.val (.int .i64)), (.val (.int .i64)), (.val (.int .i64)), (.val (.int .i64)), (.val (.int .i64))])]⟩
abbrev ref17_Verify_c20_o : List Out := [⟨.normal, [1, 2, 4, 5, 6, 7, 8, 9, 77], ⟨[(.one (.val ty21)), (.one (.ptr 0 0)), (.one (.ptr 1 0)), (.one (.val (.int .i64))), (.one (.val (.int .i64))), (.one (.arr 2)), (.one (.val (.int .i64))), (.one (.ptr 3 0)), (.one (.val .bool))], [(.obj 34 [(.val .str), (.val ty5), (.val ty5), (.val (.int .i64)), (.val ty15), (.val ty17), (.val ty18)]), (.obj 42 [(.val (.int .i64)), (.val .bool), (.val .bool), (.val (.int .i64)), (.val (.int .i64))]), (.arr 4 .bool), (.obj 27 [(.val (.int .i64)), (.val (.int .i64)), (.val (.int .i64)), (.val (.int .i64)), (.val (.int .i64)), (.val (.int .i64))])]⟩⟩]
def ref17_Verify_c20 (n : Nat) : ref17_Verify_c20_h.T → Option (OutT ref17_Verify_c20_o)
  | ((x1, _, _, x2, x3, _, x4, _, _), ((x5, x6, x7, x8, x9, x10, x11, _), (x12, x13, x14, x15, x16, _), l17, (x18, x19, x20, x21, x22, x23, _), _)) =>
    if x18 == 6 then
      if decide (x23 < 6) then
        some (.inl ((x1, (), (), x2, x3, (), x4, (), true, ()), ((x5, x6, x7, x8, x9, x10, x11, ()), (x12, x13, x14, x15, x16, ()), l17, (x18, x19, x20, x21, x22, x23, ()), ())))
      else
        some (.inl ((x1, (), (), x2, x3, (), x4, (), decide (x23 > 19), ()), ((x5, x6, x7, x8, x9, x10, x11, ()), (x12, x13, x14, x15, x16, ()), l17, (x18, x19, x20, x21, x22, x23, ()), ())))
    else
      some (.inl ((x1, (), (), x2, x3, (), x4, (), false, ()), ((x5, x6, x7, x8, x9, x10, x11, ()), (x12, x13, x14, x15, x16, ()), l17, (x18, x19, x20, x21, x22, x23, ()), ())))
abbrev ref17_Verify_c22_h : Sh := ⟨[(.one (.val ty21)), (.one (.ptr 0 0)), (.one (.ptr 1 0)), (.one (.val (.int .i64))), (.one (.val (.int .i64))), (.one (.arr 2)), (.one (.val (.int .i64))), (.one (.ptr 3 0))], [(.obj 34 [(.val .str), (.val ty5), (.val ty5), (.val (.int .i64)), (.val ty15), (.val ty17), (.val ty18)]), (.obj 42 [(.val (.int .i64)), (.val .bool), (.val .bool), (.val (.int .i64)), (.val (.int .i64))]), (.arr 4 .bool), (.obj 27 [(.val (.int .i64)), (.val (.int .i64)), (.val (.int .i64)), (.val (.int .i64)), (.val (.int .i64)), (.val (.int .i64))])]⟩
abbrev ref17_Verify_c22_o : List Out := [⟨.normal, [1, 2, 4, 5, 6, 7, 8, 9, 91], ⟨[(.one (.val ty21)), (.one (.ptr 0 0)), (.one (.ptr 1 0)), (.one (.val (.int .i64))), (.one (.val (.int .i64))), (.one (.arr 2)), (.one (.val (.int .i64))), (.one (.ptr 3 0)), (.one (.val .bool))], [(.obj 34 [(.val .str), (.val ty5), (.val ty5), (.val (.int .i64)), (.val ty15), (.val ty17), (.val ty18)]), (.obj 42 [(.val (.int .i64)), (.val .bool), (.val .bool), (.val (.int .i64)), (.val (.int .i64))]), (.arr 4 .bool), (.obj 27 [(.val (.int .i64)), (.val (.int .i64)), (.val (.int .i64)), (.val (.int .i64)), (.val (.int .i64)), (.val (.int .i64))])]⟩⟩]
def ref17_Verify_c22 (n : Nat) : ref17_Verify_c22_h.T → Option (OutT ref17_Verify_c22_o)
  | ((x1, _, _, x2, x3, _, x4, _, _), ((x5, x6, x7, x8, x9, x10, x11, _), (x12, x13, x14, x15, x16, _), l17, (x18, x19, x20, x21, x22, x23, _), _)) =>
    if x18 == 11 then
      if 0 ≤ x19 ∧ x19 < (l17.length : Int) then (
        let v24 : Bool := rdT (.bool : Ty) l17 x19
        some (.inl ((x1, (), (), x2, x3, (), x4, (), v24, ()), ((x5, x6, x7, x8, x9, x10, x11, ()), (x12, x13, x14, x15, x16, ()), l17, (x18, x19, x20, x21, x22, x23, ()), ())))) else none
    else
      some (.inl ((x1, (), (), x2, x3, (), x4, (), false, ()), ((x5, x6, x7, x8, x9, x10, x11, ()), (x12, x13, x14, x15, x16, ()), l17, (x18, x19, x20, x21, x22, x23, ()), ())))
abbrev ref17_Verify_c25_h : Sh := ⟨[(.one (.val ty21)), (.one (.ptr 0 0)), (.one (.ptr 1 0)), (.one (.val (.int .i64))), (.one (.val (.int .i64))), (.one (.arr 2)), (.one (.val (.int .i64))), (.one (.ptr 3 0))], [(.obj 34 [(.val .str), (.val ty5), (.val ty5), (.val (.int .i64)), (.val ty15), (.val ty17), (.val ty18)]), (.obj 42 [(.val (.int .i64)), (.val .bool), (.val .bool), (.val (.int .i64)), (.val (.int .i64))]), (.arr 4 .bool), (.obj 27 [(.val (.int .i64)), (.val (.int .i64)), (.val (.int .i64)), (.val (.int .i64)), (.val (.int .i64)), (.val (.int .i64))])]⟩
abbrev ref17_Verify_c25_o : List Out := [⟨.normal, [1, 2, 4, 5, 6, 7, 8, 9], ⟨[(.one (.val ty21)), (.one (.ptr 0 0)), (.one (.ptr 1 0)), (.one (.val (.int .i64))), (.one (.val (.int .i64))), (.one (.arr 2)), (.one (.val (.int .i64))), (.one (.ptr 3 0))], [(.obj 34 [(.val .str), (.val ty5), (.val ty5), (.val (.int .i64)), (.val ty15), (.val ty17), (.val ty18)]), (.obj 42 [(.val (.int .i64)), (.val .bool), (.val .bool), (.val (.int .i64)), (.val (.int .i64))]), (.arr 4 .bool), (.obj 27 [(.val (.int .i64)), (.val (.int .i64)), (.val (.int .i64)), (.val (.int .i64)), (.val (.int .i64)), (.val (.int .i64))])]⟩⟩]
def ref17_Verify_c25 (n : Nat) : ref17_Verify_c25_h.T → Option (OutT ref17_Verify_c25_o)
  | ((x1, _, _, x2, x3, _, x4, _, _), ((x5, x6, x7, x8, x9, x10, x11, _), (x12, x13, x14, x15, x16, _), l17, (x18, x19, x20, x21, x22, x23, _), _)) =>
    match ref17_Verify_c14 n ((x1, (), (), x2, x3, (), x4, (), ()), ((x5, x6, x7, x8, x9, x10, x11, ()), (x12, x13, x14, x15, x16, ()), l17, (x18, x19, x20, x21, x22, x23, ()), ())) with
    | some (.inl ((x24, _, _, x25, x26, _, x27, _, x28, _), ((x29, x30, x31, x32, x33, x34, x35, _), (x36, x37, x38, x39, x40, _), l41, (x42, x43, x44, x45, x46, x47, _), _))) => (
      if x28 then
        some (.inl ((x24, (), (), 102, x26, (), x27, (), ()), ((x29, x30, x31, x32, x33, x34, x35, ()), (x36, x37, x38, x39, x40, ()), l41, (x42, x43, x44, x45, x46, x47, ()), ())))
      else
        match ref17_names n (((x29, x30, x31, x32, x33, x34, x35, ()), (x42, x43, x44, x45, x46, x47, ()), x24, ()), ()) with
        | some ((x48, _), _) => (
          if !x48 then
            some (.inl ((x24, (), (), 104, x26, (), x27, (), ()), ((x29, x30, x31, x32, x33, x34, x35, ()), (x36, x37, x38, x39, x40, ()), l41, (x42, x43, x44, x45, x46, x47, ()), ())))
          else
            match ref17_Verify_c18 n ((x24, (), (), x25, x26, (), x27, (), ()), ((x29, x30, x31, x32, x33, x34, x35, ()), (x36, x37, x38, x39, x40, ()), l41, (x42, x43, x44, x45, x46, x47, ()), ())) with
            | some (.inl ((x49, _, _, x50, x51, _, x52, _, x53, _), ((x54, x55, x56, x57, x58, x59, x60, _), (x61, x62, x63, x64, x65, _), l66, (x67, x68, x69, x70, x71, x72, _), _))) => (
              if x53 then
                some (.inl ((x49, (), (), 102, x51, (), x52, (), ()), ((x54, x55, x56, x57, x58, x59, x60, ()), (x61, x62, x63, x64, x65, ()), l66, (x67, x68, x69, x70, x71, x72, ()), ())))
              else
                match ref17_Verify_c20 n ((x49, (), (), x50, x51, (), x52, (), ()), ((x54, x55, x56, x57, x58, x59, x60, ()), (x61, x62, x63, x64, x65, ()), l66, (x67, x68, x69, x70, x71, x72, ()), ())) with
                | some (.inl ((x73, _, _, x74, x75, _, x76, _, x77, _), ((x78, x79, x80, x81, x82, x83, x84, _), (x85, x86, x87, x88, x89, _), l90, (x91, x92, x93, x94, x95, x96, _), _))) => (
                  if x77 then
                    some (.inl ((x73, (), (), 102, x75, (), x76, (), ()), ((x78, x79, x80, x81, x82, x83, x84, ()), (x85, x86, x87, x88, x89, ()), l90, (x91, x92, x93, x94, x95, x96, ()), ())))
                  else
                    match ref17_Verify_c22 n ((x73, (), (), x74, x75, (), x76, (), ()), ((x78, x79, x80, x81, x82, x83, x84, ()), (x85, x86, x87, x88, x89, ()), l90, (x91, x92, x93, x94, x95, x96, ()), ())) with
                    | some (.inl ((x97, _, _, x98, x99, _, x100, _, x101, _), ((x102, x103, x104, x105, x106, x107, x108, _), (x109, x110, x111, x112, x113, _), l114, (x115, x116, x117, x118, x119, x120, _), _))) => (
                      if x101 then
                        some (.inl ((x97, (), (), 103, x99, (), x100, (), ()), ((x102, x103, x104, x105, x106, x107, x108, ()), (x109, x110, x111, x112, x113, ()), l114, (x115, x116, x117, x118, x119, x120, ()), ())))
                      else
                        if x115 == 8 then
                          if decide (x120 ≤ x100) then
                            some (.inl ((x97, (), (), 104, x99, (), x100, (), ()), ((x102, x103, x104, x105, x106, x107, x108, ()), (x109, x110, x111, x112, x113, ()), l114, (x115, x116, x117, x118, x119, x120, ()), ())))
                          else
                            if decide (x120 ≥ x99) then
                              some (.inl ((x97, (), (), 104, x99, (), x100, (), ()), ((x102, x103, x104, x105, x106, x107, x108, ()), (x109, x110, x111, x112, x113, ()), l114, (x115, x116, x117, x118, x119, x120, ()), ())))
                            else
                              some (.inl ((x97, (), (), x98, x99, (), x100, (), ()), ((x102, x103, x104, x105, x106, x107, x108, ()), (x109, x110, x111, x112, x113, ()), l114, (x115, x116, x117, x118, x119, x120, ()), ())))
                        else
                          if x115 == 9 then
                            if decide (x120 ≤ x100) then
                              some (.inl ((x97, (), (), 104, x99, (), x100, (), ()), ((x102, x103, x104, x105, x106, x107, x108, ()), (x109, x110, x111, x112, x113, ()), l114, (x115, x116, x117, x118, x119, x120, ()), ())))
                            else
                              if decide (x120 ≥ x99) then
                                some (.inl ((x97, (), (), 104, x99, (), x100, (), ()), ((x102, x103, x104, x105, x106, x107, x108, ()), (x109, x110, x111, x112, x113, ()), l114, (x115, x116, x117, x118, x119, x120, ()), ())))
                              else
                                some (.inl ((x97, (), (), x98, x99, (), x100, (), ()), ((x102, x103, x104, x105, x106, x107, x108, ()), (x109, x110, x111, x112, x113, ()), l114, (x115, x116, x117, x118, x119, x120, ()), ())))
                          else
                            some (.inl ((x97, (), (), x98, x99, (), x100, (), ()), ((x102, x103, x104, x105, x106, x107, x108, ()), (x109, x110, x111, x112, x113, ()), l114, (x115, x116, x117, x118, x119, x120, ()), ()))))
                    | some (.inr (_)) => none
                    | none => none)
                | some (.inr (_)) => none
                | none => none)
            | some (.inr (_)) => none
            | none => none)
        | none => none)
    | some (.inr (_)) => none
    | none => none
abbrev ref17_Verify_l9_h : Sh := ⟨[(.one (.val ty21)), (.one (.ptr 0 0)), (.one (.ptr 1 0)), (.one (.val (.int .i64))), (.one (.arr 2)), (.one (.val (.int .i64)))], [(.obj 34 [(.val .str), (.val ty5), (.val ty5), (.val (.int .i64)), (.val ty15), (.val ty17), (.val ty18)]), (.obj 42 [(.val (.int .i64)), (.val .bool), (.val .bool), (.val (.int .i64)), (.val (.int .i64))]), (.arr 4 .bool)]⟩
abbrev ref17_Verify_l9_o : List Out := [⟨(.exit 0), [4], ⟨[(.one (.ptr 0 0))], [(.obj 42 [(.val (.int .i64)), (.val .bool), (.val .bool), (.val (.int .i64)), (.val (.int .i64))])]⟩⟩, ⟨.ret, [4], ⟨[(.one (.ptr 0 0))], [(.obj 42 [(.val (.int .i64)), (.val .bool), (.val .bool), (.val (.int .i64)), (.val (.int .i64))])]⟩⟩]
def ref17_Verify_l9 (n : Nat) : Nat → ref17_Verify_l9_h.T → Option (OutT ref17_Verify_l9_o)
  | 0, _ => none
  | k + 1, ((x1, _, _, x2, _, x3, _), ((x4, x5, x6, x7, x8, x9, x10, _), (x11, x12, x13, x14, x15, _), l16, _)) =>
    if decide (x3 < x2) then
      if 0 ≤ x3 ∧ x3 < (x10.length : Int) then (
        match ref17_Verify_c25 n ((x1, (), (), 0, x2, (), x3, (), ()), ((x4, x5, x6, x7, x8, x9, x10, ()), (x11, x12, x13, x14, x15, ()), l16, ((rdT ty6 x10 x3).1, ((rdT ty6 x10 x3).2).1, (((rdT ty6 x10 x3).2).2).1, ((((rdT ty6 x10 x3).2).2).2).1, (((((rdT ty6 x10 x3).2).2).2).2).1, (((((rdT ty6 x10 x3).2).2).2).2).2, ()), ())) with
        | some (.inl ((x17, _, _, x18, x19, _, x20, _, _), ((x21, x22, x23, x24, x25, x26, x27, _), (x28, x29, x30, x31, x32, _), l33, (x34, x35, x36, x37, x38, x39, _), _))) => (
          if x18 != 0 then
            match ref_Placed n ((x18, x20, ()), ()) with
            | some (((x40, x41, x42, x43, x44, _), _), _) => (
              some (.inr (.inl (((), ()), ((x40, x41, x42, x43, x44, ()), ())))))
            | none => none
          else
            if x34 == 11 then
              if 0 ≤ x35 ∧ x35 < (l33.length : Int) then (
                let v45 : Int := IntKind.i64.wrap (x20 + 1)
                ref17_Verify_l9 n k ((x17, (), (), x19, (), v45, ()), ((x21, x22, x23, x24, x25, x26, x27, ()), (x28, x29, x30, x31, x32, ()), List.set l33 (x35 : Int).toNat true, ()))) else none
            else
              let v46 : Int := IntKind.i64.wrap (x20 + 1)
              ref17_Verify_l9 n k ((x17, (), (), x19, (), v46, ()), ((x21, x22, x23, x24, x25, x26, x27, ()), (x28, x29, x30, x31, x32, ()), l33, ())))
        | some (.inr (_)) => none
        | none => none) else none
    else
      some (.inl (((), ()), ((x11, x12, x13, x14, x15, ()), ())))
def ref17_Verify : Nat → ref17_Verify_ins.T → Option (OutsT ref17_Verify_outs)
  | 0, _ => none
  | n + 1, (((x1, x2, x3, x4, x5, x6, x7, _), x8, _), _) =>
    match ref17_whole n (((x1, x2, x3, x4, x5, x6, x7, ()), x8, ()), ()) with
    | some ((x9, _), _) => (
      if x9 != 0 then
        match ref_Placed n ((x9, (-1), ()), ()) with
        | some (((x10, x11, x12, x13, x14, _), _), _) => (
          some (((x10, x11, x12, x13, x14, ()), ()), ()))
        | none => none
      else
        if (x7.length : Int) == 0 then
          match ref_Placed n ((101, (x7.length : Int), ()), ()) with
          | some (((x16, x17, x18, x19, x20, _), _), _) => (
            some (((x16, x17, x18, x19, x20, ()), ()), ()))
          | none => none
        else
          let v15 : Int := IntKind.i64.wrap ((x7.length : Int) - 1)
          if 0 ≤ v15 ∧ v15 < (x7.length : Int) then (
            if (rdT ty6 x7 v15).1 != 12 then
              match ref_Placed n ((101, (x7.length : Int), ()), ()) with
              | some (((x21, x22, x23, x24, x25, _), _), _) => (
                some (((x21, x22, x23, x24, x25, ()), ()), ()))
              | none => none
            else
              if 0 ≤ (x6.2.length : Int) ∧ (x6.2.length : Int) ≤ (x6.2.length : Int) ∧ (x6.2.length : Int) * ((1 : Nat) : Int) ≤ 140737488355328 ∧ (x6.2.length : Int) ≤ 140737488355328 then (
                match ref17_Verify_l9 n n ((x8, (), (), (x7.length : Int), (), 0, ()), ((x1, x2, x3, x4, x5, x6, x7, ()), (0, false, false, 0, 0, ()), List.replicate ((x6.2.length : Int) : Int).toNat false, ())) with
                | some (.inl ((_, _), ((x26, x27, x28, x29, x30, _), _))) => (
                  match ref_None n ((), ()) with
                  | some (((x36, x37, x38, x39, x40, _), _), _) => (
                    some (((x36, x37, x38, x39, x40, ()), ()), ()))
                  | none => none)
                | some (.inr (.inl ((_, _), ((x31, x32, x33, x34, x35, _), _)))) => (
                  some (((x31, x32, x33, x34, x35, ()), ()), ()))
                | some (.inr (.inr (_))) => none
                | none => none) else none) else none)
    | none => none
def ref17_Verify_H (n : Nat) : Hints := ⟨[], fun _ => [], fun k => match k with | 9 => some ⟨[1, 2, 4, 6, 7, 8], ref17_Verify_l9_h, ref17_Verify_l9_o, ref17_Verify_l9 n⟩ | _ => none, fun k => match k with | 14 => some ⟨[1, 2, 4, 5, 6, 7, 8, 9], ref17_Verify_c14_h, ref17_Verify_c14_o, fun n => ref17_Verify_c14 n⟩ | 18 => some ⟨[1, 2, 4, 5, 6, 7, 8, 9], ref17_Verify_c18_h, ref17_Verify_c18_o, fun n => ref17_Verify_c18 n⟩ | 20 => some ⟨[1, 2, 4, 5, 6, 7, 8, 9], ref17_Verify_c20_h, ref17_Verify_c20_o, fun n => ref17_Verify_c20 n⟩ | 22 => some ⟨[1, 2, 4, 5, 6, 7, 8, 9], ref17_Verify_c22_h, ref17_Verify_c22_o, fun n => ref17_Verify_c22 n⟩ | 25 => some ⟨[1, 2, 4, 5, 6, 7, 8, 9], ref17_Verify_c25_h, ref17_Verify_c25_o, fun n => ref17_Verify_c25 n⟩ | _ => none, fun _ => none⟩
def ref17_Verify_O (n : Nat) : FuncId → List FSpec := asc [(10, ⟨ref_Placed_ins, ref_Placed_outs, ref_Placed n⟩), (19, ⟨ref_None_ins, ref_None_outs, ref_None n⟩), (44, ⟨ref17_whole_ins, ref17_whole_outs, ref17_whole n⟩), (45, ⟨ref17_names_ins, ref17_names_outs, ref17_names n⟩)]
def b24 : Code := bodyOf Tryd.f24
theorem ref17_Verify_l9_k0 (n : Nat) : LoopOk P CC (ref17_Verify_O n) n 0 136 (ref17_Verify_H n) ⟨[1, 2, 4, 6, 7, 8], ref17_Verify_l9_h, ref17_Verify_l9_o, ref17_Verify_l9 n⟩ ((loopsOf b24).getD 0 .skip) := by
  refine ⟨fun _ => by kernel_rfl, ?_⟩
  rintro k ⟨⟨x1, ⟨⟩, ⟨⟩, x2, ⟨⟩, x3, ⟨⟩⟩, ⟨⟨x4, x5, x6, x7, x8, x9, x10, ⟨⟩⟩, ⟨x11, x12, x13, x14, x15, ⟨⟩⟩, x16, ⟨⟩⟩⟩
  kernel_rfl
theorem ref17_Verify_c25_k17 (n : Nat) : CutOk P CC (ref17_Verify_O n) n 0 136 (ref17_Verify_H n) ⟨[1, 2, 4, 5, 6, 7, 8, 9], ref17_Verify_c25_h, ref17_Verify_c25_o, fun n => ref17_Verify_c25 n⟩ ((cutsOf b24).getD 17 (0, .skip)).2 := by
  rintro ⟨⟨x1, ⟨⟩, ⟨⟩, x2, x3, ⟨⟩, x4, ⟨⟩, ⟨⟩⟩, ⟨⟨x5, x6, x7, x8, x9, x10, x11, ⟨⟩⟩, ⟨x12, x13, x14, x15, x16, ⟨⟩⟩, x17, ⟨x18, x19, x20, x21, x22, x23, ⟨⟩⟩, ⟨⟩⟩⟩
  kernel_rfl
theorem ref17_Verify_c14_k18 (n : Nat) : CutOk P CC (ref17_Verify_O n) n 0 136 (ref17_Verify_H n) ⟨[1, 2, 4, 5, 6, 7, 8, 9], ref17_Verify_c14_h, ref17_Verify_c14_o, fun n => ref17_Verify_c14 n⟩ ((cutsOf b24).getD 18 (0, .skip)).2 := by
  rintro ⟨⟨x1, ⟨⟩, ⟨⟩, x2, x3, ⟨⟩, x4, ⟨⟩, ⟨⟩⟩, ⟨⟨x5, x6, x7, x8, x9, x10, x11, ⟨⟩⟩, ⟨x12, x13, x14, x15, x16, ⟨⟩⟩, x17, ⟨x18, x19, x20, x21, x22, x23, ⟨⟩⟩, ⟨⟩⟩⟩
  kernel_rfl
theorem ref17_Verify_c18_k20 (n : Nat) : CutOk P CC (ref17_Verify_O n) n 0 136 (ref17_Verify_H n) ⟨[1, 2, 4, 5, 6, 7, 8, 9], ref17_Verify_c18_h, ref17_Verify_c18_o, fun n => ref17_Verify_c18 n⟩ ((cutsOf b24).getD 20 (0, .skip)).2 := by
  rintro ⟨⟨x1, ⟨⟩, ⟨⟩, x2, x3, ⟨⟩, x4, ⟨⟩, ⟨⟩⟩, ⟨⟨x5, x6, x7, x8, x9, x10, x11, ⟨⟩⟩, ⟨x12, x13, x14, x15, x16, ⟨⟩⟩, x17, ⟨x18, x19, x20, x21, x22, x23, ⟨⟩⟩, ⟨⟩⟩⟩
  kernel_rfl
theorem ref17_Verify_c20_k21 (n : Nat) : CutOk P CC (ref17_Verify_O n) n 0 136 (ref17_Verify_H n) ⟨[1, 2, 4, 5, 6, 7, 8, 9], ref17_Verify_c20_h, ref17_Verify_c20_o, fun n => ref17_Verify_c20 n⟩ ((cutsOf b24).getD 21 (0, .skip)).2 := by
  rintro ⟨⟨x1, ⟨⟩, ⟨⟩, x2, x3, ⟨⟩, x4, ⟨⟩, ⟨⟩⟩, ⟨⟨x5, x6, x7, x8, x9, x10, x11, ⟨⟩⟩, ⟨x12, x13, x14, x15, x16, ⟨⟩⟩, x17, ⟨x18, x19, x20, x21, x22, x23, ⟨⟩⟩, ⟨⟩⟩⟩
  kernel_rfl
theorem ref17_Verify_c22_k22 (n : Nat) : CutOk P CC (ref17_Verify_O n) n 0 136 (ref17_Verify_H n) ⟨[1, 2, 4, 5, 6, 7, 8, 9], ref17_Verify_c22_h, ref17_Verify_c22_o, fun n => ref17_Verify_c22 n⟩ ((cutsOf b24).getD 22 (0, .skip)).2 := by
  rintro ⟨⟨x1, ⟨⟩, ⟨⟩, x2, x3, ⟨⟩, x4, ⟨⟩, ⟨⟩⟩, ⟨⟨x5, x6, x7, x8, x9, x10, x11, ⟨⟩⟩, ⟨x12, x13, x14, x15, x16, ⟨⟩⟩, x17, ⟨x18, x19, x20, x21, x22, x23, ⟨⟩⟩, ⟨⟩⟩⟩
  kernel_rfl
theorem ref17_Verify_ok {S : Nat → Addr} (ok : CfgOk P CC S) : ∀ n, SpecOk P CC S 24 ⟨ref17_Verify_ins, ref17_Verify_outs, ref17_Verify n⟩ :=
  fn_all ok (O := ref17_Verify_O) (H := ref17_Verify_H) (fn := Tryd.f24) (body := b24) (by kernel_rfl) (by kernel_rfl) (by kernel_rfl) (by decide) (by kernel_rfl)
    (fun x => by kernel_rfl) (fun n => by
      rintro ⟨⟨⟨x1, x2, x3, x4, x5, x6, x7, ⟨⟩⟩, x8, ⟨⟩⟩, ⟨⟩⟩
      kernel_rfl)
    (fun n => obl_of (by kernel_rfl) (by kernel_rfl) (ls (lz) (by kernel_rfl) (ref17_Verify_l9_k0 n)) (cn (cn (cn (cn (cn (cn (cs (cs (cs (cn (cs (cs (cn (cn (cn (cn (cn (cn (cn (cn (cn (cn (cn (cn (cn (cn (cn (cn (cn (cz) (by kernel_rfl)) (by kernel_rfl)) (by kernel_rfl)) (by kernel_rfl)) (by kernel_rfl)) (by kernel_rfl)) (by kernel_rfl)) (by kernel_rfl)) (by kernel_rfl)) (by kernel_rfl)) (by kernel_rfl)) (by kernel_rfl)) (by kernel_rfl)) (by kernel_rfl)) (by kernel_rfl)) (by kernel_rfl)) (by kernel_rfl)) (by kernel_rfl) (ref17_Verify_c25_k17 n)) (by kernel_rfl) (ref17_Verify_c14_k18 n)) (by kernel_rfl)) (by kernel_rfl) (ref17_Verify_c18_k20 n)) (by kernel_rfl) (ref17_Verify_c20_k21 n)) (by kernel_rfl) (ref17_Verify_c22_k22 n)) (by kernel_rfl)) (by kernel_rfl)) (by kernel_rfl)) (by kernel_rfl)) (by kernel_rfl)) (by kernel_rfl)) (hn fun _ => rfl))
    (fun n ih => asc_cons (ref_Placed_ok ok n) <| asc_cons (ref_None_ok ok n) <| asc_cons (ref17_whole_ok ok n) <| asc_cons (ref17_names_ok ok n) <| asc_nil)
/-! ### pendulum/pendulumref17.All -/
abbrev ref17_All_ins : Sh := ⟨[(.one (.val .str)), (.one (.val ty22))], []⟩
abbrev ref17_All_outs : List Sh := [⟨[(.agg [(.val (.int .i64)), (.val .bool), (.val .bool), (.val (.int .i64)), (.val (.int .i64))])], []⟩]
abbrev ref17_All_l6_h : Sh := ⟨[(.one (.val .str)), (.one (.val ty22)), (.one (.ptr 0 0)), (.one (.arr 1)), (.one (.val (.int .i64)))], [(.obj 42 [(.val (.int .i64)), (.val .bool), (.val .bool), (.val (.int .i64)), (.val (.int .i64))]), (.arr 56 ty3)]⟩
abbrev ref17_All_l6_o : List Out := [⟨(.exit 0), [0, 1, 4, 7], ⟨[(.one (.val .str)), (.one (.val ty22)), (.one (.ptr 0 0)), (.one (.arr 1))], [(.obj 42 [(.val (.int .i64)), (.val .bool), (.val .bool), (.val (.int .i64)), (.val (.int .i64))]), (.arr 56 ty3)]⟩⟩]
def ref17_All_l6 (n : Nat) : Nat → ref17_All_l6_h.T → Option (OutT ref17_All_l6_o)
  | 0, _ => none
  | k + 1, ((x1, x2, _, _, x3, _), ((x4, x5, x6, x7, x8, _), l9, _)) =>
    if decide (x3 < (x2.length : Int)) then
      if 0 ≤ x3 ∧ x3 < (x2.length : Int) then (
        match ref17_Face n ((((rdT ty10 x2 x3).1, ((rdT ty10 x2 x3).2).1, (((rdT ty10 x2 x3).2).2).1, ((((rdT ty10 x2 x3).2).2).2).1, (((((rdT ty10 x2 x3).2).2).2).2).1, ((((((rdT ty10 x2 x3).2).2).2).2).2).1, ((((((rdT ty10 x2 x3).2).2).2).2).2).2, ()), ()), ()) with
        | some (((x10, _, _, _), _), (l11, l12, _)) => (
          if (l9.length + ([(x10, (l11, l12))] : List ty3.T).length) * 64 ≤ 140737488355328 then (
            let v13 : Int := IntKind.i64.wrap (x3 + 1)
            ref17_All_l6 n k ((x1, x2, (), (), v13, ()), ((x4, x5, x6, x7, x8, ()), l9 ++ [(x10, (l11, l12))], ()))) else none)
        | none => none) else none
    else
      some (.inl ((x1, x2, (), (), ()), ((x4, x5, x6, x7, x8, ()), l9, ())))
abbrev ref17_All_l11_h : Sh := ⟨[(.one (.val ty22)), (.one (.ptr 0 0)), (.one (.val ty21)), (.one (.arr 1)), (.one (.val (.int .i64)))], [(.obj 42 [(.val (.int .i64)), (.val .bool), (.val .bool), (.val (.int .i64)), (.val (.int .i64))]), (.arr 9 .str)]⟩
abbrev ref17_All_l11_o : List Out := [⟨(.exit 2), [4], ⟨[(.one (.ptr 0 0))], [(.obj 42 [(.val (.int .i64)), (.val .bool), (.val .bool), (.val (.int .i64)), (.val (.int .i64))])]⟩⟩, ⟨.ret, [4], ⟨[(.one (.ptr 0 0))], [(.obj 42 [(.val (.int .i64)), (.val .bool), (.val .bool), (.val (.int .i64)), (.val (.int .i64))])]⟩⟩]
def ref17_All_l11 (n : Nat) : Nat → ref17_All_l11_h.T → Option (OutT ref17_All_l11_o)
  | 0, _ => none
  | k + 1, ((x1, _, x2, _, x3, _), ((x4, x5, x6, x7, x8, _), l9, _)) =>
    if decide (x3 < (l9.length : Int)) then
      if 0 ≤ x3 ∧ x3 < (l9.length : Int) then (
        match ref17_object n ((x1, rdT (.str : Ty) l9 x3, ()), ()) with
        | some ((x10, _), _) => (
          if 0 ≤ x10 ∧ x10 < (x1.length : Int) then (
            match ref17_Verify n ((((rdT ty10 x1 x10).1, ((rdT ty10 x1 x10).2).1, (((rdT ty10 x1 x10).2).2).1, ((((rdT ty10 x1 x10).2).2).2).1, (((((rdT ty10 x1 x10).2).2).2).2).1, ((((((rdT ty10 x1 x10).2).2).2).2).2).1, ((((((rdT ty10 x1 x10).2).2).2).2).2).2, ()), x2, ()), ()) with
            | some (((x11, x12, x13, x14, x15, _), _), _) => (
              if x11 != 0 then
                some (.inr (.inl (((), ()), ((x11, x12, x13, x14, x15, ()), ()))))
              else
                let v16 : Int := IntKind.i64.wrap (x3 + 1)
                ref17_All_l11 n k ((x1, (), x2, (), v16, ()), ((x4, x5, x6, x7, x8, ()), l9, ())))
            | none => none) else none)
        | none => none) else none
    else
      some (.inl (((), ()), ((x4, x5, x6, x7, x8, ()), ())))
def ref17_All : Nat → ref17_All_ins.T → Option (OutsT ref17_All_outs)
  | 0, _ => none
  | n + 1, ((x1, x2, _), _) =>
    match ref17_made n ((x1, x2, ()), ()) with
    | some (.inl ((((_, _), (x3, _), _), _), ((x4, _, _, _, x5, _), l6, l7, l8, _))) => (
      if x3 != 0 then
        match ref_Bare n ((x3, ()), ()) with
        | some (((x10, x11, x12, x13, x14, _), _), _) => (
          some (((x10, x11, x12, x13, x14, ()), ()), ()))
        | none => none
      else
        match ref17_All_l6 n n ((x1, x2, (), (), 0, ()), ((0, false, false, 0, 0, ()), [], ())) with
        | some (.inl ((x15, x16, _, _, _), ((x17, x18, x19, x20, x21, _), l22, _))) => (
          match ref17_used n ((x15, x16, ()), ()) with
          | some ((((_, _), (x23, _), _), _), (l24, _)) => (
            match ref17_All_l11 n n ((x16, (), l22, (), 0, ()), ((x17, x18, x19, x20, x21, ()), l24, ())) with
            | some (.inl ((_, _), ((x25, x26, x27, x28, x29, _), _))) => (
              match ref_None n ((), ()) with
              | some (((x35, x36, x37, x38, x39, _), _), _) => (
                some (((x35, x36, x37, x38, x39, ()), ()), ()))
              | none => none)
            | some (.inr (.inl ((_, _), ((x30, x31, x32, x33, x34, _), _)))) => (
              some (((x30, x31, x32, x33, x34, ()), ()), ()))
            | some (.inr (.inr (_))) => none
            | none => none)
          | none => none)
        | some (.inr (_)) => none
        | none => none)
    | some (.inr (((((_, _), (x9, _), _), _), _))) => (
      if x9 != 0 then
        match ref_Bare n ((x9, ()), ()) with
        | some (((x40, x41, x42, x43, x44, _), _), _) => (
          some (((x40, x41, x42, x43, x44, ()), ()), ()))
        | none => none
      else
        match ref17_All_l6 n n ((x1, x2, (), (), 0, ()), ((0, false, false, 0, 0, ()), [], ())) with
        | some (.inl ((x45, x46, _, _, _), ((x47, x48, x49, x50, x51, _), l52, _))) => (
          match ref17_used n ((x45, x46, ()), ()) with
          | some ((((_, _), (x53, _), _), _), (l54, _)) => (
            match ref17_All_l11 n n ((x46, (), l52, (), 0, ()), ((x47, x48, x49, x50, x51, ()), l54, ())) with
            | some (.inl ((_, _), ((x55, x56, x57, x58, x59, _), _))) => (
              match ref_None n ((), ()) with
              | some (((x65, x66, x67, x68, x69, _), _), _) => (
                some (((x65, x66, x67, x68, x69, ()), ()), ()))
              | none => none)
            | some (.inr (.inl ((_, _), ((x60, x61, x62, x63, x64, _), _)))) => (
              some (((x60, x61, x62, x63, x64, ()), ()), ()))
            | some (.inr (.inr (_))) => none
            | none => none)
          | none => none)
        | some (.inr (_)) => none
        | none => none)
    | none => none
def ref17_All_H (n : Nat) : Hints := ⟨[], fun _ => [], fun k => match k with | 6 => some ⟨[0, 1, 4, 7, 8], ref17_All_l6_h, ref17_All_l6_o, ref17_All_l6 n⟩ | 11 => some ⟨[1, 4, 7, 9, 11], ref17_All_l11_h, ref17_All_l11_o, ref17_All_l11 n⟩ | _ => none, fun _ => none, fun _ => none⟩
def ref17_All_O (n : Nat) : FuncId → List FSpec := asc [(19, ⟨ref_None_ins, ref_None_outs, ref_None n⟩), (20, ⟨ref17_made_ins, ref17_made_outs, ref17_made n⟩), (21, ⟨ref_Bare_ins, ref_Bare_outs, ref_Bare n⟩), (22, ⟨ref17_Face_ins, ref17_Face_outs, ref17_Face n⟩), (23, ⟨ref17_used_ins, ref17_used_outs, ref17_used n⟩), (24, ⟨ref17_Verify_ins, ref17_Verify_outs, ref17_Verify n⟩), (25, ⟨ref17_object_ins, ref17_object_outs, ref17_object n⟩)]
def b11 : Code := bodyOf Tryd.f11
theorem ref17_All_l6_k0 (n : Nat) : LoopOk P CC (ref17_All_O n) n 0 65 (ref17_All_H n) ⟨[0, 1, 4, 7, 8], ref17_All_l6_h, ref17_All_l6_o, ref17_All_l6 n⟩ ((loopsOf b11).getD 0 .skip) := by
  refine ⟨fun _ => by kernel_rfl, ?_⟩
  rintro k ⟨⟨x1, x2, ⟨⟩, ⟨⟩, x3, ⟨⟩⟩, ⟨⟨x4, x5, x6, x7, x8, ⟨⟩⟩, x9, ⟨⟩⟩⟩
  kernel_rfl
theorem ref17_All_l11_k1 (n : Nat) : LoopOk P CC (ref17_All_O n) n 0 65 (ref17_All_H n) ⟨[1, 4, 7, 9, 11], ref17_All_l11_h, ref17_All_l11_o, ref17_All_l11 n⟩ ((loopsOf b11).getD 1 .skip) := by
  refine ⟨fun _ => by kernel_rfl, ?_⟩
  rintro k ⟨⟨x1, ⟨⟩, x2, ⟨⟩, x3, ⟨⟩⟩, ⟨⟨x4, x5, x6, x7, x8, ⟨⟩⟩, x9, ⟨⟩⟩⟩
  kernel_rfl
theorem ref17_All_ok {S : Nat → Addr} (ok : CfgOk P CC S) : ∀ n, SpecOk P CC S 11 ⟨ref17_All_ins, ref17_All_outs, ref17_All n⟩ :=
  fn_all ok (O := ref17_All_O) (H := ref17_All_H) (fn := Tryd.f11) (body := b11) (by kernel_rfl) (by kernel_rfl) (by kernel_rfl) (by decide) (by kernel_rfl)
    (fun x => by kernel_rfl) (fun n => by
      rintro ⟨⟨x1, x2, ⟨⟩⟩, ⟨⟩⟩
      kernel_rfl)
    (fun n => obl_of (by kernel_rfl) (by kernel_rfl) (ls (ls (lz) (by kernel_rfl) (ref17_All_l6_k0 n)) (by kernel_rfl) (ref17_All_l11_k1 n)) (cn (cn (cn (cn (cn (cn (cn (cn (cn (cn (cn (cn (cn (cn (cn (cn (cn (cn (cn (cn (cn (cz) (by kernel_rfl)) (by kernel_rfl)) (by kernel_rfl)) (by kernel_rfl)) (by kernel_rfl)) (by kernel_rfl)) (by kernel_rfl)) (by kernel_rfl)) (by kernel_rfl)) (by kernel_rfl)) (by kernel_rfl)) (by kernel_rfl)) (by kernel_rfl)) (by kernel_rfl)) (by kernel_rfl)) (by kernel_rfl)) (by kernel_rfl)) (by kernel_rfl)) (by kernel_rfl)) (by kernel_rfl)) (by kernel_rfl)) (hn fun _ => rfl))
    (fun n ih => asc_cons (ref_None_ok ok n) <| asc_cons (ref17_made_ok ok n) <| asc_cons (ref_Bare_ok ok n) <| asc_cons (ref17_Face_ok ok n) <| asc_cons (ref17_used_ok ok n) <| asc_cons (ref17_Verify_ok ok n) <| asc_cons (ref17_object_ok ok n) <| asc_nil)
/-! ### pendulum/pendulumlaw22.VerifyAll -/
abbrev law22_VerifyAll_ins : Sh := ⟨[(.one (.val (.int .i64))), (.one (.val (.int .i64))), (.one (.val .bool))], []⟩
abbrev law22_VerifyAll_outs : List Sh := [⟨[(.one (.val .bool))], []⟩]
abbrev law22_VerifyAll_l8_h : Sh := ⟨[(.one (.val (.int .i64))), (.one (.val (.int .i64))), (.one (.val .bool)), (.one (.val .bool)), (.one (.arr 0)), (.one (.val (.int .i64)))], [(.arr 34 ty10)]⟩
abbrev law22_VerifyAll_l8_o : List Out := [⟨(.exit 0), [1, 2, 7, 8], ⟨[(.one (.val (.int .i64))), (.one (.val .bool)), (.one (.val .bool)), (.one (.arr 0))], [(.arr 34 ty10)]⟩⟩]
def law22_VerifyAll_l8 (n : Nat) : Nat → law22_VerifyAll_l8_h.T → Option (OutT law22_VerifyAll_l8_o)
  | 0, _ => none
  | k + 1, ((x1, x2, x3, x4, _, x5, _), (l6, _)) =>
    if decide (x5 < x1) then
      match world_Num n ((x5, ()), ()) with
      | some ((x7, _), _) => (
        if (⟨#[110]⟩ : ByteArray).size + x7.size ≤ 9223372036854775807 then (
          match law22_end n ((), ()) with
          | some (((x8, x9, x10, x11, x12, x13, _), _), _) => (
            let v14 : Int := IntKind.i64.wrap (x5 + 1)
            if decide (v14 < x1) then
              let v15 : Int := IntKind.i64.wrap (x5 + 1)
              match world_Num n ((v15, ()), ()) with
              | some ((x16, _), _) => (
                if (⟨#[110]⟩ : ByteArray).size + x16.size ≤ 9223372036854775807 then (
                  if (l6.length + ([((⟨#[110]⟩ : ByteArray) ++ x7, ([], ([], (0, ([], ((true, [((⟨#[105]⟩ : ByteArray), (⟨#[110]⟩ : ByteArray) ++ x16)]), [(x8, (x9, (x10, (x11, (x12, x13)))))]))))))] : List ty10.T).length) * 144 ≤ 140737488355328 then (
                    let v17 : Int := IntKind.i64.wrap (x5 + 1)
                    law22_VerifyAll_l8 n k ((x1, x2, x3, x4, (), v17, ()), (l6 ++ [((⟨#[110]⟩ : ByteArray) ++ x7, ([], ([], (0, ([], ((true, [((⟨#[105]⟩ : ByteArray), (⟨#[110]⟩ : ByteArray) ++ x16)]), [(x8, (x9, (x10, (x11, (x12, x13)))))]))))))], ()))) else none) else none)
              | none => none
            else
              if (l6.length + ([((⟨#[110]⟩ : ByteArray) ++ x7, ([], ([], (0, ([], ((true, []), [(x8, (x9, (x10, (x11, (x12, x13)))))]))))))] : List ty10.T).length) * 144 ≤ 140737488355328 then (
                let v18 : Int := IntKind.i64.wrap (x5 + 1)
                law22_VerifyAll_l8 n k ((x1, x2, x3, x4, (), v18, ()), (l6 ++ [((⟨#[110]⟩ : ByteArray) ++ x7, ([], ([], (0, ([], ((true, []), [(x8, (x9, (x10, (x11, (x12, x13)))))]))))))], ()))) else none)
          | none => none) else none)
      | none => none
    else
      some (.inl ((x2, x3, x4, (), ()), (l6, ())))
abbrev law22_VerifyAll_c17_h : Sh := ⟨[(.one (.val (.int .i64))), (.one (.val .bool)), (.one (.val .bool)), (.one (.arr 0)), (.one (.ptr 1 0))], [(.arr 34 ty10), (.obj 34 [(.val .str), (.emp true), (.emp true), (.val (.int .i64)), (.emp true), (.emp true), (.arr 2)]), (.arr 27 ty6)]⟩
abbrev law22_VerifyAll_c17_o : List Out := [⟨.normal, [2, 7, 8, 11], ⟨[(.one (.val .bool)), (.one (.val .bool)), (.one (.arr 0)), (.one (.ptr 1 0))], [(.arr 34 ty10), (.obj 34 [(.val .str), (.emp true), (.emp true), (.val (.int .i64)), (.emp true), (.emp true), (.arr 2)]), (.arr 27 ty6)]⟩⟩]
def law22_VerifyAll_c17 (n : Nat) : law22_VerifyAll_c17_h.T → Option (OutT law22_VerifyAll_c17_o)
  | ((x1, x2, x3, _, _, _), (l4, (x5, _, _, x6, _, _, _, _), l7, _)) =>
    if x2 then
      if 0 ≤ x1 ∧ x1 < (l4.length : Int) then (
        if (((((((((rdT ty10 l4 x1).2).2).2).2).2).1).2).length + ([((⟨#[122]⟩ : ByteArray), (⟨#[98, 97, 100]⟩ : ByteArray))] : List ty2.T).length) * 32 ≤ 140737488355328 then (
          if (!((((((((rdT ty10 l4 x1).2).2).2).2).2).1).1) || List.isEmpty [((⟨#[122]⟩ : ByteArray), (⟨#[98, 97, 100]⟩ : ByteArray))]) = true then
            none
          else
            if 0 ≤ x1 ∧ x1 < (l4.length : Int) then (
              some (.inl ((x2, x3, (), (), ()), (List.set l4 (x1 : Int).toNat ((rdT ty10 l4 x1).1, (((rdT ty10 l4 x1).2).1, ((((rdT ty10 l4 x1).2).2).1, (((((rdT ty10 l4 x1).2).2).2).1, ((((((rdT ty10 l4 x1).2).2).2).2).1, ((false, ((((((((rdT ty10 l4 x1).2).2).2).2).2).1).2) ++ [((⟨#[122]⟩ : ByteArray), (⟨#[98, 97, 100]⟩ : ByteArray))]), ((((((rdT ty10 l4 x1).2).2).2).2).2).2)))))), (x5, (), (), x6, (), (), (), ()), l7, ())))) else none) else none) else none
    else
      some (.inl ((x2, x3, (), (), ()), (l4, (x5, (), (), x6, (), (), (), ()), l7, ())))
def law22_VerifyAll : Nat → law22_VerifyAll_ins.T → Option (OutsT law22_VerifyAll_outs)
  | 0, _ => none
  | n + 1, ((x1, x2, x3, _), _) =>
    match law22_first n ((), ()) with
    | some ((x4, _), _) => (
      if !x4 then
        some ((false, ()), ())
      else
        match world_Number n ((x1, 6, ()), ()) with
        | some ((x5, _), _) => (
          let v6 : Int := IntKind.i64.wrap (x5 + 1)
          match world_Number n ((x2, v6, ()), ()) with
          | some ((x7, _), _) => (
            match law22_VerifyAll_l8 n n ((v6, x7, x3, x4, (), 0, ()), ([], ())) with
            | some (.inl ((x8, x9, x10, _, _), (l11, _))) => (
              match law22_end n ((), ()) with
              | some (((x12, x13, x14, x15, x16, x17, _), _), _) => (
                match law22_VerifyAll_c17 n ((x8, x9, x10, (), (), ()), (l11, ((⟨#[98, 97, 100]⟩ : ByteArray), (), (), 0, (), (), (), ()), [(50, (0, (0, (0, (0, 0))))), (x12, (x13, (x14, (x15, (x16, x17)))))], ())) with
                | some (.inl ((x18, x19, _, _, _), (l20, (x21, _, _, x22, _, _, _, _), l23, _))) => (
                  if (([(x21, ([], ([], (x22, ([], ((true, []), l23))))))] : List ty10.T).length + l20.length) * 144 ≤ 140737488355328 then (
                    match verify_All n (((⟨#[110, 48]⟩ : ByteArray), [(x21, ([], ([], (x22, ([], ((true, []), l23))))))] ++ l20, ()), ()) with
                    | some ((x24, _), _) => (
                      if x18 then
                        if x19 then
                          match ref_Placed n ((102, 0, ()), ()) with
                          | some (((x25, x26, x27, x28, x29, _), _), _) => (
                            match pendulumsee_Same n ((x24, (x25, x26, x27, x28, x29, ()), ()), ()) with
                            | some ((x30, _), _) => (
                              some ((x30, ()), ()))
                            | none => none)
                          | none => none
                        else
                          some ((false, ()), ())
                      else
                        if x19 then
                          if errNil x24 then
                            match ref17_All n (((⟨#[110, 48]⟩ : ByteArray), l20, ()), ()) with
                            | some (((x31, x32, x33, x34, x35, _), _), _) => (
                              some ((x31 == 0, ()), ()))
                            | none => none
                          else
                            some ((false, ()), ())
                        else
                          some ((false, ()), ()))
                    | none => none) else none)
                | some (.inr (_)) => none
                | none => none)
              | none => none)
            | some (.inr (_)) => none
            | none => none)
          | none => none)
        | none => none)
    | none => none
def law22_VerifyAll_H (n : Nat) : Hints := ⟨[42, 59], fun _ => [], fun k => match k with | 8 => some ⟨[0, 1, 2, 7, 8, 9], law22_VerifyAll_l8_h, law22_VerifyAll_l8_o, law22_VerifyAll_l8 n⟩ | _ => none, fun k => match k with | 17 => some ⟨[1, 2, 7, 8, 11], law22_VerifyAll_c17_h, law22_VerifyAll_c17_o, fun n => law22_VerifyAll_c17 n⟩ | _ => none, fun _ => none⟩
def law22_VerifyAll_O (n : Nat) : FuncId → List FSpec := asc [(4, ⟨law22_first_ins, law22_first_outs, law22_first n⟩), (5, ⟨world_Number_ins, world_Number_outs, world_Number n⟩), (6, ⟨world_Num_ins, world_Num_outs, world_Num n⟩), (7, ⟨law22_end_ins, law22_end_outs, law22_end n⟩), (8, ⟨verify_All_ins, verify_All_outs, verify_All n⟩), (9, ⟨pendulumsee_Same_ins, pendulumsee_Same_outs, pendulumsee_Same n⟩), (10, ⟨ref_Placed_ins, ref_Placed_outs, ref_Placed n⟩), (11, ⟨ref17_All_ins, ref17_All_outs, ref17_All n⟩)]
def b3 : Code := bodyOf Tryd.f3
theorem law22_VerifyAll_l8_k0 (n : Nat) : LoopOk P CC (law22_VerifyAll_O n) n 0 88 (law22_VerifyAll_H n) ⟨[0, 1, 2, 7, 8, 9], law22_VerifyAll_l8_h, law22_VerifyAll_l8_o, law22_VerifyAll_l8 n⟩ ((loopsOf b3).getD 0 .skip) := by
  refine ⟨fun _ => by kernel_rfl, ?_⟩
  rintro k ⟨⟨x1, x2, x3, x4, ⟨⟩, x5, ⟨⟩⟩, ⟨x6, ⟨⟩⟩⟩
  kernel_rfl
theorem law22_VerifyAll_c17_k17 (n : Nat) : CutOk P CC (law22_VerifyAll_O n) n 0 88 (law22_VerifyAll_H n) ⟨[1, 2, 7, 8, 11], law22_VerifyAll_c17_h, law22_VerifyAll_c17_o, fun n => law22_VerifyAll_c17 n⟩ ((cutsOf b3).getD 17 (0, .skip)).2 := by
  rintro ⟨⟨x1, x2, x3, ⟨⟩, ⟨⟩, ⟨⟩⟩, ⟨x4, ⟨x5, ⟨⟩, ⟨⟩, x6, ⟨⟩, ⟨⟩, ⟨⟩, ⟨⟩⟩, x7, ⟨⟩⟩⟩
  kernel_rfl
theorem law22_VerifyAll_ok {S : Nat → Addr} (ok : CfgOk P CC S) : ∀ n, SpecOk P CC S 3 ⟨law22_VerifyAll_ins, law22_VerifyAll_outs, law22_VerifyAll n⟩ :=
  fn_all ok (O := law22_VerifyAll_O) (H := law22_VerifyAll_H) (fn := Tryd.f3) (body := b3) (by kernel_rfl) (by kernel_rfl) (by kernel_rfl) (by decide) (by kernel_rfl)
    (fun x => by kernel_rfl) (fun n => by
      rintro ⟨⟨x1, x2, x3, ⟨⟩⟩, ⟨⟩⟩
      kernel_rfl)
    (fun n => obl_of (by kernel_rfl) (by kernel_rfl) (ls (lz) (by kernel_rfl) (law22_VerifyAll_l8_k0 n)) (cn (cn (cn (cn (cn (cn (cs (cn (cn (cn (cn (cn (cn (cn (cn (cn (cn (cn (cn (cn (cn (cn (cn (cn (cz) (by kernel_rfl)) (by kernel_rfl)) (by kernel_rfl)) (by kernel_rfl)) (by kernel_rfl)) (by kernel_rfl)) (by kernel_rfl)) (by kernel_rfl)) (by kernel_rfl)) (by kernel_rfl)) (by kernel_rfl)) (by kernel_rfl)) (by kernel_rfl)) (by kernel_rfl)) (by kernel_rfl)) (by kernel_rfl)) (by kernel_rfl)) (by kernel_rfl) (law22_VerifyAll_c17_k17 n)) (by kernel_rfl)) (by kernel_rfl)) (by kernel_rfl)) (by kernel_rfl)) (by kernel_rfl)) (by kernel_rfl)) (hn fun _ => rfl))
    (fun n ih => asc_cons (law22_first_ok ok n) <| asc_cons (world_Number_ok ok n) <| asc_cons (world_Num_ok ok n) <| asc_cons (law22_end_ok ok n) <| asc_cons (verify_All_ok ok n) <| asc_cons (pendulumsee_Same_ok ok n) <| asc_cons (ref_Placed_ok ok n) <| asc_cons (ref17_All_ok ok n) <| asc_nil)
end
end Go.Proofs.YtkcgcaefhoepoaaDoor.Cm

/- Printed by cmtext.py: the code as plain functions. -/
import Derived.Test.YtnajjhjbkanigaaDoorCDepsSays0
namespace Go.Proofs.YtnajjhjbkanigaaDoor.Cm
open Go
noncomputable section
set_option linter.unusedVariables false
set_option maxRecDepth 100000
/-! ### pendulum/pendulumref16.find -/
abbrev ref16_find_ins : Sh := ⟨[(.one (.val ty22)), (.one (.val .str))], []⟩
abbrev ref16_find_outs : List Sh := [⟨[(.one (.val (.int .i64)))], []⟩]
abbrev ref16_find_l2_h : Sh := ⟨[(.one (.val ty22)), (.one (.val .str)), (.one (.val (.int .i64)))], []⟩
abbrev ref16_find_l2_o : List Out := [⟨(.exit 0), [], ⟨[], []⟩⟩, ⟨.ret, [4], ⟨[(.one (.val (.int .i64)))], []⟩⟩]
def ref16_find_l2 (n : Nat) : Nat → ref16_find_l2_h.T → Option (OutT ref16_find_l2_o)
  | 0, _ => none
  | k + 1, ((x1, x2, x3, _), _) =>
    if decide (x3 < (x1.length : Int)) then
      if 0 ≤ x3 ∧ x3 < (x1.length : Int) then (
        if strEq ((rdT ty0 x1 x3).1) x2 then
          some (.inr (.inl ((x3, ()), ())))
        else
          let v4 : Int := IntKind.i64.wrap (x3 + 1)
          ref16_find_l2 n k ((x1, x2, v4, ()), ())) else none
    else
      some (.inl ((), ()))
def ref16_find : Nat → ref16_find_ins.T → Option (OutsT ref16_find_outs)
  | 0, _ => none
  | n + 1, ((x1, x2, _), _) =>
    match ref16_find_l2 n n ((x1, x2, 0, ()), ()) with
    | some (.inl (_, _)) => (
      some (((-1), ()), ()))
    | some (.inr (.inl ((x3, _), _))) => (
      some ((x3, ()), ()))
    | some (.inr (.inr (_))) => none
    | none => none
def ref16_find_H (n : Nat) : Hints := ⟨[], fun _ => [], fun k => match k with | 2 => some ⟨[0, 1, 5], ref16_find_l2_h, ref16_find_l2_o, ref16_find_l2 n⟩ | _ => none, fun _ => none, fun _ => none, fun _ => 0, fun _ => none⟩
def ref16_find_O (n : Nat) : FuncId → List FSpec := asc []
def b77 : Code := bodyOf Tryd.f77
theorem ref16_find_l2_k0 (n : Nat) : LoopOk P CC (ref16_find_O n) n 0 20 (ref16_find_H n) ⟨[0, 1, 5], ref16_find_l2_h, ref16_find_l2_o, ref16_find_l2 n⟩ ((loopsOf b77).getD 0 .skip) := by
  refine ⟨fun _ => by kernel_rfl, ?_⟩
  rintro k ⟨⟨x1, x2, x3, ⟨⟩⟩, ⟨⟩⟩
  kernel_rfl
theorem ref16_find_ok {S : Nat → Addr} (ok : CfgOk P CC S) : ∀ n, SpecOk P CC S 77 ⟨ref16_find_ins, ref16_find_outs, ref16_find n⟩ :=
  fn_all ok (O := ref16_find_O) (H := ref16_find_H) (fn := Tryd.f77) (body := b77) (by kernel_rfl) (by kernel_rfl) (by kernel_rfl) (by decide) (by kernel_rfl)
    (fun x => by kernel_rfl) (fun n => by
      rintro ⟨⟨x1, x2, ⟨⟩⟩, ⟨⟩⟩
      kernel_rfl)
    (fun n => obl_of (by kernel_rfl) (by kernel_rfl) (ls (lz) (by kernel_rfl) (by kernel_rfl) (ref16_find_l2_k0 n)) (cn (cn (cn (cn (cn (cn (cn (cn (cn (cz) (by kernel_rfl)) (by kernel_rfl)) (by kernel_rfl)) (by kernel_rfl)) (by kernel_rfl)) (by kernel_rfl)) (by kernel_rfl)) (by kernel_rfl)) (by kernel_rfl)) (hn fun _ => rfl))
    (fun n ih => asc_nil)
/-! ### pendulum/pendulumref.Among -/
abbrev ref_Among_2_ins : Sh := ⟨[(.one (.arr 0)), (.one (.val .str))], [(.arr 9 .str)]⟩
abbrev ref_Among_2_outs : List Sh := [⟨[(.one (.val (.int .i64)))], [(.arr 9 .str)]⟩]
abbrev ref_Among_2_l2_h : Sh := ⟨[(.one (.arr 0)), (.one (.val .str)), (.one (.val (.int .i64)))], [(.arr 9 .str)]⟩
abbrev ref_Among_2_l2_o : List Out := [⟨(.exit 0), [], ⟨[], [(.arr 9 .str)]⟩⟩, ⟨.ret, [4], ⟨[(.one (.val (.int .i64)))], [(.arr 9 .str)]⟩⟩]
def ref_Among_2_l2 (n : Nat) : Nat → ref_Among_2_l2_h.T → Option (OutT ref_Among_2_l2_o)
  | 0, _ => none
  | k + 1, ((_, x1, x2, _), (l3, _)) =>
    if decide (x2 < (l3.length : Int)) then
      if 0 ≤ x2 ∧ x2 < (l3.length : Int) then (
        if strEq (rdT (.str : Ty) l3 x2) x1 then
          some (.inr (.inl ((x2, ()), (l3, ()))))
        else
          let v4 : Int := IntKind.i64.wrap (x2 + 1)
          ref_Among_2_l2 n k (((), x1, v4, ()), (l3, ()))) else none
    else
      some (.inl ((), (l3, ())))
def ref_Among_2 : Nat → ref_Among_2_ins.T → Option (OutsT ref_Among_2_outs)
  | 0, _ => none
  | n + 1, ((_, x1, _), (l2, _)) =>
    match ref_Among_2_l2 n n (((), x1, 0, ()), (l2, ())) with
    | some (.inl (_, (l3, _))) => (
      some (((-1), ()), (l3, ())))
    | some (.inr (.inl ((x4, _), (l5, _)))) => (
      some ((x4, ()), (l5, ())))
    | some (.inr (.inr (_))) => none
    | none => none
def ref_Among_2_H (n : Nat) : Hints := ⟨[], fun _ => [], fun k => match k with | 2 => some ⟨[0, 1, 5], ref_Among_2_l2_h, ref_Among_2_l2_o, ref_Among_2_l2 n⟩ | _ => none, fun _ => none, fun _ => none, fun _ => 0, fun _ => none⟩
def ref_Among_2_O (n : Nat) : FuncId → List FSpec := asc []
theorem ref_Among_2_l2_k0 (n : Nat) : LoopOk P CC (ref_Among_2_O n) n 1 19 (ref_Among_2_H n) ⟨[0, 1, 5], ref_Among_2_l2_h, ref_Among_2_l2_o, ref_Among_2_l2 n⟩ ((loopsOf b33).getD 0 .skip) := by
  refine ⟨fun _ => by kernel_rfl, ?_⟩
  rintro k ⟨⟨⟨⟩, x1, x2, ⟨⟩⟩, ⟨x3, ⟨⟩⟩⟩
  kernel_rfl
theorem ref_Among_2_ok {S : Nat → Addr} (ok : CfgOk P CC S) : ∀ n, SpecOk P CC S 33 ⟨ref_Among_2_ins, ref_Among_2_outs, ref_Among_2 n⟩ :=
  fn_all ok (O := ref_Among_2_O) (H := ref_Among_2_H) (fn := Tryd.f33) (body := b33) (by kernel_rfl) (by kernel_rfl) (by kernel_rfl) (by decide) (by kernel_rfl)
    (fun x => by kernel_rfl) (fun n => by
      rintro ⟨⟨⟨⟩, x1, ⟨⟩⟩, ⟨x2, ⟨⟩⟩⟩
      kernel_rfl)
    (fun n => obl_of (by kernel_rfl) (by kernel_rfl) (ls (lz) (by kernel_rfl) (by kernel_rfl) (ref_Among_2_l2_k0 n)) (cn (cn (cn (cn (cn (cn (cn (cn (cn (cz) (by kernel_rfl)) (by kernel_rfl)) (by kernel_rfl)) (by kernel_rfl)) (by kernel_rfl)) (by kernel_rfl)) (by kernel_rfl)) (by kernel_rfl)) (by kernel_rfl)) (hn fun _ => rfl))
    (fun n ih => asc_nil)
/-! ### pendulum/pendulumref16.Used -/
abbrev ref16_Used_ins : Sh := ⟨[(.one (.val .str)), (.one (.val ty22))], []⟩
abbrev ref16_Used_outs : List Sh := [⟨[(.tup [(false, [(.arr 0)]), (false, [(.val (.int .i64))])])], [(.arr 9 .str)]⟩]
abbrev ref16_Used_l10_h : Sh := ⟨[(.one (.val ty22)), (.one (.arr 0)), (.one (.val (.int .i64))), (.one (.val ty13)), (.one (.val (.int .i64)))], [(.arr 9 .str)]⟩
abbrev ref16_Used_l10_o : List Out := [⟨(.exit 2), [1, 6, 7], ⟨[(.one (.val ty22)), (.one (.arr 0)), (.one (.val (.int .i64)))], [(.arr 9 .str)]⟩⟩]
def ref16_Used_l10 (n : Nat) : Nat → ref16_Used_l10_h.T → Option (OutT ref16_Used_l10_o)
  | 0, _ => none
  | k + 1, ((x1, _, x2, x3, x4, _), (l5, _)) =>
    if decide (x4 < (x3.length : Int)) then
      if 0 ≤ x4 ∧ x4 < (x3.length : Int) then (
        match ref_Among_2 n (((), rdT (.str : Ty) x3 x4, ()), (l5, ())) with
        | some ((x6, _), (l7, _)) => (
          if decide (x6 < 0) then
            if 0 ≤ x4 ∧ x4 < (x3.length : Int) then (
              if (l7.length + ([rdT (.str : Ty) x3 x4] : List (.str : Ty).T).length) * 16 ≤ 140737488355328 then (
                let v8 : Int := IntKind.i64.wrap (x4 + 1)
                ref16_Used_l10 n k ((x1, (), x2, x3, v8, ()), (l7 ++ [rdT (.str : Ty) x3 x4], ()))) else none) else none
          else
            let v9 : Int := IntKind.i64.wrap (x4 + 1)
            ref16_Used_l10 n k ((x1, (), x2, x3, v9, ()), (l7, ())))
        | none => none) else none
    else
      some (.inl ((x1, (), x2, ()), (l5, ())))
abbrev ref16_Used_l3_h : Sh := ⟨[(.one (.val ty22)), (.one (.arr 0)), (.one (.val (.int .i64)))], [(.arr 9 .str)]⟩
abbrev ref16_Used_l3_o : List Out := [⟨(.exit 0), [6], ⟨[(.one (.arr 0))], [(.arr 9 .str)]⟩⟩, ⟨.ret, [4, 5], ⟨[(.one (.emp true)), (.one (.val (.int .i64)))], []⟩⟩]
def ref16_Used_l3 (n : Nat) : Nat → ref16_Used_l3_h.T → Option (OutT ref16_Used_l3_o)
  | 0, _ => none
  | k + 1, ((x1, _, x2, _), (l3, _)) =>
    if decide (x2 < (l3.length : Int)) then
      if 0 ≤ x2 ∧ x2 < (l3.length : Int) then (
        match ref16_find n ((x1, rdT (.str : Ty) l3 x2, ()), ()) with
        | some ((x4, _), _) => (
          if decide (x4 < 0) then
            some (.inr (.inl (((), 116, ()), ())))
          else
            if 0 ≤ x4 ∧ x4 < (x1.length : Int) then (
              match ref10_Calls n ((((rdT ty0 x1 x4).1, ((rdT ty0 x1 x4).2).1, (((rdT ty0 x1 x4).2).2).1, ((((rdT ty0 x1 x4).2).2).2).1, ((((rdT ty0 x1 x4).2).2).2).2, ()), ()), ()) with
              | some ((x5, _), _) => (
                match ref16_Used_l10 n n ((x1, (), x2, x5, 0, ()), (l3, ())) with
                | some (.inl ((x6, _, x7, _), (l8, _))) => (
                  let v9 : Int := IntKind.i64.wrap (x7 + 1)
                  ref16_Used_l3 n k ((x6, (), v9, ()), (l8, ())))
                | some (.inr (_)) => none
                | none => none)
              | none => none) else none)
        | none => none) else none
    else
      some (.inl (((), ()), (l3, ())))
def ref16_Used : Nat → ref16_Used_ins.T → Option (OutsT ref16_Used_outs)
  | 0, _ => none
  | n + 1, ((x1, x2, _), _) =>
    match ref16_Used_l3 n n ((x2, (), 0, ()), ([x1], ())) with
    | some (.inl ((_, _), (l3, _))) => (
      match ref_Rising n (((), ()), (l3, ())) with
      | some ((_, _), (l5, l6, _)) => (
        some (((((), ()), (0, ()), ()), ()), (l6, ())))
      | none => none)
    | some (.inr (.inl ((_, x4, _), _))) => (
      some (((((), ()), (x4, ()), ()), ()), ([], ())))
    | some (.inr (.inr (_))) => none
    | none => none
def ref16_Used_H (n : Nat) : Hints := ⟨[], fun _ => [], fun k => match k with | 10 => some ⟨[1, 6, 7, 9, 10], ref16_Used_l10_h, ref16_Used_l10_o, ref16_Used_l10 n⟩ | 3 => some ⟨[1, 6, 7], ref16_Used_l3_h, ref16_Used_l3_o, ref16_Used_l3 n⟩ | _ => none, fun _ => none, fun _ => none, fun _ => 0, fun _ => none⟩
def ref16_Used_O (n : Nat) : FuncId → List FSpec := asc [(32, ⟨ref10_Calls_ins, ref10_Calls_outs, ref10_Calls n⟩), (33, ⟨ref_Among_2_ins, ref_Among_2_outs, ref_Among_2 n⟩), (34, ⟨ref_Rising_ins, ref_Rising_outs, ref_Rising n⟩), (77, ⟨ref16_find_ins, ref16_find_outs, ref16_find n⟩)]
def b36 : Code := bodyOf Tryd.f36
theorem ref16_Used_l3_k0 (n : Nat) : LoopOk P CC (ref16_Used_O n) n 0 54 (ref16_Used_H n) ⟨[1, 6, 7], ref16_Used_l3_h, ref16_Used_l3_o, ref16_Used_l3 n⟩ ((loopsOf b36).getD 0 .skip) := by
  refine ⟨fun _ => by kernel_rfl, ?_⟩
  rintro k ⟨⟨x1, ⟨⟩, x2, ⟨⟩⟩, ⟨x3, ⟨⟩⟩⟩
  kernel_rfl
theorem ref16_Used_l10_k1 (n : Nat) : LoopOk P CC (ref16_Used_O n) n 0 54 (ref16_Used_H n) ⟨[1, 6, 7, 9, 10], ref16_Used_l10_h, ref16_Used_l10_o, ref16_Used_l10 n⟩ ((loopsOf b36).getD 1 .skip) := by
  refine ⟨fun _ => by kernel_rfl, ?_⟩
  rintro k ⟨⟨x1, ⟨⟩, x2, x3, x4, ⟨⟩⟩, ⟨x5, ⟨⟩⟩⟩
  kernel_rfl
theorem ref16_Used_ok {S : Nat → Addr} (ok : CfgOk P CC S) : ∀ n, SpecOk P CC S 36 ⟨ref16_Used_ins, ref16_Used_outs, ref16_Used n⟩ :=
  fn_all ok (O := ref16_Used_O) (H := ref16_Used_H) (fn := Tryd.f36) (body := b36) (by kernel_rfl) (by kernel_rfl) (by kernel_rfl) (by decide) (by kernel_rfl)
    (fun x => by kernel_rfl) (fun n => by
      rintro ⟨⟨x1, x2, ⟨⟩⟩, ⟨⟩⟩
      kernel_rfl)
    (fun n => obl_of (by kernel_rfl) (by kernel_rfl) (ls (ls (lz) (by kernel_rfl) (by kernel_rfl) (ref16_Used_l3_k0 n)) (by kernel_rfl) (by kernel_rfl) (ref16_Used_l10_k1 n)) (cn (cn (cn (cn (cn (cn (cn (cn (cn (cn (cn (cn (cn (cn (cn (cn (cn (cn (cz) (by kernel_rfl)) (by kernel_rfl)) (by kernel_rfl)) (by kernel_rfl)) (by kernel_rfl)) (by kernel_rfl)) (by kernel_rfl)) (by kernel_rfl)) (by kernel_rfl)) (by kernel_rfl)) (by kernel_rfl)) (by kernel_rfl)) (by kernel_rfl)) (by kernel_rfl)) (by kernel_rfl)) (by kernel_rfl)) (by kernel_rfl)) (by kernel_rfl)) (hn fun _ => rfl))
    (fun n ih => asc_cons (ref10_Calls_ok ok n) <| asc_cons (ref_Among_2_ok ok n) <| asc_cons (ref_Rising_ok ok n) <| asc_cons (ref16_find_ok ok n) <| asc_nil)
/-! ### pendulum/pendulumref16.Sorted -/
abbrev ref16_Sorted_ins : Sh := ⟨[(.one (.arr 0)), (.one (.val ty22))], [(.arr 9 .str)]⟩
abbrev ref16_Sorted_outs : List Sh := [⟨[(.tup [(false, [(.arr 1)]), (false, [(.val (.int .i64))])])], [(.arr 9 .str), (.arr 9 .str)]⟩]
abbrev ref16_Sorted_l11_h : Sh := ⟨[(.one (.arr 0)), (.one (.val ty22)), (.one (.arr 1)), (.one (.val (.int .i64))), (.one (.val (.int .i64))), (.one (.val ty13)), (.one (.val .bool)), (.one (.val (.int .i64)))], [(.arr 9 .str), (.arr 9 .str)]⟩
abbrev ref16_Sorted_l11_o : List Out := [⟨(.exit 4), [0, 1, 6, 7, 8, 10], ⟨[(.one (.arr 0)), (.one (.val ty22)), (.one (.arr 1)), (.one (.val (.int .i64))), (.one (.val (.int .i64))), (.one (.val .bool))], [(.arr 9 .str), (.arr 9 .str)]⟩⟩]
def ref16_Sorted_l11 (n : Nat) : Nat → ref16_Sorted_l11_h.T → Option (OutT ref16_Sorted_l11_o)
  | 0, _ => none
  | k + 1, ((_, x1, _, x2, x3, x4, x5, x6, _), (l7, l8, _)) =>
    if decide (x6 < (x4.length : Int)) then
      if x5 then
        if 0 ≤ x6 ∧ x6 < (x4.length : Int) then (
          match ref_Among_2 n (((), rdT (.str : Ty) x4 x6, ()), (l8, ())) with
          | some ((x9, _), (l10, _)) => (
            let v11 : Int := IntKind.i64.wrap (x6 + 1)
            ref16_Sorted_l11 n k (((), x1, (), x2, x3, x4, decide (x9 ≥ 0), v11, ()), (l7, l10, ())))
          | none => none) else none
      else
        let v12 : Int := IntKind.i64.wrap (x6 + 1)
        ref16_Sorted_l11 n k (((), x1, (), x2, x3, x4, false, v12, ()), (l7, l8, ()))
    else
      some (.inl (((), x1, (), x2, x3, x5, ()), (l7, l8, ())))
abbrev ref16_Sorted_l5_h : Sh := ⟨[(.one (.arr 0)), (.one (.val ty22)), (.one (.arr 1)), (.one (.val (.int .i64))), (.one (.val (.int .i64)))], [(.arr 9 .str), (.arr 9 .str)]⟩
abbrev ref16_Sorted_l5_o : List Out := [⟨(.exit 2), [0, 1, 6, 7], ⟨[(.one (.arr 0)), (.one (.val ty22)), (.one (.arr 1)), (.one (.val (.int .i64)))], [(.arr 9 .str), (.arr 9 .str)]⟩⟩]
def ref16_Sorted_l5 (n : Nat) : Nat → ref16_Sorted_l5_h.T → Option (OutT ref16_Sorted_l5_o)
  | 0, _ => none
  | k + 1, ((_, x1, _, x2, x3, _), (l4, l5, _)) =>
    if decide (x3 < (l4.length : Int)) then
      if decide (x2 < 0) then
        if 0 ≤ x3 ∧ x3 < (l4.length : Int) then (
          match ref_Among_2 n (((), rdT (.str : Ty) l4 x3, ()), (l5, ())) with
          | some ((x6, _), (l7, _)) => (
            if decide (x6 ≥ 0) then
              let v16 : Int := IntKind.i64.wrap (x3 + 1)
              ref16_Sorted_l5 n k (((), x1, (), x2, v16, ()), (l4, l7, ()))
            else
              if 0 ≤ x3 ∧ x3 < (l4.length : Int) then (
                match ref16_find n ((x1, rdT (.str : Ty) l4 x3, ()), ()) with
                | some ((x8, _), _) => (
                  if 0 ≤ x8 ∧ x8 < (x1.length : Int) then (
                    match ref10_Calls n ((((rdT ty0 x1 x8).1, ((rdT ty0 x1 x8).2).1, (((rdT ty0 x1 x8).2).2).1, ((((rdT ty0 x1 x8).2).2).2).1, ((((rdT ty0 x1 x8).2).2).2).2, ()), ()), ()) with
                    | some ((x9, _), _) => (
                      match ref16_Sorted_l11 n n (((), x1, (), x2, x3, x9, true, 0, ()), (l4, l7, ())) with
                      | some (.inl ((_, x10, _, x11, x12, x13, _), (l14, l15, _))) => (
                        if x13 then
                          let v17 : Int := IntKind.i64.wrap (x12 + 1)
                          ref16_Sorted_l5 n k (((), x10, (), x12, v17, ()), (l14, l15, ()))
                        else
                          let v18 : Int := IntKind.i64.wrap (x12 + 1)
                          ref16_Sorted_l5 n k (((), x10, (), x11, v18, ()), (l14, l15, ())))
                      | some (.inr (_)) => none
                      | none => none)
                    | none => none) else none)
                | none => none) else none)
          | none => none) else none
      else
        some (.inl (((), x1, (), x2, ()), (l4, l5, ())))
    else
      some (.inl (((), x1, (), x2, ()), (l4, l5, ())))
abbrev ref16_Sorted_l2_h : Sh := ⟨[(.one (.arr 0)), (.one (.val ty22)), (.one (.arr 1))], [(.arr 9 .str), (.arr 9 .str)]⟩
abbrev ref16_Sorted_l2_o : List Out := [⟨(.exit 0), [6], ⟨[(.one (.arr 1))], [(.arr 9 .str), (.arr 9 .str)]⟩⟩, ⟨.ret, [4, 5], ⟨[(.one (.emp true)), (.one (.val (.int .i64)))], [(.arr 9 .str)]⟩⟩]
def ref16_Sorted_l2 (n : Nat) : Nat → ref16_Sorted_l2_h.T → Option (OutT ref16_Sorted_l2_o)
  | 0, _ => none
  | k + 1, ((_, x1, _, _), (l2, l3, _)) =>
    if decide ((l3.length : Int) < (l2.length : Int)) then
      match ref16_Sorted_l5 n n (((), x1, (), (-1), 0, ()), (l2, l3, ())) with
      | some (.inl ((_, x4, _, x5, _), (l6, l7, _))) => (
        if decide (x5 < 0) then
          some (.inr (.inl (((), 113, ()), (l6, ()))))
        else
          if 0 ≤ x5 ∧ x5 < (l6.length : Int) then (
            if (l7.length + ([rdT (.str : Ty) l6 x5] : List (.str : Ty).T).length) * 16 ≤ 140737488355328 then (
              ref16_Sorted_l2 n k (((), x4, (), ()), (l6, l7 ++ [rdT (.str : Ty) l6 x5], ()))) else none) else none)
      | some (.inr (_)) => none
      | none => none
    else
      some (.inl (((), ()), (l2, l3, ())))
def ref16_Sorted : Nat → ref16_Sorted_ins.T → Option (OutsT ref16_Sorted_outs)
  | 0, _ => none
  | n + 1, ((_, x1, _), (l2, _)) =>
    match ref16_Sorted_l2 n n (((), x1, (), ()), (l2, [], ())) with
    | some (.inl ((_, _), (l3, l4, _))) => (
      some (((((), ()), (0, ()), ()), ()), (l3, l4, ())))
    | some (.inr (.inl ((_, x5, _), (l6, _)))) => (
      some (((((), ()), (x5, ()), ()), ()), (l6, [], ())))
    | some (.inr (.inr (_))) => none
    | none => none
def ref16_Sorted_H (n : Nat) : Hints := ⟨[], fun _ => [], fun k => match k with | 11 => some ⟨[0, 1, 6, 7, 8, 9, 10, 11], ref16_Sorted_l11_h, ref16_Sorted_l11_o, ref16_Sorted_l11 n⟩ | 5 => some ⟨[0, 1, 6, 7, 8], ref16_Sorted_l5_h, ref16_Sorted_l5_o, ref16_Sorted_l5 n⟩ | 2 => some ⟨[0, 1, 6], ref16_Sorted_l2_h, ref16_Sorted_l2_o, ref16_Sorted_l2 n⟩ | _ => none, fun _ => none, fun _ => none, fun _ => 0, fun _ => none⟩
def ref16_Sorted_O (n : Nat) : FuncId → List FSpec := asc [(32, ⟨ref10_Calls_ins, ref10_Calls_outs, ref10_Calls n⟩), (33, ⟨ref_Among_2_ins, ref_Among_2_outs, ref_Among_2 n⟩), (77, ⟨ref16_find_ins, ref16_find_outs, ref16_find n⟩)]
def b37 : Code := bodyOf Tryd.f37
theorem ref16_Sorted_l2_k0 (n : Nat) : LoopOk P CC (ref16_Sorted_O n) n 1 72 (ref16_Sorted_H n) ⟨[0, 1, 6], ref16_Sorted_l2_h, ref16_Sorted_l2_o, ref16_Sorted_l2 n⟩ ((loopsOf b37).getD 0 .skip) := by
  refine ⟨fun _ => by kernel_rfl, ?_⟩
  rintro k ⟨⟨⟨⟩, x1, ⟨⟩, ⟨⟩⟩, ⟨x2, x3, ⟨⟩⟩⟩
  kernel_rfl
theorem ref16_Sorted_l5_k1 (n : Nat) : LoopOk P CC (ref16_Sorted_O n) n 1 72 (ref16_Sorted_H n) ⟨[0, 1, 6, 7, 8], ref16_Sorted_l5_h, ref16_Sorted_l5_o, ref16_Sorted_l5 n⟩ ((loopsOf b37).getD 1 .skip) := by
  refine ⟨fun _ => by kernel_rfl, ?_⟩
  rintro k ⟨⟨⟨⟩, x1, ⟨⟩, x2, x3, ⟨⟩⟩, ⟨x4, x5, ⟨⟩⟩⟩
  kernel_rfl
theorem ref16_Sorted_l11_k2 (n : Nat) : LoopOk P CC (ref16_Sorted_O n) n 1 72 (ref16_Sorted_H n) ⟨[0, 1, 6, 7, 8, 9, 10, 11], ref16_Sorted_l11_h, ref16_Sorted_l11_o, ref16_Sorted_l11 n⟩ ((loopsOf b37).getD 2 .skip) := by
  refine ⟨fun _ => by kernel_rfl, ?_⟩
  rintro k ⟨⟨⟨⟩, x1, ⟨⟩, x2, x3, x4, x5, x6, ⟨⟩⟩, ⟨x7, x8, ⟨⟩⟩⟩
  kernel_rfl
theorem ref16_Sorted_ok {S : Nat → Addr} (ok : CfgOk P CC S) : ∀ n, SpecOk P CC S 37 ⟨ref16_Sorted_ins, ref16_Sorted_outs, ref16_Sorted n⟩ :=
  fn_all ok (O := ref16_Sorted_O) (H := ref16_Sorted_H) (fn := Tryd.f37) (body := b37) (by kernel_rfl) (by kernel_rfl) (by kernel_rfl) (by decide) (by kernel_rfl)
    (fun x => by kernel_rfl) (fun n => by
      rintro ⟨⟨⟨⟩, x1, ⟨⟩⟩, ⟨x2, ⟨⟩⟩⟩
      kernel_rfl)
    (fun n => obl_of (by kernel_rfl) (by kernel_rfl) (ls (ls (ls (lz) (by kernel_rfl) (by kernel_rfl) (ref16_Sorted_l2_k0 n)) (by kernel_rfl) (by kernel_rfl) (ref16_Sorted_l5_k1 n)) (by kernel_rfl) (by kernel_rfl) (ref16_Sorted_l11_k2 n)) (cn (cn (cn (cn (cn (cn (cn (cn (cn (cn (cn (cn (cn (cn (cn (cn (cn (cn (cn (cn (cn (cn (cn (cn (cn (cz) (by kernel_rfl)) (by kernel_rfl)) (by kernel_rfl)) (by kernel_rfl)) (by kernel_rfl)) (by kernel_rfl)) (by kernel_rfl)) (by kernel_rfl)) (by kernel_rfl)) (by kernel_rfl)) (by kernel_rfl)) (by kernel_rfl)) (by kernel_rfl)) (by kernel_rfl)) (by kernel_rfl)) (by kernel_rfl)) (by kernel_rfl)) (by kernel_rfl)) (by kernel_rfl)) (by kernel_rfl)) (by kernel_rfl)) (by kernel_rfl)) (by kernel_rfl)) (by kernel_rfl)) (by kernel_rfl)) (hn fun _ => rfl))
    (fun n ih => asc_cons (ref10_Calls_ok ok n) <| asc_cons (ref_Among_2_ok ok n) <| asc_cons (ref16_find_ok ok n) <| asc_nil)
/-! ### pendulum/pendulumref16.Depth -/
abbrev ref16_Depth_ins : Sh := ⟨[(.one (.val .str)), (.one (.val ty22))], []⟩
abbrev ref16_Depth_outs : List Sh := [⟨[(.one (.val (.int .i64)))], []⟩]
abbrev ref16_Depth_l4_h : Sh := ⟨[(.one (.val ty22)), (.one (.val (.int .i64))), (.one (.val ty13)), (.one (.val (.int .i64)))], []⟩
abbrev ref16_Depth_l4_o : List Out := [⟨(.exit 0), [5], ⟨[(.one (.val (.int .i64)))], []⟩⟩]
def ref16_Depth_l4 (n : Nat) (rc : ref16_Depth_ins.T → Option (OutsT ref16_Depth_outs)) : Nat → ref16_Depth_l4_h.T → Option (OutT ref16_Depth_l4_o)
  | 0, _ => none
  | k + 1, ((x1, x2, x3, x4, _), _) =>
    if decide (x4 < (x3.length : Int)) then
      if 0 ≤ x4 ∧ x4 < (x3.length : Int) then (
        match rc ((rdT (.str : Ty) x3 x4, x1, ()), ()) with
        | some ((x5, _), _) => (
          let v6 : Int := IntKind.i64.wrap (x4 + 1)
          ref16_Depth_l4 n rc k ((x1, mx x2 x5, x3, v6, ()), ()))
        | none => none) else none
    else
      some (.inl ((x2, ()), ()))
def ref16_Depth : Nat → ref16_Depth_ins.T → Option (OutsT ref16_Depth_outs)
  | 0, _ => none
  | n + 1, ((x1, x2, _), _) =>
    match ref16_find n ((x2, x1, ()), ()) with
    | some ((x3, _), _) => (
      if 0 ≤ x3 ∧ x3 < (x2.length : Int) then (
        match ref10_Calls n ((((rdT ty0 x2 x3).1, ((rdT ty0 x2 x3).2).1, (((rdT ty0 x2 x3).2).2).1, ((((rdT ty0 x2 x3).2).2).2).1, ((((rdT ty0 x2 x3).2).2).2).2, ()), ()), ()) with
        | some ((x4, _), _) => (
          match ref16_Depth_l4 n (ref16_Depth n) n ((x2, 0, x4, 0, ()), ()) with
          | some (.inl ((x5, _), _)) => (
            let v6 : Int := IntKind.i64.wrap (x5 + 1)
            some ((v6, ()), ()))
          | some (.inr (_)) => none
          | none => none)
        | none => none) else none)
    | none => none
def ref16_Depth_H (n : Nat) : Hints := ⟨[], fun _ => [], fun k => match k with | 4 => some ⟨[1, 5, 6, 7], ref16_Depth_l4_h, ref16_Depth_l4_o, ref16_Depth_l4 n (ref16_Depth n)⟩ | _ => none, fun _ => none, fun _ => none, fun _ => 0, fun _ => none⟩
def ref16_Depth_O (n : Nat) : FuncId → List FSpec := asc [(32, ⟨ref10_Calls_ins, ref10_Calls_outs, ref10_Calls n⟩), (38, ⟨ref16_Depth_ins, ref16_Depth_outs, ref16_Depth n⟩), (77, ⟨ref16_find_ins, ref16_find_outs, ref16_find n⟩)]
def b38 : Code := bodyOf Tryd.f38
theorem ref16_Depth_l4_k0 (n : Nat) : LoopOk P CC (ref16_Depth_O n) n 0 31 (ref16_Depth_H n) ⟨[1, 5, 6, 7], ref16_Depth_l4_h, ref16_Depth_l4_o, ref16_Depth_l4 n (ref16_Depth n)⟩ ((loopsOf b38).getD 0 .skip) := by
  refine ⟨fun _ => by kernel_rfl, ?_⟩
  rintro k ⟨⟨x1, x2, x3, x4, ⟨⟩⟩, ⟨⟩⟩
  kernel_rfl
theorem ref16_Depth_ok {S : Nat → Addr} (ok : CfgOk P CC S) : ∀ n, SpecOk P CC S 38 ⟨ref16_Depth_ins, ref16_Depth_outs, ref16_Depth n⟩ :=
  fn_all ok (O := ref16_Depth_O) (H := ref16_Depth_H) (fn := Tryd.f38) (body := b38) (by kernel_rfl) (by kernel_rfl) (by kernel_rfl) (by decide) (by kernel_rfl)
    (fun x => by kernel_rfl) (fun n => by
      rintro ⟨⟨x1, x2, ⟨⟩⟩, ⟨⟩⟩
      kernel_rfl)
    (fun n => obl_of (by kernel_rfl) (by kernel_rfl) (ls (lz) (by kernel_rfl) (by kernel_rfl) (ref16_Depth_l4_k0 n)) (cn (cn (cn (cn (cn (cn (cn (cn (cn (cz) (by kernel_rfl)) (by kernel_rfl)) (by kernel_rfl)) (by kernel_rfl)) (by kernel_rfl)) (by kernel_rfl)) (by kernel_rfl)) (by kernel_rfl)) (by kernel_rfl)) (hn fun _ => rfl))
    (fun n ih => asc_cons (ref10_Calls_ok ok n) <| asc_cons (ih) <| asc_cons (ref16_find_ok ok n) <| asc_nil)
/-! ### pendulum/pendulumsee.Is -/
abbrev pendulumsee_Is_ins : Sh := ⟨[(.one (.val .err)), (.one (.val (.int .i64)))], []⟩
abbrev pendulumsee_Is_outs : List Sh := [⟨[(.one (.val .bool))], []⟩]
def pendulumsee_Is : Nat → pendulumsee_Is_ins.T → Option (OutsT pendulumsee_Is_outs)
  | 0, _ => none
  | n + 1, ((x1, x2, _), _) =>
    match ref_Bare n ((x2, ()), ()) with
    | some (((x3, x4, x5, x6, x7, _), _), _) => (
      match pendulumsee_Same n ((x1, (x3, x4, x5, x6, x7, ()), ()), ()) with
      | some ((x8, _), _) => (
        some ((x8, ()), ()))
      | none => none)
    | none => none
def pendulumsee_Is_H (n : Nat) : Hints := ⟨[], fun _ => [], fun _ => none, fun _ => none, fun _ => none, fun _ => 0, fun _ => none⟩
def pendulumsee_Is_O (n : Nat) : FuncId → List FSpec := asc [(30, ⟨ref_Bare_ins, ref_Bare_outs, ref_Bare n⟩), (31, ⟨pendulumsee_Same_ins, pendulumsee_Same_outs, pendulumsee_Same n⟩)]
def b39 : Code := bodyOf Tryd.f39
theorem pendulumsee_Is_ok {S : Nat → Addr} (ok : CfgOk P CC S) : ∀ n, SpecOk P CC S 39 ⟨pendulumsee_Is_ins, pendulumsee_Is_outs, pendulumsee_Is n⟩ :=
  fn_all ok (O := pendulumsee_Is_O) (H := pendulumsee_Is_H) (fn := Tryd.f39) (body := b39) (by kernel_rfl) (by kernel_rfl) (by kernel_rfl) (by decide) (by kernel_rfl)
    (fun x => by kernel_rfl) (fun n => by
      rintro ⟨⟨x1, x2, ⟨⟩⟩, ⟨⟩⟩
      kernel_rfl)
    (fun n => obl_of (by kernel_rfl) (by kernel_rfl) (lz) (cn (cn (cz) (by kernel_rfl)) (by kernel_rfl)) (hn fun _ => rfl))
    (fun n ih => asc_cons (ref_Bare_ok ok n) <| asc_cons (pendulumsee_Same_ok ok n) <| asc_nil)
/-! ### (*pendulum/deps.Graph).Depth -/
abbrev deps_Graph_Depth_ins : Sh := ⟨[(.one (.ptr 0 0)), (.one (.val .str))], [(.obj 97 [(.map 1)]), (.map .str ty13 false)]⟩
abbrev deps_Graph_Depth_outs : List Sh := [⟨[(.one (.val (.int .i64)))], [(.obj 97 [(.map 1)]), (.map .str ty13 false)]⟩]
abbrev deps_Graph_Depth_l9_h : Sh := ⟨[(.one (.ptr 0 0)), (.one (.val .str)), (.one (.map 2)), (.one (.val .str)), (.one (.arr 3)), (.one (.val (.int .i64))), (.one (.val (.int .i64))), (.one (.val ty13)), (.one (.val (.int .i64))), (.one (.val (.int .i64)))], [(.obj 97 [(.map 1)]), (.map .str ty13 false), (.map .str (.int .i64) false), (.arr 9 .str)]⟩
abbrev deps_Graph_Depth_l9_o : List Out := [⟨(.exit 2), [0, 1, 7, 9, 21, 22, 23], ⟨[(.one (.ptr 0 0)), (.one (.val .str)), (.one (.map 2)), (.one (.val .str)), (.one (.arr 3)), (.one (.val (.int .i64))), (.one (.val (.int .i64)))], [(.obj 97 [(.map 1)]), (.map .str ty13 false), (.map .str (.int .i64) false), (.arr 9 .str)]⟩⟩]
def deps_Graph_Depth_l9 (n : Nat) : Nat → deps_Graph_Depth_l9_h.T → Option (OutT deps_Graph_Depth_l9_o)
  | 0, _ => none
  | k + 1, ((_, x1, _, x2, _, x3, x4, x5, x6, x7, _), ((_, _), m8, m9, l10, _)) =>
    if decide (x7 < x6) then
      if 0 ≤ x7 ∧ x7 < (x5.length : Int) then (
        let v11 : Int := (mfind (keyEq (.str : Ty)) x2 m9).getD 0
        let v12 : Int := (mfind (keyEq (.str : Ty)) (rdT (.str : Ty) x5 x7) m9).getD 0
        let v13 : Int := IntKind.i64.wrap (x7 + 1)
        deps_Graph_Depth_l9 n k (((), x1, (), x2, (), x3, x4, x5, x6, v13, ()), (((), ()), m8, mset (keyEq (.str : Ty)) x2 (mx v11 v12) m9, l10, ()))) else none
    else
      some (.inl (((), x1, (), x2, (), x3, x4, ()), (((), ()), m8, m9, l10, ())))
abbrev deps_Graph_Depth_l6_h : Sh := ⟨[(.one (.ptr 0 0)), (.one (.val .str)), (.one (.map 2)), (.one (.arr 3)), (.one (.val (.int .i64))), (.one (.val (.int .i64)))], [(.obj 97 [(.map 1)]), (.map .str ty13 false), (.map .str (.int .i64) false), (.arr 9 .str)]⟩
abbrev deps_Graph_Depth_l6_o : List Out := [⟨(.exit 0), [1, 7], ⟨[(.one (.val .str)), (.one (.map 2))], [(.obj 97 [(.map 1)]), (.map .str ty13 false), (.map .str (.int .i64) false)]⟩⟩]
def deps_Graph_Depth_l6 (n : Nat) : Nat → deps_Graph_Depth_l6_h.T → Option (OutT deps_Graph_Depth_l6_o)
  | 0, _ => none
  | k + 1, ((_, x1, _, _, x2, x3, _), ((_, _), m4, m5, l6, _)) =>
    if decide (x3 < x2) then
      if 0 ≤ x3 ∧ x3 < (l6.length : Int) then (
        let v7 : List ByteArray := (mfind (keyEq (.str : Ty)) (rdT (.str : Ty) l6 x3) m4).getD []
        match deps_Graph_Depth_l9 n n (((), x1, (), rdT (.str : Ty) l6 x3, (), x2, x3, v7, (v7.length : Int), 0, ()), (((), ()), m4, m5, l6, ())) with
        | some (.inl ((_, x8, _, x9, _, x10, x11, _), ((_, _), m12, m13, l14, _))) => (
          let v15 : Int := (mfind (keyEq (.str : Ty)) x9 m13).getD 0
          let v16 : Int := IntKind.i64.wrap (v15 + 1)
          let v17 : Int := IntKind.i64.wrap (x11 + 1)
          deps_Graph_Depth_l6 n k (((), x8, (), (), x10, v17, ()), (((), ()), m12, mset (keyEq (.str : Ty)) x9 v16 m13, l14, ())))
        | some (.inr (_)) => none
        | none => none) else none
    else
      some (.inl ((x1, (), ()), (((), ()), m4, m5, ())))
def deps_Graph_Depth : Nat → deps_Graph_Depth_ins.T → Option (OutsT deps_Graph_Depth_outs)
  | 0, _ => none
  | n + 1, ((_, x1, _), ((_, _), m2, _)) =>
    match deps_Graph_All n (((), x1, ()), (((), ()), m2, ())) with
    | some ((((_, _), (x3, _), _), _), ((_, _), m4, l5, _)) => (
      if !(errNil x3) then
        some ((0, ()), (((), ()), m4, ()))
      else
        match deps_Graph_Depth_l6 n n (((), x1, (), (), (l5.length : Int), 0, ()), (((), ()), m4, [], l5, ())) with
        | some (.inl ((x6, _, _), ((_, _), m7, m8, _))) => (
          let v9 : Int := (mfind (keyEq (.str : Ty)) x6 m8).getD 0
          some ((v9, ()), (((), ()), m7, ())))
        | some (.inr (_)) => none
        | none => none)
    | none => none
def deps_Graph_Depth_H (n : Nat) : Hints := ⟨[], fun _ => [], fun k => match k with | 9 => some ⟨[0, 1, 7, 9, 21, 22, 23, 32, 33, 34], deps_Graph_Depth_l9_h, deps_Graph_Depth_l9_o, deps_Graph_Depth_l9 n⟩ | 6 => some ⟨[0, 1, 7, 21, 22, 23], deps_Graph_Depth_l6_h, deps_Graph_Depth_l6_o, deps_Graph_Depth_l6 n⟩ | _ => none, fun _ => none, fun _ => none, fun _ => 0, fun _ => none⟩
def deps_Graph_Depth_O (n : Nat) : FuncId → List FSpec := asc [(23, ⟨deps_Graph_All_ins, deps_Graph_All_outs, deps_Graph_All n⟩)]
def b25 : Code := bodyOf Tryd.f25
theorem deps_Graph_Depth_l6_k0 (n : Nat) : LoopOk P CC (deps_Graph_Depth_O n) n 2 56 (deps_Graph_Depth_H n) ⟨[0, 1, 7, 21, 22, 23], deps_Graph_Depth_l6_h, deps_Graph_Depth_l6_o, deps_Graph_Depth_l6 n⟩ ((loopsOf b25).getD 0 .skip) := by
  refine ⟨fun _ => by kernel_rfl, ?_⟩
  rintro k ⟨⟨⟨⟩, x1, ⟨⟩, ⟨⟩, x2, x3, ⟨⟩⟩, ⟨⟨⟨⟩, ⟨⟩⟩, x4, x5, x6, ⟨⟩⟩⟩
  kernel_rfl
theorem deps_Graph_Depth_l9_k1 (n : Nat) : LoopOk P CC (deps_Graph_Depth_O n) n 2 56 (deps_Graph_Depth_H n) ⟨[0, 1, 7, 9, 21, 22, 23, 32, 33, 34], deps_Graph_Depth_l9_h, deps_Graph_Depth_l9_o, deps_Graph_Depth_l9 n⟩ ((loopsOf b25).getD 1 .skip) := by
  refine ⟨fun _ => by kernel_rfl, ?_⟩
  rintro k ⟨⟨⟨⟩, x1, ⟨⟩, x2, ⟨⟩, x3, x4, x5, x6, x7, ⟨⟩⟩, ⟨⟨⟨⟩, ⟨⟩⟩, x8, x9, x10, ⟨⟩⟩⟩
  kernel_rfl
theorem deps_Graph_Depth_ok {S : Nat → Addr} (ok : CfgOk P CC S) : ∀ n, SpecOk P CC S 25 ⟨deps_Graph_Depth_ins, deps_Graph_Depth_outs, deps_Graph_Depth n⟩ :=
  fn_all ok (O := deps_Graph_Depth_O) (H := deps_Graph_Depth_H) (fn := Tryd.f25) (body := b25) (by kernel_rfl) (by kernel_rfl) (by kernel_rfl) (by decide) (by kernel_rfl)
    (fun x => by kernel_rfl) (fun n => by
      rintro ⟨⟨⟨⟩, x1, ⟨⟩⟩, ⟨⟨⟨⟩, ⟨⟩⟩, x2, ⟨⟩⟩⟩
      kernel_rfl)
    (fun n => obl_of (by kernel_rfl) (by kernel_rfl) (ls (ls (lz) (by kernel_rfl) (by kernel_rfl) (deps_Graph_Depth_l6_k0 n)) (by kernel_rfl) (by kernel_rfl) (deps_Graph_Depth_l9_k1 n)) (cn (cn (cn (cn (cn (cn (cn (cn (cn (cn (cn (cn (cn (cn (cn (cn (cn (cn (cn (cz) (by kernel_rfl)) (by kernel_rfl)) (by kernel_rfl)) (by kernel_rfl)) (by kernel_rfl)) (by kernel_rfl)) (by kernel_rfl)) (by kernel_rfl)) (by kernel_rfl)) (by kernel_rfl)) (by kernel_rfl)) (by kernel_rfl)) (by kernel_rfl)) (by kernel_rfl)) (by kernel_rfl)) (by kernel_rfl)) (by kernel_rfl)) (by kernel_rfl)) (by kernel_rfl)) (hn fun _ => rfl))
    (fun n ih => asc_cons (deps_Graph_All_ok ok n) <| asc_nil)
/-! ### pendulum/pendulumlaw24.DepsSays -/
abbrev law24_DepsSays_ins : Sh := ⟨[(.one (.val ty22)), (.one (.val .str))], []⟩
abbrev law24_DepsSays_outs : List Sh := [⟨[(.one (.val .bool))], []⟩]
abbrev law24_DepsSays_l12_h : Sh := ⟨[(.one (.val ty22)), (.one (.val .str)), (.one (.ptr 0 0)), (.one (.val .err)), (.one (.ptr 1 0)), (.one (.val (.int .i64))), (.one (.val (.int .i64)))], [(.obj 97 [(.map 2)]), (.obj 29 [(.val (.int .i64)), (.val .bool), (.val .bool), (.val (.int .i64)), (.val (.int .i64))]), (.map .str ty13 false)]⟩
abbrev law24_DepsSays_l12_o : List Out := [⟨(.exit 2), [0, 1, 6, 7, 8, 9], ⟨[(.one (.val ty22)), (.one (.val .str)), (.one (.ptr 0 0)), (.one (.val .err)), (.one (.ptr 1 0)), (.one (.val (.int .i64)))], [(.obj 97 [(.map 2)]), (.obj 29 [(.val (.int .i64)), (.val .bool), (.val .bool), (.val (.int .i64)), (.val (.int .i64))]), (.map .str ty13 false)]⟩⟩]
def law24_DepsSays_l12 (n : Nat) : Nat → law24_DepsSays_l12_h.T → Option (OutT law24_DepsSays_l12_o)
  | 0, _ => none
  | k + 1, ((x1, x2, _, x3, _, x4, x5, _), ((_, _), (x6, x7, x8, x9, x10, _), m11, _)) =>
    if decide (x5 < x4) then
      if 0 ≤ x5 ∧ x5 < (x1.length : Int) then (
        if 0 ≤ x4 ∧ x4 < (x1.length : Int) then (
          if strEq ((rdT ty0 x1 x5).1) ((rdT ty0 x1 x4).1) then
            match ref_Placed n ((110, x4, ()), ()) with
            | some (((x12, x13, x14, x15, x16, _), _), _) => (
              let v17 : Int := IntKind.i64.wrap (x5 + 1)
              law24_DepsSays_l12 n k ((x1, x2, (), x3, (), x4, v17, ()), (((), ()), (x12, x13, x14, x15, x16, ()), m11, ())))
            | none => none
          else
            let v18 : Int := IntKind.i64.wrap (x5 + 1)
            law24_DepsSays_l12 n k ((x1, x2, (), x3, (), x4, v18, ()), (((), ()), (x6, x7, x8, x9, x10, ()), m11, ()))) else none) else none
    else
      some (.inl ((x1, x2, (), x3, (), x4, ()), (((), ()), (x6, x7, x8, x9, x10, ()), m11, ())))
abbrev law24_DepsSays_l9_h : Sh := ⟨[(.one (.val ty22)), (.one (.val .str)), (.one (.ptr 0 0)), (.one (.val .err)), (.one (.ptr 1 0)), (.one (.val (.int .i64)))], [(.obj 97 [(.map 2)]), (.obj 29 [(.val (.int .i64)), (.val .bool), (.val .bool), (.val (.int .i64)), (.val (.int .i64))]), (.map .str ty13 false)]⟩
abbrev law24_DepsSays_l9_o : List Out := [⟨(.exit 0), [0, 1, 6, 7, 8], ⟨[(.one (.val ty22)), (.one (.val .str)), (.one (.ptr 0 0)), (.one (.val .err)), (.one (.ptr 1 0))], [(.obj 97 [(.map 2)]), (.obj 29 [(.val (.int .i64)), (.val .bool), (.val .bool), (.val (.int .i64)), (.val (.int .i64))]), (.map .str ty13 false)]⟩⟩]
def law24_DepsSays_l9 (n : Nat) : Nat → law24_DepsSays_l9_h.T → Option (OutT law24_DepsSays_l9_o)
  | 0, _ => none
  | k + 1, ((x1, x2, _, x3, _, x4, _), ((_, _), (x5, x6, x7, x8, x9, _), m10, _)) =>
    if decide (x4 < (x1.length : Int)) then
      if x5 == 0 then
        match law24_DepsSays_l12 n n ((x1, x2, (), x3, (), x4, 0, ()), (((), ()), (x5, x6, x7, x8, x9, ()), m10, ())) with
        | some (.inl ((x11, x12, _, x13, _, x14, _), ((_, _), (x15, x16, x17, x18, x19, _), m20, _))) => (
          let v21 : Int := IntKind.i64.wrap (x14 + 1)
          law24_DepsSays_l9 n k ((x11, x12, (), x13, (), v21, ()), (((), ()), (x15, x16, x17, x18, x19, ()), m20, ())))
        | some (.inr (_)) => none
        | none => none
      else
        some (.inl ((x1, x2, (), x3, (), ()), (((), ()), (x5, x6, x7, x8, x9, ()), m10, ())))
    else
      some (.inl ((x1, x2, (), x3, (), ()), (((), ()), (x5, x6, x7, x8, x9, ()), m10, ())))
abbrev law24_DepsSays_l24_h : Sh := ⟨[(.one (.val ty22)), (.one (.val .str)), (.one (.ptr 0 0)), (.one (.arr 1)), (.one (.val ty13)), (.one (.arr 2)), (.one (.val (.int .i64)))], [(.obj 97 [(.map 3)]), (.arr 9 .str), (.arr 9 .str), (.map .str ty13 false)]⟩
abbrev law24_DepsSays_l24_o : List Out := [⟨(.exit 4), [0, 1, 6, 11, 12, 13], ⟨[(.one (.val ty22)), (.one (.val .str)), (.one (.ptr 0 0)), (.one (.arr 1)), (.one (.val ty13)), (.one (.arr 2))], [(.obj 97 [(.map 3)]), (.arr 9 .str), (.arr 9 .str), (.map .str ty13 false)]⟩⟩]
def law24_DepsSays_l24 (n : Nat) : Nat → law24_DepsSays_l24_h.T → Option (OutT law24_DepsSays_l24_o)
  | 0, _ => none
  | k + 1, ((x1, x2, _, _, x3, _, x4, _), ((_, _), l5, l6, m7, _)) =>
    if decide (x4 < (x1.length : Int)) then
      if 0 ≤ x4 ∧ x4 < (x1.length : Int) then (
        if (l5.length + ([(rdT ty0 x1 x4).1] : List (.str : Ty).T).length) * 16 ≤ 140737488355328 then (
          if 0 ≤ x4 ∧ x4 < (x1.length : Int) then (
            match ref10_Calls n ((((rdT ty0 x1 x4).1, ((rdT ty0 x1 x4).2).1, (((rdT ty0 x1 x4).2).2).1, ((((rdT ty0 x1 x4).2).2).2).1, ((((rdT ty0 x1 x4).2).2).2).2, ()), ()), ()) with
            | some ((x8, _), _) => (
              if 0 ≤ x4 ∧ x4 < (x1.length : Int) then (
                if strEq ((rdT ty0 x1 x4).1) x2 then
                  match ref_Among n ((x8, x2, ()), ()) with
                  | some ((x9, _), _) => (
                    if decide (x9 ≥ 0) then
                      if 0 ≤ x4 ∧ x4 < (x1.length : Int) then (
                        if (l6.length + ([(rdT ty0 x1 x4).1] : List (.str : Ty).T).length) * 16 ≤ 140737488355328 then (
                          let v11 : Int := IntKind.i64.wrap (x4 + 1)
                          law24_DepsSays_l24 n k ((x1, x2, (), (), x8, (), v11, ()), (((), ()), l5 ++ [(rdT ty0 x1 x4).1], l6 ++ [(rdT ty0 x1 x4).1], m7, ()))) else none) else none
                    else
                      let v12 : Int := IntKind.i64.wrap (x4 + 1)
                      law24_DepsSays_l24 n k ((x1, x2, (), (), x8, (), v12, ()), (((), ()), l5 ++ [(rdT ty0 x1 x4).1], l6, m7, ())))
                  | none => none
                else
                  match ref_Among n ((x8, x2, ()), ()) with
                  | some ((x10, _), _) => (
                    if decide (x10 ≥ 0) then
                      if 0 ≤ x4 ∧ x4 < (x1.length : Int) then (
                        if (l6.length + ([(rdT ty0 x1 x4).1] : List (.str : Ty).T).length) * 16 ≤ 140737488355328 then (
                          let v13 : Int := IntKind.i64.wrap (x4 + 1)
                          law24_DepsSays_l24 n k ((x1, x2, (), (), x3, (), v13, ()), (((), ()), l5 ++ [(rdT ty0 x1 x4).1], l6 ++ [(rdT ty0 x1 x4).1], m7, ()))) else none) else none
                    else
                      let v14 : Int := IntKind.i64.wrap (x4 + 1)
                      law24_DepsSays_l24 n k ((x1, x2, (), (), x3, (), v14, ()), (((), ()), l5 ++ [(rdT ty0 x1 x4).1], l6, m7, ())))
                  | none => none) else none)
            | none => none) else none) else none) else none
    else
      some (.inl ((x1, x2, (), (), x3, (), ()), (((), ()), l5, l6, m7, ())))
abbrev law24_DepsSays_c40_h : Sh := ⟨[(.one (.val ty22)), (.one (.val .str)), (.one (.ptr 0 0)), (.one (.arr 1)), (.one (.val .err)), (.one (.arr 2)), (.one (.val (.int .i64))), (.one (.emp true)), (.one (.val (.int .i64)))], [(.obj 97 [(.map 3)]), (.arr 9 .str), (.arr 9 .str), (.map .str ty13 false)]⟩
abbrev law24_DepsSays_c40_o : List Out := [⟨.normal, [0, 1, 6, 16, 17, 19, 20, 21], ⟨[(.one (.val ty22)), (.one (.val .str)), (.one (.ptr 0 0)), (.one (.arr 1)), (.one (.val .err)), (.one (.val (.int .i64))), (.one (.arr 2)), (.one (.val (.int .i64)))], [(.obj 97 [(.map 3)]), (.arr 9 .str), (.arr 9 .str), (.map .str ty13 false)]⟩⟩]
def law24_DepsSays_c40 (n : Nat) : law24_DepsSays_c40_h.T → Option (OutT law24_DepsSays_c40_o)
  | ((x1, x2, _, _, x3, _, x4, _, x5, _), ((_, _), l6, l7, m8, _)) =>
    if x4 == 0 then
      match ref16_Sorted n (((), x1, ()), (l7, ())) with
      | some ((((_, _), (x9, _), _), _), (l10, l11, _)) => (
        some (.inl ((x1, x2, (), (), x3, x9, (), x5, ()), (((), ()), l6, l11, m8, ()))))
      | none => none
    else
      some (.inl ((x1, x2, (), (), x3, x4, (), x5, ()), (((), ()), l6, [], m8, ())))
abbrev law24_DepsSays_c42_h : Sh := ⟨[(.one (.val ty22)), (.one (.val .str)), (.one (.ptr 0 0)), (.one (.arr 1)), (.one (.val .err)), (.one (.val (.int .i64))), (.one (.arr 2)), (.one (.val (.int .i64)))], [(.obj 97 [(.map 3)]), (.arr 9 .str), (.arr 9 .str), (.map .str ty13 false)]⟩
abbrev law24_DepsSays_c42_o : List Out := [⟨.normal, [1, 6, 16, 17, 19, 20, 21], ⟨[(.one (.val .str)), (.one (.ptr 0 0)), (.one (.arr 1)), (.one (.val .err)), (.one (.val (.int .i64))), (.one (.arr 2)), (.one (.val (.int .i64)))], [(.obj 97 [(.map 3)]), (.arr 9 .str), (.arr 9 .str), (.map .str ty13 false)]⟩⟩]
def law24_DepsSays_c42 (n : Nat) : law24_DepsSays_c42_h.T → Option (OutT law24_DepsSays_c42_o)
  | ((x1, x2, _, _, x3, x4, _, x5, _), ((_, _), l6, l7, m8, _)) =>
    if x4 == 0 then
      match ref16_Depth n ((x2, x1, ()), ()) with
      | some ((x9, _), _) => (
        some (.inl ((x2, (), (), x3, x4, (), x9, ()), (((), ()), l6, l7, m8, ()))))
      | none => none
    else
      some (.inl ((x2, (), (), x3, x4, (), x5, ()), (((), ()), l6, l7, m8, ())))
abbrev law24_DepsSays_l12b_h : Sh := ⟨[(.one (.val ty22)), (.one (.val .str)), (.one .nilp), (.one (.val .err)), (.one (.ptr 0 0)), (.one (.val (.int .i64))), (.one (.val (.int .i64)))], [(.obj 29 [(.val (.int .i64)), (.val .bool), (.val .bool), (.val (.int .i64)), (.val (.int .i64))])]⟩
abbrev law24_DepsSays_l12b_o : List Out := [⟨(.exit 2), [0, 1, 6, 7, 8, 9], ⟨[(.one (.val ty22)), (.one (.val .str)), (.one .nilp), (.one (.val .err)), (.one (.ptr 0 0)), (.one (.val (.int .i64)))], [(.obj 29 [(.val (.int .i64)), (.val .bool), (.val .bool), (.val (.int .i64)), (.val (.int .i64))])]⟩⟩]
def law24_DepsSays_l12b (n : Nat) : Nat → law24_DepsSays_l12b_h.T → Option (OutT law24_DepsSays_l12b_o)
  | 0, _ => none
  | k + 1, ((x1, x2, _, x3, _, x4, x5, _), ((x6, x7, x8, x9, x10, _), _)) =>
    if decide (x5 < x4) then
      if 0 ≤ x5 ∧ x5 < (x1.length : Int) then (
        if 0 ≤ x4 ∧ x4 < (x1.length : Int) then (
          if strEq ((rdT ty0 x1 x5).1) ((rdT ty0 x1 x4).1) then
            match ref_Placed n ((110, x4, ()), ()) with
            | some (((x11, x12, x13, x14, x15, _), _), _) => (
              let v16 : Int := IntKind.i64.wrap (x5 + 1)
              law24_DepsSays_l12b n k ((x1, x2, (), x3, (), x4, v16, ()), ((x11, x12, x13, x14, x15, ()), ())))
            | none => none
          else
            let v17 : Int := IntKind.i64.wrap (x5 + 1)
            law24_DepsSays_l12b n k ((x1, x2, (), x3, (), x4, v17, ()), ((x6, x7, x8, x9, x10, ()), ()))) else none) else none
    else
      some (.inl ((x1, x2, (), x3, (), x4, ()), ((x6, x7, x8, x9, x10, ()), ())))
abbrev law24_DepsSays_l9b_h : Sh := ⟨[(.one (.val ty22)), (.one (.val .str)), (.one .nilp), (.one (.val .err)), (.one (.ptr 0 0)), (.one (.val (.int .i64)))], [(.obj 29 [(.val (.int .i64)), (.val .bool), (.val .bool), (.val (.int .i64)), (.val (.int .i64))])]⟩
abbrev law24_DepsSays_l9b_o : List Out := [⟨(.exit 0), [0, 1, 6, 7, 8], ⟨[(.one (.val ty22)), (.one (.val .str)), (.one .nilp), (.one (.val .err)), (.one (.ptr 0 0))], [(.obj 29 [(.val (.int .i64)), (.val .bool), (.val .bool), (.val (.int .i64)), (.val (.int .i64))])]⟩⟩]
def law24_DepsSays_l9b (n : Nat) : Nat → law24_DepsSays_l9b_h.T → Option (OutT law24_DepsSays_l9b_o)
  | 0, _ => none
  | k + 1, ((x1, x2, _, x3, _, x4, _), ((x5, x6, x7, x8, x9, _), _)) =>
    if decide (x4 < (x1.length : Int)) then
      if x5 == 0 then
        match law24_DepsSays_l12b n n ((x1, x2, (), x3, (), x4, 0, ()), ((x5, x6, x7, x8, x9, ()), ())) with
        | some (.inl ((x10, x11, _, x12, _, x13, _), ((x14, x15, x16, x17, x18, _), _))) => (
          let v19 : Int := IntKind.i64.wrap (x13 + 1)
          law24_DepsSays_l9b n k ((x10, x11, (), x12, (), v19, ()), ((x14, x15, x16, x17, x18, ()), ())))
        | some (.inr (_)) => none
        | none => none
      else
        some (.inl ((x1, x2, (), x3, (), ()), ((x5, x6, x7, x8, x9, ()), ())))
    else
      some (.inl ((x1, x2, (), x3, (), ()), ((x5, x6, x7, x8, x9, ()), ())))
abbrev law24_DepsSays_l24b_h : Sh := ⟨[(.one (.val ty22)), (.one (.val .str)), (.one .nilp), (.one (.arr 0)), (.one (.val ty13)), (.one (.arr 1)), (.one (.val (.int .i64)))], [(.arr 9 .str), (.arr 9 .str)]⟩
abbrev law24_DepsSays_l24b_o : List Out := [⟨(.exit 4), [0, 1, 6, 11, 12, 13], ⟨[(.one (.val ty22)), (.one (.val .str)), (.one .nilp), (.one (.arr 0)), (.one (.val ty13)), (.one (.arr 1))], [(.arr 9 .str), (.arr 9 .str)]⟩⟩]
def law24_DepsSays_l24b (n : Nat) : Nat → law24_DepsSays_l24b_h.T → Option (OutT law24_DepsSays_l24b_o)
  | 0, _ => none
  | k + 1, ((x1, x2, _, _, x3, _, x4, _), (l5, l6, _)) =>
    if decide (x4 < (x1.length : Int)) then
      if 0 ≤ x4 ∧ x4 < (x1.length : Int) then (
        if (l5.length + ([(rdT ty0 x1 x4).1] : List (.str : Ty).T).length) * 16 ≤ 140737488355328 then (
          if 0 ≤ x4 ∧ x4 < (x1.length : Int) then (
            match ref10_Calls n ((((rdT ty0 x1 x4).1, ((rdT ty0 x1 x4).2).1, (((rdT ty0 x1 x4).2).2).1, ((((rdT ty0 x1 x4).2).2).2).1, ((((rdT ty0 x1 x4).2).2).2).2, ()), ()), ()) with
            | some ((x7, _), _) => (
              if 0 ≤ x4 ∧ x4 < (x1.length : Int) then (
                if strEq ((rdT ty0 x1 x4).1) x2 then
                  match ref_Among n ((x7, x2, ()), ()) with
                  | some ((x8, _), _) => (
                    if decide (x8 ≥ 0) then
                      if 0 ≤ x4 ∧ x4 < (x1.length : Int) then (
                        if (l6.length + ([(rdT ty0 x1 x4).1] : List (.str : Ty).T).length) * 16 ≤ 140737488355328 then (
                          let v10 : Int := IntKind.i64.wrap (x4 + 1)
                          law24_DepsSays_l24b n k ((x1, x2, (), (), x7, (), v10, ()), (l5 ++ [(rdT ty0 x1 x4).1], l6 ++ [(rdT ty0 x1 x4).1], ()))) else none) else none
                    else
                      let v11 : Int := IntKind.i64.wrap (x4 + 1)
                      law24_DepsSays_l24b n k ((x1, x2, (), (), x7, (), v11, ()), (l5 ++ [(rdT ty0 x1 x4).1], l6, ())))
                  | none => none
                else
                  match ref_Among n ((x7, x2, ()), ()) with
                  | some ((x9, _), _) => (
                    if decide (x9 ≥ 0) then
                      if 0 ≤ x4 ∧ x4 < (x1.length : Int) then (
                        if (l6.length + ([(rdT ty0 x1 x4).1] : List (.str : Ty).T).length) * 16 ≤ 140737488355328 then (
                          let v12 : Int := IntKind.i64.wrap (x4 + 1)
                          law24_DepsSays_l24b n k ((x1, x2, (), (), x3, (), v12, ()), (l5 ++ [(rdT ty0 x1 x4).1], l6 ++ [(rdT ty0 x1 x4).1], ()))) else none) else none
                    else
                      let v13 : Int := IntKind.i64.wrap (x4 + 1)
                      law24_DepsSays_l24b n k ((x1, x2, (), (), x3, (), v13, ()), (l5 ++ [(rdT ty0 x1 x4).1], l6, ())))
                  | none => none) else none)
            | none => none) else none) else none) else none
    else
      some (.inl ((x1, x2, (), (), x3, (), ()), (l5, l6, ())))
def law24_DepsSays : Nat → law24_DepsSays_ins.T → Option (OutsT law24_DepsSays_outs)
  | 0, _ => none
  | n + 1, ((x1, x2, _), _) =>
    match law24_first n ((), ()) with
    | some ((x3, _), _) => (
      if !x3 then
        some ((false, ()), ())
      else
        match world_Nodes n ((x1, 20, ()), ()) with
        | some ((x4, _), _) => (
          if !x4 then
            some ((x3, ()), ())
          else
            if decide ((x2.size : Int) > 60) then
              some ((x3, ()), ())
            else
              if !x3 then
                some ((x3, ()), ())
              else
                match deps_New_2 n ((x1, ()), ()) with
                | some (.inl ((((_, _), (x5, _), _), _), ((_, _), m6, _))) => (
                  match ref_None n ((), ()) with
                  | some (((x8, x9, x10, x11, x12, _), _), _) => (
                    match law24_DepsSays_l9 n n ((x1, x2, (), x5, (), 0, ()), (((), ()), (x8, x9, x10, x11, x12, ()), m6, ())) with
                    | some (.inl ((x13, x14, _, x15, _, _), ((_, _), (x16, x17, x18, x19, x20, _), m21, _))) => (
                      if decide ((x13.length : Int) > 16) then
                        match ref_Bare n ((103, ()), ()) with
                        | some (((x22, x23, x24, x25, x26, _), _), _) => (
                          match pendulumsee_Same n ((x15, (x22, x23, x24, x25, x26, ()), ()), ()) with
                          | some ((x27, _), _) => (
                            if !x27 then
                              some ((false, ()), ())
                            else
                              if x22 != 0 then
                                some ((false, ()), ())
                              else
                                match law24_DepsSays_l24 n n ((x13, x14, (), (), [], (), 0, ()), (((), ()), [], [], m21, ())) with
                                | some (.inl ((x28, x29, _, _, x30, _, _), ((_, _), l31, l32, m33, _))) => (
                                  match deps_Graph_Names n (((), ()), (((), ()), m33, ())) with
                                  | some ((_, _), ((_, _), m34, l35, _)) => (
                                    match ref_Rising n (((), ()), (l31, ())) with
                                    | some ((_, _), (l36, l37, _)) => (
                                      match ref_SameTexts n ((l35, l37, ()), ()) with
                                      | some ((x38, _), _) => (
                                        if !x38 then
                                          some ((false, ()), ())
                                        else
                                          match deps_Graph_Uses n (((), x29, ()), (((), ()), m34, ())) with
                                          | some ((_, _), ((_, _), m39, l40, _)) => (
                                            match ref_SameTexts n ((l40, x30, ()), ()) with
                                            | some ((x41, _), _) => (
                                              if !x41 then
                                                some ((false, ()), ())
                                              else
                                                match deps_Graph_Used n (((), x29, ()), (((), ()), m39, ())) with
                                                | some ((_, _), ((_, _), m42, l43, _)) => (
                                                  match ref_Rising n (((), ()), (l32, ())) with
                                                  | some ((_, _), (l44, l45, _)) => (
                                                    match ref_SameTexts n ((l43, l45, ()), ()) with
                                                    | some ((x46, _), _) => (
                                                      if !x46 then
                                                        some ((false, ()), ())
                                                      else
                                                        match deps_Graph_All n (((), x29, ()), (((), ()), m42, ())) with
                                                        | some ((((_, _), (x47, _), _), _), ((_, _), m48, l49, _)) => (
                                                          match ref16_Used n ((x29, x28, ()), ()) with
                                                          | some ((((_, _), (x50, _), _), _), (l51, _)) => (
                                                            match law24_DepsSays_c40 n ((x28, x29, (), (), x47, (), x50, (), 0, ()), (((), ()), l49, l51, m48, ())) with
                                                            | some (.inl ((x52, x53, _, _, x54, x55, _, x56, _), ((_, _), l57, l58, m59, _))) => (
                                                              match law24_DepsSays_c42 n ((x52, x53, (), (), x54, x55, (), x56, ()), (((), ()), l57, l58, m59, ())) with
                                                              | some (.inl ((x60, _, _, x61, x62, _, x63, _), ((_, _), l64, l65, m66, _))) => (
                                                                match ref_SameTexts n ((l64, l65, ()), ()) with
                                                                | some ((x67, _), _) => (
                                                                  if x67 then
                                                                    match pendulumsee_Is n ((x61, x62, ()), ()) with
                                                                    | some ((x68, _), _) => (
                                                                      if x68 then
                                                                        match deps_Graph_Depth n (((), x60, ()), (((), ()), m66, ())) with
                                                                        | some ((x69, _), ((_, _), m70, _)) => (
                                                                          some ((x69 == x63, ()), ()))
                                                                        | none => none
                                                                      else
                                                                        some ((false, ()), ()))
                                                                    | none => none
                                                                  else
                                                                    some ((false, ()), ()))
                                                                | none => none)
                                                              | some (.inr (_)) => none
                                                              | none => none)
                                                            | some (.inr (_)) => none
                                                            | none => none)
                                                          | none => none)
                                                        | none => none)
                                                    | none => none)
                                                  | none => none)
                                                | none => none)
                                            | none => none)
                                          | none => none)
                                      | none => none)
                                    | none => none)
                                  | none => none)
                                | some (.inr (_)) => none
                                | none => none)
                          | none => none)
                        | none => none
                      else
                        match pendulumsee_Same n ((x15, (x16, x17, x18, x19, x20, ()), ()), ()) with
                        | some ((x71, _), _) => (
                          if !x71 then
                            some ((false, ()), ())
                          else
                            if x16 != 0 then
                              some ((false, ()), ())
                            else
                              match law24_DepsSays_l24 n n ((x13, x14, (), (), [], (), 0, ()), (((), ()), [], [], m21, ())) with
                              | some (.inl ((x72, x73, _, _, x74, _, _), ((_, _), l75, l76, m77, _))) => (
                                match deps_Graph_Names n (((), ()), (((), ()), m77, ())) with
                                | some ((_, _), ((_, _), m78, l79, _)) => (
                                  match ref_Rising n (((), ()), (l75, ())) with
                                  | some ((_, _), (l80, l81, _)) => (
                                    match ref_SameTexts n ((l79, l81, ()), ()) with
                                    | some ((x82, _), _) => (
                                      if !x82 then
                                        some ((false, ()), ())
                                      else
                                        match deps_Graph_Uses n (((), x73, ()), (((), ()), m78, ())) with
                                        | some ((_, _), ((_, _), m83, l84, _)) => (
                                          match ref_SameTexts n ((l84, x74, ()), ()) with
                                          | some ((x85, _), _) => (
                                            if !x85 then
                                              some ((false, ()), ())
                                            else
                                              match deps_Graph_Used n (((), x73, ()), (((), ()), m83, ())) with
                                              | some ((_, _), ((_, _), m86, l87, _)) => (
                                                match ref_Rising n (((), ()), (l76, ())) with
                                                | some ((_, _), (l88, l89, _)) => (
                                                  match ref_SameTexts n ((l87, l89, ()), ()) with
                                                  | some ((x90, _), _) => (
                                                    if !x90 then
                                                      some ((false, ()), ())
                                                    else
                                                      match deps_Graph_All n (((), x73, ()), (((), ()), m86, ())) with
                                                      | some ((((_, _), (x91, _), _), _), ((_, _), m92, l93, _)) => (
                                                        match ref16_Used n ((x73, x72, ()), ()) with
                                                        | some ((((_, _), (x94, _), _), _), (l95, _)) => (
                                                          match law24_DepsSays_c40 n ((x72, x73, (), (), x91, (), x94, (), 0, ()), (((), ()), l93, l95, m92, ())) with
                                                          | some (.inl ((x96, x97, _, _, x98, x99, _, x100, _), ((_, _), l101, l102, m103, _))) => (
                                                            match law24_DepsSays_c42 n ((x96, x97, (), (), x98, x99, (), x100, ()), (((), ()), l101, l102, m103, ())) with
                                                            | some (.inl ((x104, _, _, x105, x106, _, x107, _), ((_, _), l108, l109, m110, _))) => (
                                                              match ref_SameTexts n ((l108, l109, ()), ()) with
                                                              | some ((x111, _), _) => (
                                                                if x111 then
                                                                  match pendulumsee_Is n ((x105, x106, ()), ()) with
                                                                  | some ((x112, _), _) => (
                                                                    if x112 then
                                                                      match deps_Graph_Depth n (((), x104, ()), (((), ()), m110, ())) with
                                                                      | some ((x113, _), ((_, _), m114, _)) => (
                                                                        some ((x113 == x107, ()), ()))
                                                                      | none => none
                                                                    else
                                                                      some ((false, ()), ()))
                                                                  | none => none
                                                                else
                                                                  some ((false, ()), ()))
                                                              | none => none)
                                                            | some (.inr (_)) => none
                                                            | none => none)
                                                          | some (.inr (_)) => none
                                                          | none => none)
                                                        | none => none)
                                                      | none => none)
                                                  | none => none)
                                                | none => none)
                                              | none => none)
                                          | none => none)
                                        | none => none)
                                    | none => none)
                                  | none => none)
                                | none => none)
                              | some (.inr (_)) => none
                              | none => none)
                        | none => none)
                    | some (.inr (_)) => none
                    | none => none)
                  | none => none)
                | some (.inr (((((_, _), (x7, _), _), _), _))) => (
                  match ref_None n ((), ()) with
                  | some (((x115, x116, x117, x118, x119, _), _), _) => (
                    match law24_DepsSays_l9b n n ((x1, x2, (), x7, (), 0, ()), ((x115, x116, x117, x118, x119, ()), ())) with
                    | some (.inl ((x120, x121, _, x122, _, _), ((x123, x124, x125, x126, x127, _), _))) => (
                      if decide ((x120.length : Int) > 16) then
                        match ref_Bare n ((103, ()), ()) with
                        | some (((x128, x129, x130, x131, x132, _), _), _) => (
                          match pendulumsee_Same n ((x122, (x128, x129, x130, x131, x132, ()), ()), ()) with
                          | some ((x133, _), _) => (
                            if !x133 then
                              some ((false, ()), ())
                            else
                              if x128 != 0 then
                                some ((true, ()), ())
                              else
                                match law24_DepsSays_l24b n n ((x120, x121, (), (), [], (), 0, ()), ([], [], ())) with
                                | some (.inl ((x134, x135, _, _, x136, _, _), (l137, l138, _))) => (
                                  none)
                                | some (.inr (_)) => none
                                | none => none)
                          | none => none)
                        | none => none
                      else
                        match pendulumsee_Same n ((x122, (x123, x124, x125, x126, x127, ()), ()), ()) with
                        | some ((x139, _), _) => (
                          if !x139 then
                            some ((false, ()), ())
                          else
                            if x123 != 0 then
                              some ((true, ()), ())
                            else
                              match law24_DepsSays_l24b n n ((x120, x121, (), (), [], (), 0, ()), ([], [], ())) with
                              | some (.inl ((x140, x141, _, _, x142, _, _), (l143, l144, _))) => (
                                none)
                              | some (.inr (_)) => none
                              | none => none)
                        | none => none)
                    | some (.inr (_)) => none
                    | none => none)
                  | none => none)
                | none => none)
        | none => none)
    | none => none
def law24_DepsSays_H (n : Nat) : Hints := ⟨[], fun _ => [], fun k => match k with | 12 => some ⟨[0, 1, 6, 7, 8, 9, 10], law24_DepsSays_l12_h, law24_DepsSays_l12_o, law24_DepsSays_l12 n⟩ | 9 => some ⟨[0, 1, 6, 7, 8, 9], law24_DepsSays_l9_h, law24_DepsSays_l9_o, law24_DepsSays_l9 n⟩ | 24 => some ⟨[0, 1, 6, 11, 12, 13, 14], law24_DepsSays_l24_h, law24_DepsSays_l24_o, law24_DepsSays_l24 n⟩ | _ => none, fun k => match k with | 40 => some ⟨[0, 1, 6, 16, 17, 18, 19, 20, 21], law24_DepsSays_c40_h, law24_DepsSays_c40_o, fun n => law24_DepsSays_c40 n⟩ | 42 => some ⟨[0, 1, 6, 16, 17, 19, 20, 21], law24_DepsSays_c42_h, law24_DepsSays_c42_o, fun n => law24_DepsSays_c42 n⟩ | _ => none, fun _ => none, fun _ => 0, fun k => match k with | 12 => some ⟨[0, 1, 6, 7, 8, 9, 10], law24_DepsSays_l12b_h, law24_DepsSays_l12b_o, law24_DepsSays_l12b n⟩ | 9 => some ⟨[0, 1, 6, 7, 8, 9], law24_DepsSays_l9b_h, law24_DepsSays_l9b_o, law24_DepsSays_l9b n⟩ | 24 => some ⟨[0, 1, 6, 11, 12, 13, 14], law24_DepsSays_l24b_h, law24_DepsSays_l24b_o, law24_DepsSays_l24b n⟩ | _ => none⟩
def law24_DepsSays_O (n : Nat) : FuncId → List FSpec := asc [(19, ⟨law24_first_ins, law24_first_outs, law24_first n⟩), (20, ⟨world_Nodes_ins, world_Nodes_outs, world_Nodes n⟩), (21, ⟨deps_New_2_ins, deps_New_2_outs, deps_New_2 n⟩), (23, ⟨deps_Graph_All_ins, deps_Graph_All_outs, deps_Graph_All n⟩), (24, ⟨ref_SameTexts_ins, ref_SameTexts_outs, ref_SameTexts n⟩), (25, ⟨deps_Graph_Depth_ins, deps_Graph_Depth_outs, deps_Graph_Depth n⟩), (26, ⟨deps_Graph_Names_ins, deps_Graph_Names_outs, deps_Graph_Names n⟩), (27, ⟨deps_Graph_Used_ins, deps_Graph_Used_outs, deps_Graph_Used n⟩), (28, ⟨ref_None_ins, ref_None_outs, ref_None n⟩), (29, ⟨ref_Placed_ins, ref_Placed_outs, ref_Placed n⟩), (30, ⟨ref_Bare_ins, ref_Bare_outs, ref_Bare n⟩), (31, ⟨pendulumsee_Same_ins, pendulumsee_Same_outs, pendulumsee_Same n⟩), (32, ⟨ref10_Calls_ins, ref10_Calls_outs, ref10_Calls n⟩), (33, ⟨ref_Among_ins, ref_Among_outs, ref_Among n⟩), (34, ⟨ref_Rising_ins, ref_Rising_outs, ref_Rising n⟩), (35, ⟨deps_Graph_Uses_ins, deps_Graph_Uses_outs, deps_Graph_Uses n⟩), (36, ⟨ref16_Used_ins, ref16_Used_outs, ref16_Used n⟩), (37, ⟨ref16_Sorted_ins, ref16_Sorted_outs, ref16_Sorted n⟩), (38, ⟨ref16_Depth_ins, ref16_Depth_outs, ref16_Depth n⟩), (39, ⟨pendulumsee_Is_ins, pendulumsee_Is_outs, pendulumsee_Is n⟩)]
def b5 : Code := bodyOf Tryd.f5
theorem law24_DepsSays_l9_k0 (n : Nat) : LoopOk P CC (law24_DepsSays_O n) n 0 188 (law24_DepsSays_H n) ⟨[0, 1, 6, 7, 8, 9], law24_DepsSays_l9_h, law24_DepsSays_l9_o, law24_DepsSays_l9 n⟩ ((loopsOf b5).getD 0 .skip) := by
  refine ⟨fun _ => by kernel_rfl, ?_⟩
  rintro k ⟨⟨x1, x2, ⟨⟩, x3, ⟨⟩, x4, ⟨⟩⟩, ⟨⟨⟨⟩, ⟨⟩⟩, ⟨x5, x6, x7, x8, x9, ⟨⟩⟩, x10, ⟨⟩⟩⟩
  kernel_rfl
theorem law24_DepsSays_l9b_k0 (n : Nat) : LoopOk P CC (law24_DepsSays_O n) n 0 188 (law24_DepsSays_H n) ⟨[0, 1, 6, 7, 8, 9], law24_DepsSays_l9b_h, law24_DepsSays_l9b_o, law24_DepsSays_l9b n⟩ ((loopsOf b5).getD 0 .skip) := by
  refine ⟨fun _ => by kernel_rfl, ?_⟩
  rintro k ⟨⟨x1, x2, ⟨⟩, x3, ⟨⟩, x4, ⟨⟩⟩, ⟨⟨x5, x6, x7, x8, x9, ⟨⟩⟩, ⟨⟩⟩⟩
  kernel_rfl
theorem law24_DepsSays_l12_k1 (n : Nat) : LoopOk P CC (law24_DepsSays_O n) n 0 188 (law24_DepsSays_H n) ⟨[0, 1, 6, 7, 8, 9, 10], law24_DepsSays_l12_h, law24_DepsSays_l12_o, law24_DepsSays_l12 n⟩ ((loopsOf b5).getD 1 .skip) := by
  refine ⟨fun _ => by kernel_rfl, ?_⟩
  rintro k ⟨⟨x1, x2, ⟨⟩, x3, ⟨⟩, x4, x5, ⟨⟩⟩, ⟨⟨⟨⟩, ⟨⟩⟩, ⟨x6, x7, x8, x9, x10, ⟨⟩⟩, x11, ⟨⟩⟩⟩
  kernel_rfl
theorem law24_DepsSays_l12b_k1 (n : Nat) : LoopOk P CC (law24_DepsSays_O n) n 0 188 (law24_DepsSays_H n) ⟨[0, 1, 6, 7, 8, 9, 10], law24_DepsSays_l12b_h, law24_DepsSays_l12b_o, law24_DepsSays_l12b n⟩ ((loopsOf b5).getD 1 .skip) := by
  refine ⟨fun _ => by kernel_rfl, ?_⟩
  rintro k ⟨⟨x1, x2, ⟨⟩, x3, ⟨⟩, x4, x5, ⟨⟩⟩, ⟨⟨x6, x7, x8, x9, x10, ⟨⟩⟩, ⟨⟩⟩⟩
  kernel_rfl
theorem law24_DepsSays_l24_k2 (n : Nat) : LoopOk P CC (law24_DepsSays_O n) n 0 188 (law24_DepsSays_H n) ⟨[0, 1, 6, 11, 12, 13, 14], law24_DepsSays_l24_h, law24_DepsSays_l24_o, law24_DepsSays_l24 n⟩ ((loopsOf b5).getD 2 .skip) := by
  refine ⟨fun _ => by kernel_rfl, ?_⟩
  rintro k ⟨⟨x1, x2, ⟨⟩, ⟨⟩, x3, ⟨⟩, x4, ⟨⟩⟩, ⟨⟨⟨⟩, ⟨⟩⟩, x5, x6, x7, ⟨⟩⟩⟩
  kernel_rfl
theorem law24_DepsSays_l24b_k2 (n : Nat) : LoopOk P CC (law24_DepsSays_O n) n 0 188 (law24_DepsSays_H n) ⟨[0, 1, 6, 11, 12, 13, 14], law24_DepsSays_l24b_h, law24_DepsSays_l24b_o, law24_DepsSays_l24b n⟩ ((loopsOf b5).getD 2 .skip) := by
  refine ⟨fun _ => by kernel_rfl, ?_⟩
  rintro k ⟨⟨x1, x2, ⟨⟩, ⟨⟩, x3, ⟨⟩, x4, ⟨⟩⟩, ⟨x5, x6, ⟨⟩⟩⟩
  kernel_rfl
theorem law24_DepsSays_c40_k46 (n : Nat) : CutOk P CC (law24_DepsSays_O n) n 0 188 (law24_DepsSays_H n) ⟨[0, 1, 6, 16, 17, 18, 19, 20, 21], law24_DepsSays_c40_h, law24_DepsSays_c40_o, fun n => law24_DepsSays_c40 n⟩ ((cutsOf b5).getD 46 (0, .skip)).2 := by
  rintro ⟨⟨x1, x2, ⟨⟩, ⟨⟩, x3, ⟨⟩, x4, ⟨⟩, x5, ⟨⟩⟩, ⟨⟨⟨⟩, ⟨⟩⟩, x6, x7, x8, ⟨⟩⟩⟩
  kernel_rfl
theorem law24_DepsSays_c42_k48 (n : Nat) : CutOk P CC (law24_DepsSays_O n) n 0 188 (law24_DepsSays_H n) ⟨[0, 1, 6, 16, 17, 19, 20, 21], law24_DepsSays_c42_h, law24_DepsSays_c42_o, fun n => law24_DepsSays_c42 n⟩ ((cutsOf b5).getD 48 (0, .skip)).2 := by
  rintro ⟨⟨x1, x2, ⟨⟩, ⟨⟩, x3, x4, ⟨⟩, x5, ⟨⟩⟩, ⟨⟨⟨⟩, ⟨⟩⟩, x6, x7, x8, ⟨⟩⟩⟩
  kernel_rfl
theorem law24_DepsSays_ok {S : Nat → Addr} (ok : CfgOk P CC S) : ∀ n, SpecOk P CC S 5 ⟨law24_DepsSays_ins, law24_DepsSays_outs, law24_DepsSays n⟩ :=
  fn_all ok (O := law24_DepsSays_O) (H := law24_DepsSays_H) (fn := Tryd.f5) (body := b5) (by kernel_rfl) (by kernel_rfl) (by kernel_rfl) (by decide) (by kernel_rfl)
    (fun x => by kernel_rfl) (fun n => by
      rintro ⟨⟨x1, x2, ⟨⟩⟩, ⟨⟩⟩
      kernel_rfl)
    (fun n => obl_of (by kernel_rfl) (by kernel_rfl) (ls2 (ls2 (ls2 (lz) (by kernel_rfl) (by kernel_rfl) (law24_DepsSays_l9_k0 n) (law24_DepsSays_l9b_k0 n)) (by kernel_rfl) (by kernel_rfl) (law24_DepsSays_l12_k1 n) (law24_DepsSays_l12b_k1 n)) (by kernel_rfl) (by kernel_rfl) (law24_DepsSays_l24_k2 n) (law24_DepsSays_l24b_k2 n)) (cn (cn (cs (cn (cs (cn (cn (cn (cn (cn (cn (cn (cn (cn (cn (cn (cn (cn (cn (cn (cn (cn (cn (cn (cn (cn (cn (cn (cn (cn (cn (cn (cn (cn (cn (cn (cn (cn (cn (cn (cn (cn (cn (cn (cn (cn (cn (cn (cn (cn (cn (cz) (by kernel_rfl)) (by kernel_rfl)) (by kernel_rfl)) (by kernel_rfl)) (by kernel_rfl)) (by kernel_rfl)) (by kernel_rfl)) (by kernel_rfl)) (by kernel_rfl)) (by kernel_rfl)) (by kernel_rfl)) (by kernel_rfl)) (by kernel_rfl)) (by kernel_rfl)) (by kernel_rfl)) (by kernel_rfl)) (by kernel_rfl)) (by kernel_rfl)) (by kernel_rfl)) (by kernel_rfl)) (by kernel_rfl)) (by kernel_rfl)) (by kernel_rfl)) (by kernel_rfl)) (by kernel_rfl)) (by kernel_rfl)) (by kernel_rfl)) (by kernel_rfl)) (by kernel_rfl)) (by kernel_rfl)) (by kernel_rfl)) (by kernel_rfl)) (by kernel_rfl)) (by kernel_rfl)) (by kernel_rfl)) (by kernel_rfl)) (by kernel_rfl)) (by kernel_rfl)) (by kernel_rfl)) (by kernel_rfl)) (by kernel_rfl)) (by kernel_rfl)) (by kernel_rfl)) (by kernel_rfl)) (by kernel_rfl)) (by kernel_rfl)) (by kernel_rfl) (law24_DepsSays_c40_k46 n)) (by kernel_rfl)) (by kernel_rfl) (law24_DepsSays_c42_k48 n)) (by kernel_rfl)) (by kernel_rfl)) (hn fun _ => rfl))
    (fun n ih => asc_cons (law24_first_ok ok n) <| asc_cons (world_Nodes_ok ok n) <| asc_cons (deps_New_2_ok ok n) <| asc_cons (deps_Graph_All_ok ok n) <| asc_cons (ref_SameTexts_ok ok n) <| asc_cons (deps_Graph_Depth_ok ok n) <| asc_cons (deps_Graph_Names_ok ok n) <| asc_cons (deps_Graph_Used_ok ok n) <| asc_cons (ref_None_ok ok n) <| asc_cons (ref_Placed_ok ok n) <| asc_cons (ref_Bare_ok ok n) <| asc_cons (pendulumsee_Same_ok ok n) <| asc_cons (ref10_Calls_ok ok n) <| asc_cons (ref_Among_ok ok n) <| asc_cons (ref_Rising_ok ok n) <| asc_cons (deps_Graph_Uses_ok ok n) <| asc_cons (ref16_Used_ok ok n) <| asc_cons (ref16_Sorted_ok ok n) <| asc_cons (ref16_Depth_ok ok n) <| asc_cons (pendulumsee_Is_ok ok n) <| asc_nil)
end
end Go.Proofs.YtnajjhjbkanigaaDoor.Cm

/- Printed by cmtext.py: the code as plain functions. -/
import Derived.Test.YtgdolcaijbkaeaaDoorCmFo
import Derived.Test.YtgdolcaijbkaeaaDoorShelf
import Derived.Test.YtgdolcaijbkaeaaDoorCmFs
namespace Go.Proofs.YtgdolcaijbkaeaaDoor.Cm
open Go
noncomputable section
set_option linter.unusedVariables false
set_option maxRecDepth 100000
abbrev P := Tryd.prog
abbrev CC : Cfg := ⟨114, 62, 65, [(110, 1), (113, 0)], [], [], []⟩
abbrev ty1 : Ty := (.slice 9 .str)
abbrev ty8 : Ty := (.pair (.int .i64) (.int .i64))
abbrev ty7 : Ty := (.pair .str ty8)
abbrev ty6 : Ty := (.slice 49 ty7)
abbrev ty11 : Ty := (.pair .str .bool)
abbrev ty10 : Ty := (.slice 53 ty11)
abbrev ty13 : Ty := (.pair .str .str)
abbrev ty12 : Ty := (.pair .str ty13)
abbrev ty9 : Ty := (.pair ty10 ty12)
abbrev ty5 : Ty := (.pair ty6 ty9)
abbrev ty4 : Ty := (.pair (.int .i64) ty5)
abbrev ty3 : Ty := (.pair .str ty4)
abbrev ty2 : Ty := (.pair (.int .i64) ty3)
abbrev ty0 : Ty := (.pair ty1 ty2)
abbrev ty14 : Ty := (.slice 4 .bool)
abbrev ty15 : Ty := (.slice 38 ty0)
abbrev ty16 : Ty := (.slice 3 (.int .i64))
/-! ### pendulum/sched.givers -/
abbrev sched_givers_ins : Sh := ⟨[(.one (.arr 0))], [(.arr 38 ty0)]⟩
abbrev sched_givers_outs : List Sh := [⟨[(.tup [(false, [(.map 1)]), (false, [(.val .err)])])], [(.arr 38 ty0), (.map .str (.int .i64) false)]⟩, ⟨[(.tup [(false, [.nilmap]), (false, [(.val .err)])])], [(.arr 38 ty0)]⟩]
abbrev sched_givers_l6_h : Sh := ⟨[(.one (.map 1)), (.one (.val (.int .i64))), (.one (.arr 0)), (.one (.val (.int .i64))), (.one (.val (.int .i64))), (.one (.val ty1)), (.one (.val (.int .i64))), (.one (.val (.int .i64)))], [(.arr 38 ty0), (.map .str (.int .i64) false)]⟩
abbrev sched_givers_l6_o : List Out := [⟨(.exit 2), [4, 12, 13, 14], ⟨[(.one (.map 1)), (.one (.arr 0)), (.one (.val (.int .i64))), (.one (.val (.int .i64)))], [(.arr 38 ty0), (.map .str (.int .i64) false)]⟩⟩, ⟨.ret, [2, 3], ⟨[(.one .nilmap), (.one (.val .err))], [(.arr 38 ty0)]⟩⟩]
def sched_givers_l6 (n : Nat) : Nat → sched_givers_l6_h.T → Option (OutT sched_givers_l6_o)
  | 0, _ => none
  | k + 1, ((_, x1, _, x2, x3, x4, x5, x6, _), (l7, m8, _)) =>
    if decide (x6 < x5) then
      if 0 ≤ x6 ∧ x6 < (x4.length : Int) then (
        let v9 : Int := (mfind (keyEq (.str : Ty)) (rdT (.str : Ty) x4 x6) m8).getD 0
        if (mfind (keyEq (.str : Ty)) (rdT (.str : Ty) x4 x6) m8).isSome then
          if v9 != x1 then
            some (.inr (.inl (((), ErrV.at_ x1 (ErrV.sent 110), ()), (l7, ()))))
          else
            let v10 : Int := IntKind.i64.wrap (x6 + 1)
            sched_givers_l6 n k (((), x1, (), x2, x3, x4, x5, v10, ()), (l7, mset (keyEq (.str : Ty)) (rdT (.str : Ty) x4 x6) x1 m8, ()))
        else
          let v11 : Int := IntKind.i64.wrap (x6 + 1)
          sched_givers_l6 n k (((), x1, (), x2, x3, x4, x5, v11, ()), (l7, mset (keyEq (.str : Ty)) (rdT (.str : Ty) x4 x6) x1 m8, ()))) else none
    else
      some (.inl (((), (), x2, x3, ()), (l7, m8, ())))
abbrev sched_givers_l3_h : Sh := ⟨[(.one (.map 1)), (.one (.arr 0)), (.one (.val (.int .i64))), (.one (.val (.int .i64)))], [(.arr 38 ty0), (.map .str (.int .i64) false)]⟩
abbrev sched_givers_l3_o : List Out := [⟨(.exit 0), [4], ⟨[(.one (.map 1))], [(.arr 38 ty0), (.map .str (.int .i64) false)]⟩⟩, ⟨.ret, [2, 3], ⟨[(.one .nilmap), (.one (.val .err))], [(.arr 38 ty0)]⟩⟩]
def sched_givers_l3 (n : Nat) : Nat → sched_givers_l3_h.T → Option (OutT sched_givers_l3_o)
  | 0, _ => none
  | k + 1, ((_, _, x1, x2, _), (l3, m4, _)) =>
    if decide (x2 < x1) then
      if 0 ≤ x2 ∧ x2 < (l3.length : Int) then (
        match sched_givers_l6 n n (((), x2, (), x1, x2, (rdT ty0 l3 x2).1, (((rdT ty0 l3 x2).1).length : Int), 0, ()), (l3, m4, ())) with
        | some (.inl ((_, _, x5, x6, _), (l7, m8, _))) => (
          let v11 : Int := IntKind.i64.wrap (x6 + 1)
          sched_givers_l3 n k (((), (), x5, v11, ()), (l7, m8, ())))
        | some (.inr (.inl ((_, x9, _), (l10, _)))) => (
          some (.inr (.inl (((), x9, ()), (l10, ())))))
        | some (.inr (.inr (_))) => none
        | none => none) else none
    else
      some (.inl (((), ()), (l3, m4, ())))
def sched_givers : Nat → sched_givers_ins.T → Option (OutsT sched_givers_outs)
  | 0, _ => none
  | n + 1, ((_, _), (l1, _)) =>
    match sched_givers_l3 n n (((), (), (l1.length : Int), 0, ()), (l1, [], ())) with
    | some (.inl ((_, _), (l2, m3, _))) => (
      some (.inl (((((), ()), (ErrV.nil, ()), ()), ()), (l2, m3, ()))))
    | some (.inr (.inl ((_, x4, _), (l5, _)))) => (
      some (.inr ((((((), ()), (x4, ()), ()), ()), (l5, ())))))
    | some (.inr (.inr (_))) => none
    | none => none
def sched_givers_H (n : Nat) : Hints := ⟨[], fun _ => [], fun k => match k with | 6 => some ⟨[4, 5, 12, 13, 14, 20, 21, 22], sched_givers_l6_h, sched_givers_l6_o, sched_givers_l6 n⟩ | 3 => some ⟨[4, 12, 13, 14], sched_givers_l3_h, sched_givers_l3_o, sched_givers_l3 n⟩ | _ => none, fun _ => none, fun _ => none⟩
def sched_givers_O (n : Nat) : FuncId → List FSpec := asc []
def b19 : Code := bodyOf Tryd.f19
theorem sched_givers_l3_k0 (n : Nat) : LoopOk P CC (sched_givers_O n) n 1 49 (sched_givers_H n) ⟨[4, 12, 13, 14], sched_givers_l3_h, sched_givers_l3_o, sched_givers_l3 n⟩ ((loopsOf b19).getD 0 .skip) := by
  refine ⟨fun _ => by kernel_rfl, ?_⟩
  rintro k ⟨⟨⟨⟩, ⟨⟩, x1, x2, ⟨⟩⟩, ⟨x3, x4, ⟨⟩⟩⟩
  kernel_rfl
theorem sched_givers_l6_k1 (n : Nat) : LoopOk P CC (sched_givers_O n) n 1 49 (sched_givers_H n) ⟨[4, 5, 12, 13, 14, 20, 21, 22], sched_givers_l6_h, sched_givers_l6_o, sched_givers_l6 n⟩ ((loopsOf b19).getD 1 .skip) := by
  refine ⟨fun _ => by kernel_rfl, ?_⟩
  rintro k ⟨⟨⟨⟩, x1, ⟨⟩, x2, x3, x4, x5, x6, ⟨⟩⟩, ⟨x7, x8, ⟨⟩⟩⟩
  kernel_rfl
theorem sched_givers_ok {S : Nat → Addr} (ok : CfgOk P CC S) : ∀ n, SpecOk P CC S 19 ⟨sched_givers_ins, sched_givers_outs, sched_givers n⟩ :=
  fn_all ok (O := sched_givers_O) (H := sched_givers_H) (fn := Tryd.f19) (body := b19) (by kernel_rfl) (by kernel_rfl) (by kernel_rfl) (by decide) (by kernel_rfl)
    (fun x => by kernel_rfl) (fun n => by
      rintro ⟨⟨⟨⟩, ⟨⟩⟩, ⟨x1, ⟨⟩⟩⟩
      kernel_rfl)
    (fun n => obl_of (by kernel_rfl) (by kernel_rfl) (ls (ls (lz) (by kernel_rfl) (sched_givers_l3_k0 n)) (by kernel_rfl) (sched_givers_l6_k1 n)) (cn (cn (cn (cn (cn (cn (cn (cn (cn (cn (cn (cn (cn (cn (cn (cn (cn (cn (cz) (by kernel_rfl)) (by kernel_rfl)) (by kernel_rfl)) (by kernel_rfl)) (by kernel_rfl)) (by kernel_rfl)) (by kernel_rfl)) (by kernel_rfl)) (by kernel_rfl)) (by kernel_rfl)) (by kernel_rfl)) (by kernel_rfl)) (by kernel_rfl)) (by kernel_rfl)) (by kernel_rfl)) (by kernel_rfl)) (by kernel_rfl)) (by kernel_rfl)) (hn fun _ => rfl))
    (fun n ih => asc_nil)
/-! ### slices.Sort[[]string,string] (by hand) -/
abbrev slices_Sort_string_ins : Sh := ⟨[(.one (.arr 0))], [(.arr 9 .str)]⟩
abbrev slices_Sort_string_outs : List Sh := [⟨[(.tup [])], [(.arr 9 .str)]⟩]
def slices_Sort_string : Nat → slices_Sort_string_ins.T → Option (OutsT slices_Sort_string_outs) := fun _ => sortSem 9
theorem slices_Sort_string_ok {S : Nat → Addr} (ok : CfgOk P CC S) : ∀ n, SpecOk P CC S 25 ⟨slices_Sort_string_ins, slices_Sort_string_outs, slices_Sort_string n⟩ := fun n => sort_spec ⟨Tryd.f25, by kernel_rfl, by kernel_rfl, by kernel_rfl⟩ Tryd.slices_Sort_string_none Tryd.slices_Sort_string
/-! ### slices.Compact[[]string,string] (by hand) -/
abbrev slices_Compact_string_ins : Sh := ⟨[(.one (.arr 0))], [(.arr 9 .str)]⟩
abbrev slices_Compact_string_outs : List Sh := [⟨[(.one (.arr 1))], [.dead, (.arr 9 .str)]⟩]
def slices_Compact_string : Nat → slices_Compact_string_ins.T → Option (OutsT slices_Compact_string_outs) := fun _ => compSem 9
theorem slices_Compact_string_ok {S : Nat → Addr} (ok : CfgOk P CC S) : ∀ n, SpecOk P CC S 26 ⟨slices_Compact_string_ins, slices_Compact_string_outs, slices_Compact_string n⟩ := fun n => comp_spec ⟨Tryd.f26, by kernel_rfl, by kernel_rfl, by kernel_rfl⟩ Tryd.slices_Compact_string_empty Tryd.slices_Compact_string
/-! ### pendulum/sched.Needs -/
abbrev sched_Needs_ins : Sh := ⟨[(.agg [(.val ty1), (.val (.int .i64)), (.val .str), (.val (.int .i64)), (.val ty6), (.val ty10), (.val .str), (.val .str), (.val .str)])], []⟩
abbrev sched_Needs_outs : List Sh := [⟨[(.one (.arr 0))], [(.arr 9 .str)]⟩]
abbrev sched_Needs_c7_h : Sh := ⟨[(.one (.ptr 0 0)), (.one (.val ty6))], [(.obj 38 [(.val ty1), (.val (.int .i64)), (.val .str), (.val (.int .i64)), (.val ty6), (.val ty10), (.val .str), (.val .str), (.val .str)])]⟩
abbrev sched_Needs_c7_o : List Out := [⟨.normal, [1, 3], ⟨[(.one (.ptr 0 0)), (.one (.val ty6))], [(.obj 38 [(.val ty1), (.val (.int .i64)), (.val .str), (.val (.int .i64)), (.val ty6), (.val ty10), (.val .str), (.val .str), (.val .str)])]⟩⟩]
def sched_Needs_c7 (n : Nat) : sched_Needs_c7_h.T → Option (OutT sched_Needs_c7_o)
  | ((_, x1, _), ((x2, x3, x4, x5, x6, x7, x8, x9, x10, _), _)) =>
    if x3 == 23 then
      some (.inl (((), [], ()), ((x2, x3, x4, x5, x6, x7, x8, x9, x10, ()), ())))
    else
      if x3 == 21 then
        if 0 ≤ mn 1 (x1.length : Int) ∧ mn 1 (x1.length : Int) ≤ (x1.length : Int) then (
          let v11 : List ty7.T := cutL x1 0 (mn 1 (x1.length : Int))
          some (.inl (((), v11, ()), ((x2, x3, x4, x5, x6, x7, x8, x9, x10, ()), ())))) else none
      else
        some (.inl (((), x1, ()), ((x2, x3, x4, x5, x6, x7, x8, x9, x10, ()), ())))
abbrev sched_Needs_l9_h : Sh := ⟨[(.one (.ptr 0 0)), (.one (.arr 1)), (.one (.val ty6)), (.one (.val (.int .i64))), (.one (.val (.int .i64)))], [(.obj 38 [(.val ty1), (.val (.int .i64)), (.val .str), (.val (.int .i64)), (.val ty6), (.val ty10), (.val .str), (.val .str), (.val .str)]), (.arr 9 .str)]⟩
abbrev sched_Needs_l9_o : List Out := [⟨(.exit 1), [1, 4], ⟨[(.one (.ptr 0 0)), (.one (.arr 1))], [(.obj 38 [(.val ty1), (.val (.int .i64)), (.val .str), (.val (.int .i64)), (.val ty6), (.val ty10), (.val .str), (.val .str), (.val .str)]), (.arr 9 .str)]⟩⟩]
def sched_Needs_l9 (n : Nat) : Nat → sched_Needs_l9_h.T → Option (OutT sched_Needs_l9_o)
  | 0, _ => none
  | k + 1, ((_, _, x1, x2, x3, _), ((x4, x5, x6, x7, x8, x9, x10, x11, x12, _), l13, _)) =>
    if decide (x3 < x2) then
      if 0 ≤ x3 ∧ x3 < (x1.length : Int) then (
        if !strEq ((rdT ty7 x1 x3).1) (⟨#[]⟩ : ByteArray) then
          if (l13.length + ([(rdT ty7 x1 x3).1] : List (.str : Ty).T).length) * 16 ≤ 140737488355328 then (
            let v14 : Int := IntKind.i64.wrap (x3 + 1)
            sched_Needs_l9 n k (((), (), x1, x2, v14, ()), ((x4, x5, x6, x7, x8, x9, x10, x11, x12, ()), l13 ++ [(rdT ty7 x1 x3).1], ()))) else none
        else
          let v15 : Int := IntKind.i64.wrap (x3 + 1)
          sched_Needs_l9 n k (((), (), x1, x2, v15, ()), ((x4, x5, x6, x7, x8, x9, x10, x11, x12, ()), l13, ()))) else none
    else
      some (.inl (((), (), ()), ((x4, x5, x6, x7, x8, x9, x10, x11, x12, ()), l13, ())))
abbrev sched_Needs_c16_h : Sh := ⟨[(.one (.ptr 0 0)), (.one (.arr 1))], [(.obj 38 [(.val ty1), (.val (.int .i64)), (.val .str), (.val (.int .i64)), (.val ty6), (.val ty10), (.val .str), (.val .str), (.val .str)]), (.arr 9 .str)]⟩
abbrev sched_Needs_c16_o : List Out := [⟨.normal, [1, 4], ⟨[(.one (.ptr 0 0)), (.one (.arr 1))], [(.obj 38 [(.val ty1), (.val (.int .i64)), (.val .str), (.val (.int .i64)), (.val ty6), (.val ty10), (.val .str), (.val .str), (.val .str)]), (.arr 9 .str)]⟩⟩]
def sched_Needs_c16 (n : Nat) : sched_Needs_c16_h.T → Option (OutT sched_Needs_c16_o)
  | ((_, _, _), ((x1, x2, x3, x4, x5, x6, x7, x8, x9, _), l10, _)) =>
    if x2 == 24 then
      if (l10.length + ([x3] : List (.str : Ty).T).length) * 16 ≤ 140737488355328 then (
        some (.inl (((), (), ()), ((x1, x2, x3, x4, x5, x6, x7, x8, x9, ()), l10 ++ [x3], ())))) else none
    else
      if x2 == 25 then
        if (l10.length + ([x3] : List (.str : Ty).T).length) * 16 ≤ 140737488355328 then (
          some (.inl (((), (), ()), ((x1, x2, x3, x4, x5, x6, x7, x8, x9, ()), l10 ++ [x3], ())))) else none
      else
        some (.inl (((), (), ()), ((x1, x2, x3, x4, x5, x6, x7, x8, x9, ()), l10, ())))
abbrev sched_Needs_c18_h : Sh := ⟨[(.one (.ptr 0 0)), (.one (.arr 1))], [(.obj 38 [(.val ty1), (.val (.int .i64)), (.val .str), (.val (.int .i64)), (.val ty6), (.val ty10), (.val .str), (.val .str), (.val .str)]), (.arr 9 .str)]⟩
abbrev sched_Needs_c18_o : List Out := [⟨.normal, [1, 4], ⟨[(.one (.ptr 0 0)), (.one (.arr 1))], [(.obj 38 [(.val ty1), (.val (.int .i64)), (.val .str), (.val (.int .i64)), (.val ty6), (.val ty10), (.val .str), (.val .str), (.val .str)]), (.arr 9 .str)]⟩⟩]
def sched_Needs_c18 (n : Nat) : sched_Needs_c18_h.T → Option (OutT sched_Needs_c18_o)
  | ((_, _, _), ((x1, x2, x3, x4, x5, x6, x7, x8, x9, _), l10, _)) =>
    if !strEq x9 (⟨#[]⟩ : ByteArray) then
      if (l10.length + ([x9] : List (.str : Ty).T).length) * 16 ≤ 140737488355328 then (
        some (.inl (((), (), ()), ((x1, x2, x3, x4, x5, x6, x7, x8, x9, ()), l10 ++ [x9], ())))) else none
    else
      some (.inl (((), (), ()), ((x1, x2, x3, x4, x5, x6, x7, x8, x9, ()), l10, ())))
abbrev sched_Needs_l19_h : Sh := ⟨[(.one (.arr 0)), (.one (.val ty10)), (.one (.val (.int .i64))), (.one (.val (.int .i64)))], [(.arr 9 .str)]⟩
abbrev sched_Needs_l19_o : List Out := [⟨(.exit 3), [4], ⟨[(.one (.arr 0))], [(.arr 9 .str)]⟩⟩]
def sched_Needs_l19 (n : Nat) : Nat → sched_Needs_l19_h.T → Option (OutT sched_Needs_l19_o)
  | 0, _ => none
  | k + 1, ((_, x1, x2, x3, _), (l4, _)) =>
    if decide (x3 < x2) then
      if 0 ≤ x3 ∧ x3 < (x1.length : Int) then (
        if (l4.length + ([(rdT ty11 x1 x3).1] : List (.str : Ty).T).length) * 16 ≤ 140737488355328 then (
          let v5 : Int := IntKind.i64.wrap (x3 + 1)
          sched_Needs_l19 n k (((), x1, x2, v5, ()), (l4 ++ [(rdT ty11 x1 x3).1], ()))) else none) else none
    else
      some (.inl (((), ()), (l4, ())))
def sched_Needs : Nat → sched_Needs_ins.T → Option (OutsT sched_Needs_outs)
  | 0, _ => none
  | n + 1, (((x1, x2, x3, x4, x5, x6, x7, x8, x9, _), _), _) =>
    match sched_Needs_c7 n (((), x5, ()), ((x1, x2, x3, x4, x5, x6, x7, x8, x9, ()), ())) with
    | some (.inl ((_, x10, _), ((x11, x12, x13, x14, x15, x16, x17, x18, x19, _), _))) => (
      match sched_Needs_l9 n n (((), (), x10, (x10.length : Int), 0, ()), ((x11, x12, x13, x14, x15, x16, x17, x18, x19, ()), [], ())) with
      | some (.inl ((_, _, _), ((x20, x21, x22, x23, x24, x25, x26, x27, x28, _), l29, _))) => (
        match sched_Needs_c16 n (((), (), ()), ((x20, x21, x22, x23, x24, x25, x26, x27, x28, ()), l29, ())) with
        | some (.inl ((_, _, _), ((x30, x31, x32, x33, x34, x35, x36, x37, x38, _), l39, _))) => (
          match sched_Needs_c18 n (((), (), ()), ((x30, x31, x32, x33, x34, x35, x36, x37, x38, ()), l39, ())) with
          | some (.inl ((_, _, _), ((x40, x41, x42, x43, x44, x45, x46, x47, x48, _), l49, _))) => (
            match sched_Needs_l19 n n (((), x45, (x45.length : Int), 0, ()), (l49, ())) with
            | some (.inl ((_, _), (l50, _))) => (
              match slices_Sort_string n (((), ()), (l50, ())) with
              | some ((_, _), (l51, _)) => (
                match slices_Compact_string n (((), ()), (l51, ())) with
                | some ((_, _), (_, l52, _)) => (
                  some (((), ()), (l52, ())))
                | none => none)
              | none => none)
            | some (.inr (_)) => none
            | none => none)
          | some (.inr (_)) => none
          | none => none)
        | some (.inr (_)) => none
        | none => none)
      | some (.inr (_)) => none
      | none => none)
    | some (.inr (_)) => none
    | none => none
def sched_Needs_H (n : Nat) : Hints := ⟨[], fun _ => [], fun k => match k with | 9 => some ⟨[1, 4, 22, 23, 24], sched_Needs_l9_h, sched_Needs_l9_o, sched_Needs_l9 n⟩ | 19 => some ⟨[4, 59, 60, 61], sched_Needs_l19_h, sched_Needs_l19_o, sched_Needs_l19 n⟩ | _ => none, fun k => match k with | 7 => some ⟨[1, 3], sched_Needs_c7_h, sched_Needs_c7_o, fun n => sched_Needs_c7 n⟩ | 16 => some ⟨[1, 4], sched_Needs_c16_h, sched_Needs_c16_o, fun n => sched_Needs_c16 n⟩ | 18 => some ⟨[1, 4], sched_Needs_c18_h, sched_Needs_c18_o, fun n => sched_Needs_c18 n⟩ | _ => none, fun _ => none⟩
def sched_Needs_O (n : Nat) : FuncId → List FSpec := asc [(25, ⟨slices_Sort_string_ins, slices_Sort_string_outs, slices_Sort_string n⟩), (26, ⟨slices_Compact_string_ins, slices_Compact_string_outs, slices_Compact_string n⟩)]
def b11 : Code := bodyOf Tryd.f11
theorem sched_Needs_l9_k0 (n : Nat) : LoopOk P CC (sched_Needs_O n) n 0 75 (sched_Needs_H n) ⟨[1, 4, 22, 23, 24], sched_Needs_l9_h, sched_Needs_l9_o, sched_Needs_l9 n⟩ ((loopsOf b11).getD 0 .skip) := by
  refine ⟨fun _ => by kernel_rfl, ?_⟩
  rintro k ⟨⟨⟨⟩, ⟨⟩, x1, x2, x3, ⟨⟩⟩, ⟨⟨x4, x5, x6, x7, x8, x9, x10, x11, x12, ⟨⟩⟩, x13, ⟨⟩⟩⟩
  kernel_rfl
theorem sched_Needs_l19_k1 (n : Nat) : LoopOk P CC (sched_Needs_O n) n 0 75 (sched_Needs_H n) ⟨[4, 59, 60, 61], sched_Needs_l19_h, sched_Needs_l19_o, sched_Needs_l19 n⟩ ((loopsOf b11).getD 1 .skip) := by
  refine ⟨fun _ => by kernel_rfl, ?_⟩
  rintro k ⟨⟨⟨⟩, x1, x2, x3, ⟨⟩⟩, ⟨x4, ⟨⟩⟩⟩
  kernel_rfl
theorem sched_Needs_c7_k2 (n : Nat) : CutOk P CC (sched_Needs_O n) n 0 75 (sched_Needs_H n) ⟨[1, 3], sched_Needs_c7_h, sched_Needs_c7_o, fun n => sched_Needs_c7 n⟩ ((cutsOf b11).getD 2 (0, .skip)).2 := by
  rintro ⟨⟨⟨⟩, x1, ⟨⟩⟩, ⟨⟨x2, x3, x4, x5, x6, x7, x8, x9, x10, ⟨⟩⟩, ⟨⟩⟩⟩
  kernel_rfl
theorem sched_Needs_c16_k14 (n : Nat) : CutOk P CC (sched_Needs_O n) n 0 75 (sched_Needs_H n) ⟨[1, 4], sched_Needs_c16_h, sched_Needs_c16_o, fun n => sched_Needs_c16 n⟩ ((cutsOf b11).getD 14 (0, .skip)).2 := by
  rintro ⟨⟨⟨⟩, ⟨⟩, ⟨⟩⟩, ⟨⟨x1, x2, x3, x4, x5, x6, x7, x8, x9, ⟨⟩⟩, x10, ⟨⟩⟩⟩
  kernel_rfl
theorem sched_Needs_c18_k16 (n : Nat) : CutOk P CC (sched_Needs_O n) n 0 75 (sched_Needs_H n) ⟨[1, 4], sched_Needs_c18_h, sched_Needs_c18_o, fun n => sched_Needs_c18 n⟩ ((cutsOf b11).getD 16 (0, .skip)).2 := by
  rintro ⟨⟨⟨⟩, ⟨⟩, ⟨⟩⟩, ⟨⟨x1, x2, x3, x4, x5, x6, x7, x8, x9, ⟨⟩⟩, x10, ⟨⟩⟩⟩
  kernel_rfl
theorem sched_Needs_ok {S : Nat → Addr} (ok : CfgOk P CC S) : ∀ n, SpecOk P CC S 11 ⟨sched_Needs_ins, sched_Needs_outs, sched_Needs n⟩ :=
  fn_all ok (O := sched_Needs_O) (H := sched_Needs_H) (fn := Tryd.f11) (body := b11) (by kernel_rfl) (by kernel_rfl) (by kernel_rfl) (by decide) (by kernel_rfl)
    (fun x => by kernel_rfl) (fun n => by
      rintro ⟨⟨⟨x1, x2, x3, x4, x5, x6, x7, x8, x9, ⟨⟩⟩, ⟨⟩⟩, ⟨⟩⟩
      kernel_rfl)
    (fun n => obl_of (by kernel_rfl) (by kernel_rfl) (ls (ls (lz) (by kernel_rfl) (sched_Needs_l9_k0 n)) (by kernel_rfl) (sched_Needs_l19_k1 n)) (cn (cn (cn (cn (cn (cn (cn (cn (cn (cs (cn (cs (cn (cn (cn (cn (cn (cn (cn (cn (cn (cn (cn (cs (cn (cn (cz) (by kernel_rfl)) (by kernel_rfl)) (by kernel_rfl) (sched_Needs_c7_k2 n)) (by kernel_rfl)) (by kernel_rfl)) (by kernel_rfl)) (by kernel_rfl)) (by kernel_rfl)) (by kernel_rfl)) (by kernel_rfl)) (by kernel_rfl)) (by kernel_rfl)) (by kernel_rfl)) (by kernel_rfl)) (by kernel_rfl) (sched_Needs_c16_k14 n)) (by kernel_rfl)) (by kernel_rfl) (sched_Needs_c18_k16 n)) (by kernel_rfl)) (by kernel_rfl)) (by kernel_rfl)) (by kernel_rfl)) (by kernel_rfl)) (by kernel_rfl)) (by kernel_rfl)) (by kernel_rfl)) (by kernel_rfl)) (hn fun _ => rfl))
    (fun n ih => asc_cons (slices_Sort_string_ok ok n) <| asc_cons (slices_Compact_string_ok ok n) <| asc_nil)
/-! ### pendulum/sched.Order$1$1 -/
abbrev sched_Order_1_1_ins : Sh := ⟨[(.one (.val .str)), (.one (.ptr 0 0)), (.one (.ptr 1 0))], [(.obj 54 [(.map 2)]), (.obj 57 [(.arr 3)]), (.map .str (.int .i64) false), (.arr 4 .bool)]⟩
abbrev sched_Order_1_1_outs : List Sh := [⟨[(.one (.val .bool))], [(.obj 54 [(.map 2)]), (.obj 57 [(.arr 3)]), (.map .str (.int .i64) false), (.arr 4 .bool)]⟩]
def sched_Order_1_1 : Nat → sched_Order_1_1_ins.T → Option (OutsT sched_Order_1_1_outs)
  | 0, _ => none
  | n + 1, ((x1, _, _, _), ((_, _), (_, _), m2, l3, _)) =>
    let v4 : Int := (mfind (keyEq (.str : Ty)) x1 m2).getD 0
    if (mfind (keyEq (.str : Ty)) x1 m2).isSome then
      if 0 ≤ v4 ∧ v4 < (l3.length : Int) then (
        some ((!(rdT (.bool : Ty) l3 v4), ()), (((), ()), ((), ()), m2, l3, ()))) else none
    else
      some ((false, ()), (((), ()), ((), ()), m2, l3, ()))
def sched_Order_1_1_H (n : Nat) : Hints := ⟨[], fun _ => [], fun _ => none, fun _ => none, fun _ => none⟩
def sched_Order_1_1_O (n : Nat) : FuncId → List FSpec := asc []
def b22 : Code := bodyOf Tryd.f22
theorem sched_Order_1_1_ok {S : Nat → Addr} (ok : CfgOk P CC S) : ∀ n, SpecOk P CC S 22 ⟨sched_Order_1_1_ins, sched_Order_1_1_outs, sched_Order_1_1 n⟩ :=
  fn_all ok (O := sched_Order_1_1_O) (H := sched_Order_1_1_H) (fn := Tryd.f22) (body := b22) (by kernel_rfl) (by kernel_rfl) (by kernel_rfl) (by decide) (by kernel_rfl)
    (fun x => by kernel_rfl) (fun n => by
      rintro ⟨⟨x1, ⟨⟩, ⟨⟩, ⟨⟩⟩, ⟨⟨⟨⟩, ⟨⟩⟩, ⟨⟨⟩, ⟨⟩⟩, x2, x3, ⟨⟩⟩⟩
      kernel_rfl)
    (fun n => obl_of (by kernel_rfl) (by kernel_rfl) (lz) (cn (cn (cn (cz) (by kernel_rfl)) (by kernel_rfl)) (by kernel_rfl)) (hn fun _ => rfl))
    (fun n ih => asc_nil)
/-! ### slices.IndexFunc[[]string,string] -/
abbrev slices_IndexFunc_string_string_ins : Sh := ⟨[(.one (.val ty1)), (.one (.fn 22 [0, 1]))], [(.obj 54 [(.map 2)]), (.obj 57 [(.arr 3)]), (.map .str (.int .i64) false), (.arr 4 .bool)]⟩
abbrev slices_IndexFunc_string_string_outs : List Sh := [⟨[(.one (.val (.int .i64)))], [(.obj 54 [(.map 2)]), (.obj 57 [(.arr 3)]), (.map .str (.int .i64) false), (.arr 4 .bool)]⟩]
abbrev slices_IndexFunc_string_string_l2_h : Sh := ⟨[(.one (.val ty1)), (.one (.fn 22 [0, 1])), (.one (.val (.int .i64))), (.one (.val (.int .i64)))], [(.obj 54 [(.map 2)]), (.obj 57 [(.arr 3)]), (.map .str (.int .i64) false), (.arr 4 .bool)]⟩
abbrev slices_IndexFunc_string_string_l2_o : List Out := [⟨(.exit 0), [], ⟨[], [(.obj 54 [(.map 2)]), (.obj 57 [(.arr 3)]), (.map .str (.int .i64) false), (.arr 4 .bool)]⟩⟩, ⟨.ret, [4], ⟨[(.one (.val (.int .i64)))], [(.obj 54 [(.map 2)]), (.obj 57 [(.arr 3)]), (.map .str (.int .i64) false), (.arr 4 .bool)]⟩⟩]
def slices_IndexFunc_string_string_l2 (n : Nat) : Nat → slices_IndexFunc_string_string_l2_h.T → Option (OutT slices_IndexFunc_string_string_l2_o)
  | 0, _ => none
  | k + 1, ((x1, _, x2, x3, _), ((_, _), (_, _), m4, l5, _)) =>
    if decide (x3 < x2) then
      if 0 ≤ x3 ∧ x3 < (x1.length : Int) then (
        match sched_Order_1_1 n ((rdT (.str : Ty) x1 x3, (), (), ()), (((), ()), ((), ()), m4, l5, ())) with
        | some ((x6, _), ((_, _), (_, _), m7, l8, _)) => (
          if x6 then
            some (.inr (.inl ((x3, ()), (((), ()), ((), ()), m7, l8, ()))))
          else
            let v9 : Int := IntKind.i64.wrap (x3 + 1)
            slices_IndexFunc_string_string_l2 n k ((x1, (), x2, v9, ()), (((), ()), ((), ()), m7, l8, ())))
        | none => none) else none
    else
      some (.inl ((), (((), ()), ((), ()), m4, l5, ())))
def slices_IndexFunc_string_string : Nat → slices_IndexFunc_string_string_ins.T → Option (OutsT slices_IndexFunc_string_string_outs)
  | 0, _ => none
  | n + 1, ((x1, _, _), ((_, _), (_, _), m2, l3, _)) =>
    match slices_IndexFunc_string_string_l2 n n ((x1, (), (x1.length : Int), 0, ()), (((), ()), ((), ()), m2, l3, ())) with
    | some (.inl (_, ((_, _), (_, _), m4, l5, _))) => (
      some (((-1), ()), (((), ()), ((), ()), m4, l5, ())))
    | some (.inr (.inl ((x6, _), ((_, _), (_, _), m7, l8, _)))) => (
      some ((x6, ()), (((), ()), ((), ()), m7, l8, ())))
    | some (.inr (.inr (_))) => none
    | none => none
def slices_IndexFunc_string_string_H (n : Nat) : Hints := ⟨[], fun _ => [], fun k => match k with | 2 => some ⟨[0, 1, 7, 8], slices_IndexFunc_string_string_l2_h, slices_IndexFunc_string_string_l2_o, slices_IndexFunc_string_string_l2 n⟩ | _ => none, fun _ => none, fun _ => none⟩
def slices_IndexFunc_string_string_O (n : Nat) : FuncId → List FSpec := asc [(22, ⟨sched_Order_1_1_ins, sched_Order_1_1_outs, sched_Order_1_1 n⟩)]
def b30 : Code := bodyOf Tryd.f30
theorem slices_IndexFunc_string_string_l2_k0 (n : Nat) : LoopOk P CC (slices_IndexFunc_string_string_O n) n 4 19 (slices_IndexFunc_string_string_H n) ⟨[0, 1, 7, 8], slices_IndexFunc_string_string_l2_h, slices_IndexFunc_string_string_l2_o, slices_IndexFunc_string_string_l2 n⟩ ((loopsOf b30).getD 0 .skip) := by
  refine ⟨fun _ => by kernel_rfl, ?_⟩
  rintro k ⟨⟨x1, ⟨⟩, x2, x3, ⟨⟩⟩, ⟨⟨⟨⟩, ⟨⟩⟩, ⟨⟨⟩, ⟨⟩⟩, x4, x5, ⟨⟩⟩⟩
  kernel_rfl
theorem slices_IndexFunc_string_string_ok {S : Nat → Addr} (ok : CfgOk P CC S) : ∀ n, SpecOk P CC S 30 ⟨slices_IndexFunc_string_string_ins, slices_IndexFunc_string_string_outs, slices_IndexFunc_string_string n⟩ :=
  fn_all ok (O := slices_IndexFunc_string_string_O) (H := slices_IndexFunc_string_string_H) (fn := Tryd.f30) (body := b30) (by kernel_rfl) (by kernel_rfl) (by kernel_rfl) (by decide) (by kernel_rfl)
    (fun x => by kernel_rfl) (fun n => by
      rintro ⟨⟨x1, ⟨⟩, ⟨⟩⟩, ⟨⟨⟨⟩, ⟨⟩⟩, ⟨⟨⟩, ⟨⟩⟩, x2, x3, ⟨⟩⟩⟩
      kernel_rfl)
    (fun n => obl_of (by kernel_rfl) (by kernel_rfl) (ls (lz) (by kernel_rfl) (slices_IndexFunc_string_string_l2_k0 n)) (cn (cn (cn (cn (cn (cn (cn (cn (cn (cn (cz) (by kernel_rfl)) (by kernel_rfl)) (by kernel_rfl)) (by kernel_rfl)) (by kernel_rfl)) (by kernel_rfl)) (by kernel_rfl)) (by kernel_rfl)) (by kernel_rfl)) (by kernel_rfl)) (hn fun _ => rfl))
    (fun n ih => asc_cons (sched_Order_1_1_ok ok n) <| asc_nil)
/-! ### slices.ContainsFunc[[]string,string] -/
abbrev slices_ContainsFunc_string_string_ins : Sh := ⟨[(.one (.val ty1)), (.one (.fn 22 [0, 1]))], [(.obj 54 [(.map 2)]), (.obj 57 [(.arr 3)]), (.map .str (.int .i64) false), (.arr 4 .bool)]⟩
abbrev slices_ContainsFunc_string_string_outs : List Sh := [⟨[(.one (.val .bool))], [(.obj 54 [(.map 2)]), (.obj 57 [(.arr 3)]), (.map .str (.int .i64) false), (.arr 4 .bool)]⟩]
def slices_ContainsFunc_string_string : Nat → slices_ContainsFunc_string_string_ins.T → Option (OutsT slices_ContainsFunc_string_string_outs)
  | 0, _ => none
  | n + 1, ((x1, _, _), ((_, _), (_, _), m2, l3, _)) =>
    match slices_IndexFunc_string_string n ((x1, (), ()), (((), ()), ((), ()), m2, l3, ())) with
    | some ((x4, _), ((_, _), (_, _), m5, l6, _)) => (
      some ((decide (x4 ≥ 0), ()), (((), ()), ((), ()), m5, l6, ())))
    | none => none
def slices_ContainsFunc_string_string_H (n : Nat) : Hints := ⟨[], fun _ => [], fun _ => none, fun _ => none, fun _ => none⟩
def slices_ContainsFunc_string_string_O (n : Nat) : FuncId → List FSpec := asc [(30, ⟨slices_IndexFunc_string_string_ins, slices_IndexFunc_string_string_outs, slices_IndexFunc_string_string n⟩)]
def b21 : Code := bodyOf Tryd.f21
theorem slices_ContainsFunc_string_string_ok {S : Nat → Addr} (ok : CfgOk P CC S) : ∀ n, SpecOk P CC S 21 ⟨slices_ContainsFunc_string_string_ins, slices_ContainsFunc_string_string_outs, slices_ContainsFunc_string_string n⟩ :=
  fn_all ok (O := slices_ContainsFunc_string_string_O) (H := slices_ContainsFunc_string_string_H) (fn := Tryd.f21) (body := b21) (by kernel_rfl) (by kernel_rfl) (by kernel_rfl) (by decide) (by kernel_rfl)
    (fun x => by kernel_rfl) (fun n => by
      rintro ⟨⟨x1, ⟨⟩, ⟨⟩⟩, ⟨⟨⟨⟩, ⟨⟩⟩, ⟨⟨⟩, ⟨⟩⟩, x2, x3, ⟨⟩⟩⟩
      kernel_rfl)
    (fun n => obl_of (by kernel_rfl) (by kernel_rfl) (lz) (cn (cn (cz) (by kernel_rfl)) (by kernel_rfl)) (hn fun _ => rfl))
    (fun n ih => asc_cons (slices_IndexFunc_string_string_ok ok n) <| asc_nil)
/-! ### pendulum/sched.Order$1 -/
abbrev sched_Order_1_ins : Sh := ⟨[(.agg [(.val ty1), (.val (.int .i64)), (.val .str), (.val (.int .i64)), (.val ty6), (.val ty10), (.val .str), (.val .str), (.val .str)]), (.one (.ptr 0 0)), (.one (.ptr 1 0))], [(.obj 54 [(.map 2)]), (.obj 57 [(.arr 3)]), (.map .str (.int .i64) false), (.arr 4 .bool)]⟩
abbrev sched_Order_1_outs : List Sh := [⟨[(.one (.val .bool))], [(.obj 54 [(.map 2)]), (.obj 57 [(.arr 3)]), (.map .str (.int .i64) false), (.arr 4 .bool)]⟩]
def sched_Order_1 : Nat → sched_Order_1_ins.T → Option (OutsT sched_Order_1_outs)
  | 0, _ => none
  | n + 1, (((x1, x2, x3, x4, x5, x6, x7, x8, x9, _), _, _, _), ((_, _), (_, _), m10, l11, _)) =>
    match sched_Needs n (((x1, x2, x3, x4, x5, x6, x7, x8, x9, ()), ()), ()) with
    | some ((_, _), (l12, _)) => (
      match slices_ContainsFunc_string_string n ((l12, (), ()), (((), ()), ((), ()), m10, l11, ())) with
      | some ((x13, _), ((_, _), (_, _), m14, l15, _)) => (
        some ((!x13, ()), (((), ()), ((), ()), m14, l15, ())))
      | none => none)
    | none => none
def sched_Order_1_H (n : Nat) : Hints := ⟨[], fun _ => [], fun _ => none, fun _ => none, fun _ => none⟩
def sched_Order_1_O (n : Nat) : FuncId → List FSpec := asc [(11, ⟨sched_Needs_ins, sched_Needs_outs, sched_Needs n⟩), (21, ⟨slices_ContainsFunc_string_string_ins, slices_ContainsFunc_string_string_outs, slices_ContainsFunc_string_string n⟩)]
def b20 : Code := bodyOf Tryd.f20
theorem sched_Order_1_ok {S : Nat → Addr} (ok : CfgOk P CC S) : ∀ n, SpecOk P CC S 20 ⟨sched_Order_1_ins, sched_Order_1_outs, sched_Order_1 n⟩ :=
  fn_all ok (O := sched_Order_1_O) (H := sched_Order_1_H) (fn := Tryd.f20) (body := b20) (by kernel_rfl) (by kernel_rfl) (by kernel_rfl) (by decide) (by kernel_rfl)
    (fun x => by kernel_rfl) (fun n => by
      rintro ⟨⟨⟨x1, x2, x3, x4, x5, x6, x7, x8, x9, ⟨⟩⟩, ⟨⟩, ⟨⟩, ⟨⟩⟩, ⟨⟨⟨⟩, ⟨⟩⟩, ⟨⟨⟩, ⟨⟩⟩, x10, x11, ⟨⟩⟩⟩
      kernel_rfl)
    (fun n => obl_of (by kernel_rfl) (by kernel_rfl) (lz) (cn (cn (cz) (by kernel_rfl)) (by kernel_rfl)) (hn fun _ => rfl))
    (fun n ih => asc_cons (sched_Needs_ok ok n) <| asc_cons (slices_ContainsFunc_string_string_ok ok n) <| asc_nil)
/-! ### slices.Index[[]bool,bool] -/
abbrev slices_Index_bool_bool_ins : Sh := ⟨[(.one (.val ty14)), (.one (.val .bool))], []⟩
abbrev slices_Index_bool_bool_outs : List Sh := [⟨[(.one (.val (.int .i64)))], []⟩]
abbrev slices_Index_bool_bool_l2_h : Sh := ⟨[(.one (.val ty14)), (.one (.val .bool)), (.one (.val (.int .i64))), (.one (.val (.int .i64)))], []⟩
abbrev slices_Index_bool_bool_l2_o : List Out := [⟨(.exit 0), [], ⟨[], []⟩⟩, ⟨.ret, [4], ⟨[(.one (.val (.int .i64)))], []⟩⟩]
def slices_Index_bool_bool_l2 (n : Nat) : Nat → slices_Index_bool_bool_l2_h.T → Option (OutT slices_Index_bool_bool_l2_o)
  | 0, _ => none
  | k + 1, ((x1, x2, x3, x4, _), _) =>
    if decide (x4 < x3) then
      if 0 ≤ x4 ∧ x4 < (x1.length : Int) then (
        if x2 == (rdT (.bool : Ty) x1 x4) then
          some (.inr (.inl ((x4, ()), ())))
        else
          let v5 : Int := IntKind.i64.wrap (x4 + 1)
          slices_Index_bool_bool_l2 n k ((x1, x2, x3, v5, ()), ())) else none
    else
      some (.inl ((), ()))
def slices_Index_bool_bool : Nat → slices_Index_bool_bool_ins.T → Option (OutsT slices_Index_bool_bool_outs)
  | 0, _ => none
  | n + 1, ((x1, x2, _), _) =>
    match slices_Index_bool_bool_l2 n n ((x1, x2, (x1.length : Int), 0, ()), ()) with
    | some (.inl (_, _)) => (
      some (((-1), ()), ()))
    | some (.inr (.inl ((x3, _), _))) => (
      some ((x3, ()), ()))
    | some (.inr (.inr (_))) => none
    | none => none
def slices_Index_bool_bool_H (n : Nat) : Hints := ⟨[], fun _ => [], fun k => match k with | 2 => some ⟨[0, 1, 7, 8], slices_Index_bool_bool_l2_h, slices_Index_bool_bool_l2_o, slices_Index_bool_bool_l2 n⟩ | _ => none, fun _ => none, fun _ => none⟩
def slices_Index_bool_bool_O (n : Nat) : FuncId → List FSpec := asc []
def b23 : Code := bodyOf Tryd.f23
theorem slices_Index_bool_bool_l2_k0 (n : Nat) : LoopOk P CC (slices_Index_bool_bool_O n) n 0 19 (slices_Index_bool_bool_H n) ⟨[0, 1, 7, 8], slices_Index_bool_bool_l2_h, slices_Index_bool_bool_l2_o, slices_Index_bool_bool_l2 n⟩ ((loopsOf b23).getD 0 .skip) := by
  refine ⟨fun _ => by kernel_rfl, ?_⟩
  rintro k ⟨⟨x1, x2, x3, x4, ⟨⟩⟩, ⟨⟩⟩
  kernel_rfl
theorem slices_Index_bool_bool_ok {S : Nat → Addr} (ok : CfgOk P CC S) : ∀ n, SpecOk P CC S 23 ⟨slices_Index_bool_bool_ins, slices_Index_bool_bool_outs, slices_Index_bool_bool n⟩ :=
  fn_all ok (O := slices_Index_bool_bool_O) (H := slices_Index_bool_bool_H) (fn := Tryd.f23) (body := b23) (by kernel_rfl) (by kernel_rfl) (by kernel_rfl) (by decide) (by kernel_rfl)
    (fun x => by kernel_rfl) (fun n => by
      rintro ⟨⟨x1, x2, ⟨⟩⟩, ⟨⟩⟩
      kernel_rfl)
    (fun n => obl_of (by kernel_rfl) (by kernel_rfl) (ls (lz) (by kernel_rfl) (slices_Index_bool_bool_l2_k0 n)) (cn (cn (cn (cn (cn (cn (cn (cn (cn (cn (cz) (by kernel_rfl)) (by kernel_rfl)) (by kernel_rfl)) (by kernel_rfl)) (by kernel_rfl)) (by kernel_rfl)) (by kernel_rfl)) (by kernel_rfl)) (by kernel_rfl)) (by kernel_rfl)) (hn fun _ => rfl))
    (fun n ih => asc_nil)
/-! ### pendulum/sched.Order -/
abbrev sched_Order_ins : Sh := ⟨[(.one (.arr 0))], [(.arr 38 ty0)]⟩
abbrev sched_Order_outs : List Sh := [⟨[(.tup [(false, [(.arr 1)]), (false, [(.val .err)])])], [(.arr 38 ty0), (.arr 3 (.int .i64))]⟩]
abbrev sched_Order_l10_h : Sh := ⟨[(.one (.arr 0)), (.one (.ptr 1 0)), (.one (.fn 20 [2, 1])), (.one (.arr 3)), (.one (.val (.int .i64))), (.one (.arr 0)), (.one (.val (.int .i64))), (.one (.val (.int .i64)))], [(.arr 38 ty0), (.obj 57 [(.arr 4)]), (.obj 54 [(.map 5)]), (.arr 3 (.int .i64)), (.arr 4 .bool), (.map .str (.int .i64) false)]⟩
abbrev sched_Order_l10_o : List Out := [⟨(.exit 2), [0, 6, 7, 8, 9], ⟨[(.one (.arr 0)), (.one (.ptr 1 0)), (.one (.fn 20 [2, 1])), (.one (.arr 3)), (.one (.val (.int .i64)))], [(.arr 38 ty0), (.obj 57 [(.arr 4)]), (.obj 54 [(.map 5)]), (.arr 3 (.int .i64)), (.arr 4 .bool), (.map .str (.int .i64) false)]⟩⟩]
def sched_Order_l10 (n : Nat) : Nat → sched_Order_l10_h.T → Option (OutT sched_Order_l10_o)
  | 0, _ => none
  | k + 1, ((_, _, _, _, x1, _, x2, x3, _), (l4, (_, _), (_, _), l5, l6, m7, _)) =>
    if decide (x3 < x2) then
      if 0 ≤ x3 ∧ x3 < (l4.length : Int) then (
        if 0 ≤ x3 ∧ x3 < (l6.length : Int) then (
          if !(rdT (.bool : Ty) l6 x3) then
            match sched_Order_1 n ((((rdT ty0 l4 x3).1, ((rdT ty0 l4 x3).2).1, (((rdT ty0 l4 x3).2).2).1, ((((rdT ty0 l4 x3).2).2).2).1, (((((rdT ty0 l4 x3).2).2).2).2).1, ((((((rdT ty0 l4 x3).2).2).2).2).2).1, (((((((rdT ty0 l4 x3).2).2).2).2).2).2).1, ((((((((rdT ty0 l4 x3).2).2).2).2).2).2).2).1, ((((((((rdT ty0 l4 x3).2).2).2).2).2).2).2).2, ()), (), (), ()), (((), ()), ((), ()), m7, l6, ())) with
            | some ((x8, _), ((_, _), (_, _), m9, l10, _)) => (
              if x8 then
                some (.inl (((), (), (), (), x3, ()), (l4, ((), ()), ((), ()), l5, l10, m9, ())))
              else
                let v11 : Int := IntKind.i64.wrap (x3 + 1)
                sched_Order_l10 n k (((), (), (), (), x1, (), x2, v11, ()), (l4, ((), ()), ((), ()), l5, l10, m9, ())))
            | none => none
          else
            let v12 : Int := IntKind.i64.wrap (x3 + 1)
            sched_Order_l10 n k (((), (), (), (), x1, (), x2, v12, ()), (l4, ((), ()), ((), ()), l5, l6, m7, ()))) else none) else none
    else
      some (.inl (((), (), (), (), x1, ()), (l4, ((), ()), ((), ()), l5, l6, m7, ())))
abbrev sched_Order_l7_h : Sh := ⟨[(.one (.arr 0)), (.one (.ptr 1 0)), (.one (.fn 20 [2, 1])), (.one (.arr 3))], [(.arr 38 ty0), (.obj 57 [(.arr 4)]), (.obj 54 [(.map 5)]), (.arr 3 (.int .i64)), (.arr 4 .bool), (.map .str (.int .i64) false)]⟩
abbrev sched_Order_l7_o : List Out := [⟨(.exit 0), [8], ⟨[(.one (.arr 1))], [(.arr 38 ty0), (.arr 3 (.int .i64))]⟩⟩, ⟨.ret, [2, 3], ⟨[(.one (.emp true)), (.one (.val .err))], [(.arr 38 ty0)]⟩⟩]
def sched_Order_l7 (n : Nat) : Nat → sched_Order_l7_h.T → Option (OutT sched_Order_l7_o)
  | 0, _ => none
  | k + 1, ((_, _, _, _, _), (l1, (_, _), (_, _), l2, l3, m4, _)) =>
    if decide ((l2.length : Int) < (l1.length : Int)) then
      match sched_Order_l10 n n (((), (), (), (), (-1), (), (l1.length : Int), 0, ()), (l1, ((), ()), ((), ()), l2, l3, m4, ())) with
      | some (.inl ((_, _, _, _, x5, _), (l6, (_, _), (_, _), l7, l8, m9, _))) => (
        if decide (x5 < 0) then
          match slices_Index_bool_bool n ((l8, false, ()), ()) with
          | some ((x10, _), _) => (
            some (.inr (.inl (((), ErrV.at_ x10 (ErrV.sent 113), ()), (l6, ())))))
          | none => none
        else
          if 0 ≤ x5 ∧ x5 < (l8.length : Int) then (
            if (l7.length + ([x5] : List ((.int .i64) : Ty).T).length) * 8 ≤ 140737488355328 then (
              sched_Order_l7 n k (((), (), (), (), ()), (l6, ((), ()), ((), ()), l7 ++ [x5], List.set l8 (x5 : Int).toNat true, m9, ()))) else none) else none)
      | some (.inr (_)) => none
      | none => none
    else
      some (.inl (((), ()), (l1, l2, ())))
def sched_Order : Nat → sched_Order_ins.T → Option (OutsT sched_Order_outs)
  | 0, _ => none
  | n + 1, ((_, _), (l1, _)) =>
    match sched_givers n (((), ()), (l1, ())) with
    | some (.inl ((((_, _), (x2, _), _), _), (l3, m4, _))) => (
      if !(errNil x2) then
        some (((((), ()), (x2, ()), ()), ()), (l3, [], ()))
      else
        if 0 ≤ (l3.length : Int) ∧ (l3.length : Int) ≤ (l3.length : Int) ∧ (l3.length : Int) * ((1 : Nat) : Int) ≤ 140737488355328 ∧ (l3.length : Int) ≤ 140737488355328 then (
          match sched_Order_l7 n n (((), (), (), (), ()), (l3, ((), ()), ((), ()), [], List.replicate ((l3.length : Int) : Int).toNat false, m4, ())) with
          | some (.inl ((_, _), (l7, l8, _))) => (
            some (((((), ()), (ErrV.nil, ()), ()), ()), (l7, l8, ())))
          | some (.inr (.inl ((_, x9, _), (l10, _)))) => (
            some (((((), ()), (x9, ()), ()), ()), (l10, [], ())))
          | some (.inr (.inr (_))) => none
          | none => none) else none)
    | some (.inr (((((_, _), (x5, _), _), _), (l6, _)))) => (
      if !(errNil x5) then
        some (((((), ()), (x5, ()), ()), ()), (l6, [], ()))
      else
        if 0 ≤ (l6.length : Int) ∧ (l6.length : Int) ≤ (l6.length : Int) ∧ (l6.length : Int) * ((1 : Nat) : Int) ≤ 140737488355328 ∧ (l6.length : Int) ≤ 140737488355328 then
          none
        else
          none)
    | none => none
def sched_Order_H (n : Nat) : Hints := ⟨[], fun _ => [], fun k => match k with | 10 => some ⟨[0, 6, 7, 8, 9, 29, 30, 31], sched_Order_l10_h, sched_Order_l10_o, sched_Order_l10 n⟩ | 7 => some ⟨[0, 6, 7, 8], sched_Order_l7_h, sched_Order_l7_o, sched_Order_l7 n⟩ | _ => none, fun _ => none, fun _ => none⟩
def sched_Order_O (n : Nat) : FuncId → List FSpec := asc [(19, ⟨sched_givers_ins, sched_givers_outs, sched_givers n⟩), (20, ⟨sched_Order_1_ins, sched_Order_1_outs, sched_Order_1 n⟩), (23, ⟨slices_Index_bool_bool_ins, slices_Index_bool_bool_outs, slices_Index_bool_bool n⟩)]
def b7 : Code := bodyOf Tryd.f7
theorem sched_Order_l7_k0 (n : Nat) : LoopOk P CC (sched_Order_O n) n 1 64 (sched_Order_H n) ⟨[0, 6, 7, 8], sched_Order_l7_h, sched_Order_l7_o, sched_Order_l7 n⟩ ((loopsOf b7).getD 0 .skip) := by
  refine ⟨fun _ => by kernel_rfl, ?_⟩
  rintro k ⟨⟨⟨⟩, ⟨⟩, ⟨⟩, ⟨⟩, ⟨⟩⟩, ⟨x1, ⟨⟨⟩, ⟨⟩⟩, ⟨⟨⟩, ⟨⟩⟩, x2, x3, x4, ⟨⟩⟩⟩
  kernel_rfl
theorem sched_Order_l10_k1 (n : Nat) : LoopOk P CC (sched_Order_O n) n 1 64 (sched_Order_H n) ⟨[0, 6, 7, 8, 9, 29, 30, 31], sched_Order_l10_h, sched_Order_l10_o, sched_Order_l10 n⟩ ((loopsOf b7).getD 1 .skip) := by
  refine ⟨fun _ => by kernel_rfl, ?_⟩
  rintro k ⟨⟨⟨⟩, ⟨⟩, ⟨⟩, ⟨⟩, x1, ⟨⟩, x2, x3, ⟨⟩⟩, ⟨x4, ⟨⟨⟩, ⟨⟩⟩, ⟨⟨⟩, ⟨⟩⟩, x5, x6, x7, ⟨⟩⟩⟩
  kernel_rfl
theorem sched_Order_ok {S : Nat → Addr} (ok : CfgOk P CC S) : ∀ n, SpecOk P CC S 7 ⟨sched_Order_ins, sched_Order_outs, sched_Order n⟩ :=
  fn_all ok (O := sched_Order_O) (H := sched_Order_H) (fn := Tryd.f7) (body := b7) (by kernel_rfl) (by kernel_rfl) (by kernel_rfl) (by decide) (by kernel_rfl)
    (fun x => by kernel_rfl) (fun n => by
      rintro ⟨⟨⟨⟩, ⟨⟩⟩, ⟨x1, ⟨⟩⟩⟩
      kernel_rfl)
    (fun n => obl_of (by kernel_rfl) (by kernel_rfl) (ls (ls (lz) (by kernel_rfl) (sched_Order_l7_k0 n)) (by kernel_rfl) (sched_Order_l10_k1 n)) (cn (cn (cn (cn (cn (cn (cn (cn (cn (cn (cn (cn (cn (cn (cn (cn (cn (cn (cn (cn (cn (cn (cn (cn (cn (cz) (by kernel_rfl)) (by kernel_rfl)) (by kernel_rfl)) (by kernel_rfl)) (by kernel_rfl)) (by kernel_rfl)) (by kernel_rfl)) (by kernel_rfl)) (by kernel_rfl)) (by kernel_rfl)) (by kernel_rfl)) (by kernel_rfl)) (by kernel_rfl)) (by kernel_rfl)) (by kernel_rfl)) (by kernel_rfl)) (by kernel_rfl)) (by kernel_rfl)) (by kernel_rfl)) (by kernel_rfl)) (by kernel_rfl)) (by kernel_rfl)) (by kernel_rfl)) (by kernel_rfl)) (by kernel_rfl)) (hn fun _ => rfl))
    (fun n ih => asc_cons (sched_givers_ok ok n) <| asc_cons (sched_Order_1_ok ok n) <| asc_cons (slices_Index_bool_bool_ok ok n) <| asc_nil)
/-! ### pendulum/pendulumref.SameTexts -/
abbrev ref_SameTexts_ins : Sh := ⟨[(.one (.val ty1)), (.one (.val ty1))], []⟩
abbrev ref_SameTexts_outs : List Sh := [⟨[(.one (.val .bool))], []⟩]
abbrev ref_SameTexts_l4_h : Sh := ⟨[(.one (.val ty1)), (.one (.val ty1)), (.one (.val (.int .i64)))], []⟩
abbrev ref_SameTexts_l4_o : List Out := [⟨(.exit 0), [], ⟨[], []⟩⟩, ⟨.ret, [4], ⟨[(.one (.val .bool))], []⟩⟩]
def ref_SameTexts_l4 (n : Nat) : Nat → ref_SameTexts_l4_h.T → Option (OutT ref_SameTexts_l4_o)
  | 0, _ => none
  | k + 1, ((x1, x2, x3, _), _) =>
    if decide (x3 < (x1.length : Int)) then
      if 0 ≤ x3 ∧ x3 < (x1.length : Int) then (
        if 0 ≤ x3 ∧ x3 < (x2.length : Int) then (
          if !(strEq (rdT (.str : Ty) x1 x3) (rdT (.str : Ty) x2 x3)) then
            some (.inr (.inl ((false, ()), ())))
          else
            let v4 : Int := IntKind.i64.wrap (x3 + 1)
            ref_SameTexts_l4 n k ((x1, x2, v4, ()), ())) else none) else none
    else
      some (.inl ((), ()))
def ref_SameTexts : Nat → ref_SameTexts_ins.T → Option (OutsT ref_SameTexts_outs)
  | 0, _ => none
  | n + 1, ((x1, x2, _), _) =>
    if (x1.length : Int) != (x2.length : Int) then
      some ((false, ()), ())
    else
      match ref_SameTexts_l4 n n ((x1, x2, 0, ()), ()) with
      | some (.inl (_, _)) => (
        some ((true, ()), ()))
      | some (.inr (.inl ((x3, _), _))) => (
        some ((x3, ()), ()))
      | some (.inr (.inr (_))) => none
      | none => none
def ref_SameTexts_H (n : Nat) : Hints := ⟨[], fun _ => [], fun k => match k with | 4 => some ⟨[0, 1, 5], ref_SameTexts_l4_h, ref_SameTexts_l4_o, ref_SameTexts_l4 n⟩ | _ => none, fun _ => none, fun _ => none⟩
def ref_SameTexts_O (n : Nat) : FuncId → List FSpec := asc []
def b17 : Code := bodyOf Tryd.f17
theorem ref_SameTexts_l4_k0 (n : Nat) : LoopOk P CC (ref_SameTexts_O n) n 0 29 (ref_SameTexts_H n) ⟨[0, 1, 5], ref_SameTexts_l4_h, ref_SameTexts_l4_o, ref_SameTexts_l4 n⟩ ((loopsOf b17).getD 0 .skip) := by
  refine ⟨fun _ => by kernel_rfl, ?_⟩
  rintro k ⟨⟨x1, x2, x3, ⟨⟩⟩, ⟨⟩⟩
  kernel_rfl
theorem ref_SameTexts_ok {S : Nat → Addr} (ok : CfgOk P CC S) : ∀ n, SpecOk P CC S 17 ⟨ref_SameTexts_ins, ref_SameTexts_outs, ref_SameTexts n⟩ :=
  fn_all ok (O := ref_SameTexts_O) (H := ref_SameTexts_H) (fn := Tryd.f17) (body := b17) (by kernel_rfl) (by kernel_rfl) (by kernel_rfl) (by decide) (by kernel_rfl)
    (fun x => by kernel_rfl) (fun n => by
      rintro ⟨⟨x1, x2, ⟨⟩⟩, ⟨⟩⟩
      kernel_rfl)
    (fun n => obl_of (by kernel_rfl) (by kernel_rfl) (ls (lz) (by kernel_rfl) (ref_SameTexts_l4_k0 n)) (cn (cn (cn (cn (cn (cn (cn (cn (cn (cn (cn (cn (cn (cz) (by kernel_rfl)) (by kernel_rfl)) (by kernel_rfl)) (by kernel_rfl)) (by kernel_rfl)) (by kernel_rfl)) (by kernel_rfl)) (by kernel_rfl)) (by kernel_rfl)) (by kernel_rfl)) (by kernel_rfl)) (by kernel_rfl)) (by kernel_rfl)) (hn fun _ => rfl))
    (fun n ih => asc_nil)
/-! ### pendulum/pendulumlaw18.first -/
abbrev law18_first_ins : Sh := ⟨[], []⟩
abbrev law18_first_outs : List Sh := [⟨[(.one (.val .bool))], []⟩]
def law18_first : Nat → law18_first_ins.T → Option (OutsT law18_first_outs)
  | 0, _ => none
  | n + 1, (_, _) =>
    match sched_Order n (((), ()), ([], ())) with
    | some ((((_, _), (x1, _), _), _), (l2, l3, _)) => (
      if (l3.length : Int) == 0 then
        if errNil x1 then
          match sched_Needs n ((([(⟨#[120]⟩ : ByteArray)], 21, (⟨#[]⟩ : ByteArray), 0, [((⟨#[97]⟩ : ByteArray), (0, 0)), ((⟨#[98]⟩ : ByteArray), (0, 0))], [], (⟨#[]⟩ : ByteArray), (⟨#[]⟩ : ByteArray), (⟨#[]⟩ : ByteArray), ()), ()), ()) with
          | some ((_, _), (l4, _)) => (
            match ref_SameTexts n ((l4, [(⟨#[97]⟩ : ByteArray)], ()), ()) with
            | some ((x5, _), _) => (
              some ((x5, ()), ()))
            | none => none)
          | none => none
        else
          some ((false, ()), ())
      else
        some ((false, ()), ()))
    | none => none
def law18_first_H (n : Nat) : Hints := ⟨[], fun _ => [], fun _ => none, fun _ => none, fun _ => none⟩
def law18_first_O (n : Nat) : FuncId → List FSpec := asc [(7, ⟨sched_Order_ins, sched_Order_outs, sched_Order n⟩), (11, ⟨sched_Needs_ins, sched_Needs_outs, sched_Needs n⟩), (17, ⟨ref_SameTexts_ins, ref_SameTexts_outs, ref_SameTexts n⟩)]
def b5 : Code := bodyOf Tryd.f5
theorem law18_first_ok {S : Nat → Addr} (ok : CfgOk P CC S) : ∀ n, SpecOk P CC S 5 ⟨law18_first_ins, law18_first_outs, law18_first n⟩ :=
  fn_all ok (O := law18_first_O) (H := law18_first_H) (fn := Tryd.f5) (body := b5) (by kernel_rfl) (by kernel_rfl) (by kernel_rfl) (by decide) (by kernel_rfl)
    (fun x => by kernel_rfl) (fun n => by
      rintro ⟨⟨⟩, ⟨⟩⟩
      kernel_rfl)
    (fun n => obl_of (by kernel_rfl) (by kernel_rfl) (lz) (cn (cn (cn (cn (cz) (by kernel_rfl)) (by kernel_rfl)) (by kernel_rfl)) (by kernel_rfl)) (hn fun _ => rfl))
    (fun n ih => asc_cons (sched_Order_ok ok n) <| asc_cons (sched_Needs_ok ok n) <| asc_cons (ref_SameTexts_ok ok n) <| asc_nil)
/-! ### pendulum/pendulumworld.texts -/
abbrev world_texts_ins : Sh := ⟨[(.one (.val ty1))], []⟩
abbrev world_texts_outs : List Sh := [⟨[(.one (.val .bool))], []⟩]
abbrev world_texts_l2_h : Sh := ⟨[(.one (.val ty1)), (.one (.val (.int .i64)))], []⟩
abbrev world_texts_l2_o : List Out := [⟨(.exit 0), [0], ⟨[(.one (.val ty1))], []⟩⟩, ⟨.ret, [2], ⟨[(.one (.val .bool))], []⟩⟩]
def world_texts_l2 (n : Nat) : Nat → world_texts_l2_h.T → Option (OutT world_texts_l2_o)
  | 0, _ => none
  | k + 1, ((x1, x2, _), _) =>
    if decide (x2 < (x1.length : Int)) then
      if 0 ≤ x2 ∧ x2 < (x1.length : Int) then (
        if decide (((rdT (.str : Ty) x1 x2).size : Int) > 60) then
          some (.inr (.inl ((false, ()), ())))
        else
          let v3 : Int := IntKind.i64.wrap (x2 + 1)
          world_texts_l2 n k ((x1, v3, ()), ())) else none
    else
      some (.inl ((x1, ()), ()))
def world_texts : Nat → world_texts_ins.T → Option (OutsT world_texts_outs)
  | 0, _ => none
  | n + 1, ((x1, _), _) =>
    match world_texts_l2 n n ((x1, 0, ()), ()) with
    | some (.inl ((x2, _), _)) => (
      some ((decide ((x2.length : Int) ≤ 20), ()), ()))
    | some (.inr (.inl ((x3, _), _))) => (
      some ((x3, ()), ()))
    | some (.inr (.inr (_))) => none
    | none => none
def world_texts_H (n : Nat) : Hints := ⟨[], fun _ => [], fun k => match k with | 2 => some ⟨[0, 3], world_texts_l2_h, world_texts_l2_o, world_texts_l2 n⟩ | _ => none, fun _ => none, fun _ => none⟩
def world_texts_O (n : Nat) : FuncId → List FSpec := asc []
def b18 : Code := bodyOf Tryd.f18
theorem world_texts_l2_k0 (n : Nat) : LoopOk P CC (world_texts_O n) n 0 19 (world_texts_H n) ⟨[0, 3], world_texts_l2_h, world_texts_l2_o, world_texts_l2 n⟩ ((loopsOf b18).getD 0 .skip) := by
  refine ⟨fun _ => by kernel_rfl, ?_⟩
  rintro k ⟨⟨x1, x2, ⟨⟩⟩, ⟨⟩⟩
  kernel_rfl
theorem world_texts_ok {S : Nat → Addr} (ok : CfgOk P CC S) : ∀ n, SpecOk P CC S 18 ⟨world_texts_ins, world_texts_outs, world_texts n⟩ :=
  fn_all ok (O := world_texts_O) (H := world_texts_H) (fn := Tryd.f18) (body := b18) (by kernel_rfl) (by kernel_rfl) (by kernel_rfl) (by decide) (by kernel_rfl)
    (fun x => by kernel_rfl) (fun n => by
      rintro ⟨⟨x1, ⟨⟩⟩, ⟨⟩⟩
      kernel_rfl)
    (fun n => obl_of (by kernel_rfl) (by kernel_rfl) (ls (lz) (by kernel_rfl) (world_texts_l2_k0 n)) (cn (cn (cn (cn (cn (cn (cn (cn (cn (cz) (by kernel_rfl)) (by kernel_rfl)) (by kernel_rfl)) (by kernel_rfl)) (by kernel_rfl)) (by kernel_rfl)) (by kernel_rfl)) (by kernel_rfl)) (by kernel_rfl)) (hn fun _ => rfl))
    (fun n ih => asc_nil)
/-! ### pendulum/pendulumworld.Plains -/
abbrev world_Plains_ins : Sh := ⟨[(.one (.val ty15))], []⟩
abbrev world_Plains_outs : List Sh := [⟨[(.one (.val .bool))], []⟩]
abbrev world_Plains_l8_h : Sh := ⟨[(.one (.val ty15)), (.one (.val (.int .i64))), (.one (.ptr 0 0)), (.one (.val (.int .i64)))], [(.obj 38 [(.val ty1), (.val (.int .i64)), (.val .str), (.val (.int .i64)), (.val ty6), (.val ty10), (.val .str), (.val .str), (.val .str)])]⟩
abbrev world_Plains_l8_o : List Out := [⟨(.exit 2), [0, 3, 4], ⟨[(.one (.val ty15)), (.one (.val (.int .i64))), (.one (.ptr 0 0))], [(.obj 38 [(.val ty1), (.val (.int .i64)), (.val .str), (.val (.int .i64)), (.val ty6), (.val ty10), (.val .str), (.val .str), (.val .str)])]⟩⟩, ⟨.ret, [2], ⟨[(.one (.val .bool))], []⟩⟩]
def world_Plains_l8 (n : Nat) : Nat → world_Plains_l8_h.T → Option (OutT world_Plains_l8_o)
  | 0, _ => none
  | k + 1, ((x1, x2, _, x3, _), ((x4, x5, x6, x7, x8, x9, x10, x11, x12, _), _)) =>
    if decide (x3 < (x8.length : Int)) then
      if 0 ≤ x3 ∧ x3 < (x8.length : Int) then (
        if decide ((((rdT ty7 x8 x3).1).size : Int) > 60) then
          some (.inr (.inl ((false, ()), ())))
        else
          let v13 : Int := IntKind.i64.wrap (x3 + 1)
          world_Plains_l8 n k ((x1, x2, (), v13, ()), ((x4, x5, x6, x7, x8, x9, x10, x11, x12, ()), ()))) else none
    else
      some (.inl ((x1, x2, (), ()), ((x4, x5, x6, x7, x8, x9, x10, x11, x12, ()), ())))
abbrev world_Plains_l13_h : Sh := ⟨[(.one (.val ty15)), (.one (.val (.int .i64))), (.one (.ptr 0 0)), (.one (.val (.int .i64)))], [(.obj 38 [(.val ty1), (.val (.int .i64)), (.val .str), (.val (.int .i64)), (.val ty6), (.val ty10), (.val .str), (.val .str), (.val .str)])]⟩
abbrev world_Plains_l13_o : List Out := [⟨(.exit 4), [0, 3], ⟨[(.one (.val ty15)), (.one (.val (.int .i64)))], []⟩⟩, ⟨.ret, [2], ⟨[(.one (.val .bool))], []⟩⟩]
def world_Plains_l13 (n : Nat) : Nat → world_Plains_l13_h.T → Option (OutT world_Plains_l13_o)
  | 0, _ => none
  | k + 1, ((x1, x2, _, x3, _), ((x4, x5, x6, x7, x8, x9, x10, x11, x12, _), _)) =>
    if decide (x3 < (x9.length : Int)) then
      if 0 ≤ x3 ∧ x3 < (x9.length : Int) then (
        if decide ((((rdT ty11 x9 x3).1).size : Int) > 60) then
          some (.inr (.inl ((false, ()), ())))
        else
          let v13 : Int := IntKind.i64.wrap (x3 + 1)
          world_Plains_l13 n k ((x1, x2, (), v13, ()), ((x4, x5, x6, x7, x8, x9, x10, x11, x12, ()), ()))) else none
    else
      some (.inl ((x1, x2, ()), ()))
abbrev world_Plains_l2_h : Sh := ⟨[(.one (.val ty15)), (.one (.val (.int .i64)))], []⟩
abbrev world_Plains_l2_o : List Out := [⟨(.exit 0), [0], ⟨[(.one (.val ty15))], []⟩⟩, ⟨.ret, [2], ⟨[(.one (.val .bool))], []⟩⟩]
def world_Plains_l2 (n : Nat) : Nat → world_Plains_l2_h.T → Option (OutT world_Plains_l2_o)
  | 0, _ => none
  | k + 1, ((x1, x2, _), _) =>
    if decide (x2 < (x1.length : Int)) then
      if 0 ≤ x2 ∧ x2 < (x1.length : Int) then (
        match world_texts n (((rdT ty0 x1 x2).1, ()), ()) with
        | some ((x3, _), _) => (
          if !x3 then
            some (.inr (.inl ((false, ()), ())))
          else
            if decide ((((((((rdT ty0 x1 x2).2).2).2).2).1).length : Int) > 10) then
              some (.inr (.inl ((false, ()), ())))
            else
              if decide (((((((((rdT ty0 x1 x2).2).2).2).2).2).1).length : Int) > 10) then
                some (.inr (.inl ((false, ()), ())))
              else
                let v4 : Int := IntKind.i64.wrap ((((((rdT ty0 x1 x2).2).2).1).size : Int) + ((((((((((rdT ty0 x1 x2).2).2).2).2).2).2).2).1).size : Int))
                let v5 : Int := IntKind.i64.wrap (v4 + ((((((((((rdT ty0 x1 x2).2).2).2).2).2).2).2).2).size : Int))
                if decide (v5 > 100) then
                  some (.inr (.inl ((false, ()), ())))
                else
                  match world_Plains_l8 n n ((x1, x2, (), 0, ()), (((rdT ty0 x1 x2).1, ((rdT ty0 x1 x2).2).1, (((rdT ty0 x1 x2).2).2).1, ((((rdT ty0 x1 x2).2).2).2).1, (((((rdT ty0 x1 x2).2).2).2).2).1, ((((((rdT ty0 x1 x2).2).2).2).2).2).1, (((((((rdT ty0 x1 x2).2).2).2).2).2).2).1, ((((((((rdT ty0 x1 x2).2).2).2).2).2).2).2).1, ((((((((rdT ty0 x1 x2).2).2).2).2).2).2).2).2, ()), ())) with
                  | some (.inl ((x6, x7, _, _), ((x8, x9, x10, x11, x12, x13, x14, x15, x16, _), _))) => (
                    match world_Plains_l13 n n ((x6, x7, (), 0, ()), ((x8, x9, x10, x11, x12, x13, x14, x15, x16, ()), ())) with
                    | some (.inl ((x18, x19, _), _)) => (
                      let v21 : Int := IntKind.i64.wrap (x19 + 1)
                      world_Plains_l2 n k ((x18, v21, ()), ()))
                    | some (.inr (.inl ((x20, _), _))) => (
                      some (.inr (.inl ((x20, ()), ()))))
                    | some (.inr (.inr (_))) => none
                    | none => none)
                  | some (.inr (.inl ((x17, _), _))) => (
                    some (.inr (.inl ((x17, ()), ()))))
                  | some (.inr (.inr (_))) => none
                  | none => none)
        | none => none) else none
    else
      some (.inl ((x1, ()), ()))
def world_Plains : Nat → world_Plains_ins.T → Option (OutsT world_Plains_outs)
  | 0, _ => none
  | n + 1, ((x1, _), _) =>
    match world_Plains_l2 n n ((x1, 0, ()), ()) with
    | some (.inl ((x2, _), _)) => (
      some ((decide ((x2.length : Int) ≤ 30), ()), ()))
    | some (.inr (.inl ((x3, _), _))) => (
      some ((x3, ()), ()))
    | some (.inr (.inr (_))) => none
    | none => none
def world_Plains_H (n : Nat) : Hints := ⟨[], fun _ => [], fun k => match k with | 8 => some ⟨[0, 3, 4, 5], world_Plains_l8_h, world_Plains_l8_o, world_Plains_l8 n⟩ | 13 => some ⟨[0, 3, 4, 6], world_Plains_l13_h, world_Plains_l13_o, world_Plains_l13 n⟩ | 2 => some ⟨[0, 3], world_Plains_l2_h, world_Plains_l2_o, world_Plains_l2 n⟩ | _ => none, fun _ => none, fun _ => none⟩
def world_Plains_O (n : Nat) : FuncId → List FSpec := asc [(18, ⟨world_texts_ins, world_texts_outs, world_texts n⟩)]
def b6 : Code := bodyOf Tryd.f6
theorem world_Plains_l2_k0 (n : Nat) : LoopOk P CC (world_Plains_O n) n 0 80 (world_Plains_H n) ⟨[0, 3], world_Plains_l2_h, world_Plains_l2_o, world_Plains_l2 n⟩ ((loopsOf b6).getD 0 .skip) := by
  refine ⟨fun _ => by kernel_rfl, ?_⟩
  rintro k ⟨⟨x1, x2, ⟨⟩⟩, ⟨⟩⟩
  kernel_rfl
theorem world_Plains_l8_k1 (n : Nat) : LoopOk P CC (world_Plains_O n) n 0 80 (world_Plains_H n) ⟨[0, 3, 4, 5], world_Plains_l8_h, world_Plains_l8_o, world_Plains_l8 n⟩ ((loopsOf b6).getD 1 .skip) := by
  refine ⟨fun _ => by kernel_rfl, ?_⟩
  rintro k ⟨⟨x1, x2, ⟨⟩, x3, ⟨⟩⟩, ⟨⟨x4, x5, x6, x7, x8, x9, x10, x11, x12, ⟨⟩⟩, ⟨⟩⟩⟩
  kernel_rfl
theorem world_Plains_l13_k2 (n : Nat) : LoopOk P CC (world_Plains_O n) n 0 80 (world_Plains_H n) ⟨[0, 3, 4, 6], world_Plains_l13_h, world_Plains_l13_o, world_Plains_l13 n⟩ ((loopsOf b6).getD 2 .skip) := by
  refine ⟨fun _ => by kernel_rfl, ?_⟩
  rintro k ⟨⟨x1, x2, ⟨⟩, x3, ⟨⟩⟩, ⟨⟨x4, x5, x6, x7, x8, x9, x10, x11, x12, ⟨⟩⟩, ⟨⟩⟩⟩
  kernel_rfl
theorem world_Plains_ok {S : Nat → Addr} (ok : CfgOk P CC S) : ∀ n, SpecOk P CC S 6 ⟨world_Plains_ins, world_Plains_outs, world_Plains n⟩ :=
  fn_all ok (O := world_Plains_O) (H := world_Plains_H) (fn := Tryd.f6) (body := b6) (by kernel_rfl) (by kernel_rfl) (by kernel_rfl) (by decide) (by kernel_rfl)
    (fun x => by kernel_rfl) (fun n => by
      rintro ⟨⟨x1, ⟨⟩⟩, ⟨⟩⟩
      kernel_rfl)
    (fun n => obl_of (by kernel_rfl) (by kernel_rfl) (ls (ls (ls (lz) (by kernel_rfl) (world_Plains_l2_k0 n)) (by kernel_rfl) (world_Plains_l8_k1 n)) (by kernel_rfl) (world_Plains_l13_k2 n)) (cn (cn (cn (cn (cn (cn (cn (cn (cn (cn (cn (cn (cn (cn (cn (cn (cn (cn (cn (cn (cn (cn (cn (cn (cz) (by kernel_rfl)) (by kernel_rfl)) (by kernel_rfl)) (by kernel_rfl)) (by kernel_rfl)) (by kernel_rfl)) (by kernel_rfl)) (by kernel_rfl)) (by kernel_rfl)) (by kernel_rfl)) (by kernel_rfl)) (by kernel_rfl)) (by kernel_rfl)) (by kernel_rfl)) (by kernel_rfl)) (by kernel_rfl)) (by kernel_rfl)) (by kernel_rfl)) (by kernel_rfl)) (by kernel_rfl)) (by kernel_rfl)) (by kernel_rfl)) (by kernel_rfl)) (by kernel_rfl)) (hn fun _ => rfl))
    (fun n ih => asc_cons (world_texts_ok ok n) <| asc_nil)
/-! ### pendulum/sched.givers -/
abbrev sched_givers_2_ins : Sh := ⟨[(.one (.val ty15))], []⟩
abbrev sched_givers_2_outs : List Sh := [⟨[(.tup [(false, [(.map 0)]), (false, [(.val .err)])])], [(.map .str (.int .i64) false)]⟩, ⟨[(.tup [(false, [.nilmap]), (false, [(.val .err)])])], []⟩]
abbrev sched_givers_2_l6_h : Sh := ⟨[(.one (.map 0)), (.one (.val (.int .i64))), (.one (.val ty15)), (.one (.val (.int .i64))), (.one (.val (.int .i64))), (.one (.val ty1)), (.one (.val (.int .i64))), (.one (.val (.int .i64)))], [(.map .str (.int .i64) false)]⟩
abbrev sched_givers_2_l6_o : List Out := [⟨(.exit 2), [4, 12, 13, 14], ⟨[(.one (.map 0)), (.one (.val ty15)), (.one (.val (.int .i64))), (.one (.val (.int .i64)))], [(.map .str (.int .i64) false)]⟩⟩, ⟨.ret, [2, 3], ⟨[(.one .nilmap), (.one (.val .err))], []⟩⟩]
def sched_givers_2_l6 (n : Nat) : Nat → sched_givers_2_l6_h.T → Option (OutT sched_givers_2_l6_o)
  | 0, _ => none
  | k + 1, ((_, x1, x2, x3, x4, x5, x6, x7, _), (m8, _)) =>
    if decide (x7 < x6) then
      if 0 ≤ x7 ∧ x7 < (x5.length : Int) then (
        let v9 : Int := (mfind (keyEq (.str : Ty)) (rdT (.str : Ty) x5 x7) m8).getD 0
        if (mfind (keyEq (.str : Ty)) (rdT (.str : Ty) x5 x7) m8).isSome then
          if v9 != x1 then
            some (.inr (.inl (((), ErrV.at_ x1 (ErrV.sent 110), ()), ())))
          else
            let v10 : Int := IntKind.i64.wrap (x7 + 1)
            sched_givers_2_l6 n k (((), x1, x2, x3, x4, x5, x6, v10, ()), (mset (keyEq (.str : Ty)) (rdT (.str : Ty) x5 x7) x1 m8, ()))
        else
          let v11 : Int := IntKind.i64.wrap (x7 + 1)
          sched_givers_2_l6 n k (((), x1, x2, x3, x4, x5, x6, v11, ()), (mset (keyEq (.str : Ty)) (rdT (.str : Ty) x5 x7) x1 m8, ()))) else none
    else
      some (.inl (((), x2, x3, x4, ()), (m8, ())))
abbrev sched_givers_2_l3_h : Sh := ⟨[(.one (.map 0)), (.one (.val ty15)), (.one (.val (.int .i64))), (.one (.val (.int .i64)))], [(.map .str (.int .i64) false)]⟩
abbrev sched_givers_2_l3_o : List Out := [⟨(.exit 0), [4], ⟨[(.one (.map 0))], [(.map .str (.int .i64) false)]⟩⟩, ⟨.ret, [2, 3], ⟨[(.one .nilmap), (.one (.val .err))], []⟩⟩]
def sched_givers_2_l3 (n : Nat) : Nat → sched_givers_2_l3_h.T → Option (OutT sched_givers_2_l3_o)
  | 0, _ => none
  | k + 1, ((_, x1, x2, x3, _), (m4, _)) =>
    if decide (x3 < x2) then
      if 0 ≤ x3 ∧ x3 < (x1.length : Int) then (
        match sched_givers_2_l6 n n (((), x3, x1, x2, x3, (rdT ty0 x1 x3).1, (((rdT ty0 x1 x3).1).length : Int), 0, ()), (m4, ())) with
        | some (.inl ((_, x5, x6, x7, _), (m8, _))) => (
          let v10 : Int := IntKind.i64.wrap (x7 + 1)
          sched_givers_2_l3 n k (((), x5, x6, v10, ()), (m8, ())))
        | some (.inr (.inl ((_, x9, _), _))) => (
          some (.inr (.inl (((), x9, ()), ()))))
        | some (.inr (.inr (_))) => none
        | none => none) else none
    else
      some (.inl (((), ()), (m4, ())))
def sched_givers_2 : Nat → sched_givers_2_ins.T → Option (OutsT sched_givers_2_outs)
  | 0, _ => none
  | n + 1, ((x1, _), _) =>
    match sched_givers_2_l3 n n (((), x1, (x1.length : Int), 0, ()), ([], ())) with
    | some (.inl ((_, _), (m2, _))) => (
      some (.inl (((((), ()), (ErrV.nil, ()), ()), ()), (m2, ()))))
    | some (.inr (.inl ((_, x3, _), _))) => (
      some (.inr ((((((), ()), (x3, ()), ()), ()), ()))))
    | some (.inr (.inr (_))) => none
    | none => none
def sched_givers_2_H (n : Nat) : Hints := ⟨[], fun _ => [], fun k => match k with | 6 => some ⟨[4, 5, 12, 13, 14, 20, 21, 22], sched_givers_2_l6_h, sched_givers_2_l6_o, sched_givers_2_l6 n⟩ | 3 => some ⟨[4, 12, 13, 14], sched_givers_2_l3_h, sched_givers_2_l3_o, sched_givers_2_l3 n⟩ | _ => none, fun _ => none, fun _ => none⟩
def sched_givers_2_O (n : Nat) : FuncId → List FSpec := asc []
theorem sched_givers_2_l3_k0 (n : Nat) : LoopOk P CC (sched_givers_2_O n) n 0 49 (sched_givers_2_H n) ⟨[4, 12, 13, 14], sched_givers_2_l3_h, sched_givers_2_l3_o, sched_givers_2_l3 n⟩ ((loopsOf b19).getD 0 .skip) := by
  refine ⟨fun _ => by kernel_rfl, ?_⟩
  rintro k ⟨⟨⟨⟩, x1, x2, x3, ⟨⟩⟩, ⟨x4, ⟨⟩⟩⟩
  kernel_rfl
theorem sched_givers_2_l6_k1 (n : Nat) : LoopOk P CC (sched_givers_2_O n) n 0 49 (sched_givers_2_H n) ⟨[4, 5, 12, 13, 14, 20, 21, 22], sched_givers_2_l6_h, sched_givers_2_l6_o, sched_givers_2_l6 n⟩ ((loopsOf b19).getD 1 .skip) := by
  refine ⟨fun _ => by kernel_rfl, ?_⟩
  rintro k ⟨⟨⟨⟩, x1, x2, x3, x4, x5, x6, x7, ⟨⟩⟩, ⟨x8, ⟨⟩⟩⟩
  kernel_rfl
theorem sched_givers_2_ok {S : Nat → Addr} (ok : CfgOk P CC S) : ∀ n, SpecOk P CC S 19 ⟨sched_givers_2_ins, sched_givers_2_outs, sched_givers_2 n⟩ :=
  fn_all ok (O := sched_givers_2_O) (H := sched_givers_2_H) (fn := Tryd.f19) (body := b19) (by kernel_rfl) (by kernel_rfl) (by kernel_rfl) (by decide) (by kernel_rfl)
    (fun x => by kernel_rfl) (fun n => by
      rintro ⟨⟨x1, ⟨⟩⟩, ⟨⟩⟩
      kernel_rfl)
    (fun n => obl_of (by kernel_rfl) (by kernel_rfl) (ls (ls (lz) (by kernel_rfl) (sched_givers_2_l3_k0 n)) (by kernel_rfl) (sched_givers_2_l6_k1 n)) (cn (cn (cn (cn (cn (cn (cn (cn (cn (cn (cn (cn (cn (cn (cn (cn (cn (cn (cz) (by kernel_rfl)) (by kernel_rfl)) (by kernel_rfl)) (by kernel_rfl)) (by kernel_rfl)) (by kernel_rfl)) (by kernel_rfl)) (by kernel_rfl)) (by kernel_rfl)) (by kernel_rfl)) (by kernel_rfl)) (by kernel_rfl)) (by kernel_rfl)) (by kernel_rfl)) (by kernel_rfl)) (by kernel_rfl)) (by kernel_rfl)) (by kernel_rfl)) (hn fun _ => rfl))
    (fun n ih => asc_nil)
/-! ### pendulum/sched.Order -/
abbrev sched_Order_2_ins : Sh := ⟨[(.one (.val ty15))], []⟩
abbrev sched_Order_2_outs : List Sh := [⟨[(.tup [(false, [(.arr 0)]), (false, [(.val .err)])])], [(.arr 3 (.int .i64))]⟩]
abbrev sched_Order_2_l10_h : Sh := ⟨[(.one (.val ty15)), (.one (.ptr 0 0)), (.one (.fn 20 [1, 0])), (.one (.arr 2)), (.one (.val (.int .i64))), (.one (.val ty15)), (.one (.val (.int .i64))), (.one (.val (.int .i64)))], [(.obj 57 [(.arr 3)]), (.obj 54 [(.map 4)]), (.arr 3 (.int .i64)), (.arr 4 .bool), (.map .str (.int .i64) false)]⟩
abbrev sched_Order_2_l10_o : List Out := [⟨(.exit 2), [0, 6, 7, 8, 9], ⟨[(.one (.val ty15)), (.one (.ptr 0 0)), (.one (.fn 20 [1, 0])), (.one (.arr 2)), (.one (.val (.int .i64)))], [(.obj 57 [(.arr 3)]), (.obj 54 [(.map 4)]), (.arr 3 (.int .i64)), (.arr 4 .bool), (.map .str (.int .i64) false)]⟩⟩]
def sched_Order_2_l10 (n : Nat) : Nat → sched_Order_2_l10_h.T → Option (OutT sched_Order_2_l10_o)
  | 0, _ => none
  | k + 1, ((x1, _, _, _, x2, x3, x4, x5, _), ((_, _), (_, _), l6, l7, m8, _)) =>
    if decide (x5 < x4) then
      if 0 ≤ x5 ∧ x5 < (x3.length : Int) then (
        if 0 ≤ x5 ∧ x5 < (l7.length : Int) then (
          if !(rdT (.bool : Ty) l7 x5) then
            match sched_Order_1 n ((((rdT ty0 x3 x5).1, ((rdT ty0 x3 x5).2).1, (((rdT ty0 x3 x5).2).2).1, ((((rdT ty0 x3 x5).2).2).2).1, (((((rdT ty0 x3 x5).2).2).2).2).1, ((((((rdT ty0 x3 x5).2).2).2).2).2).1, (((((((rdT ty0 x3 x5).2).2).2).2).2).2).1, ((((((((rdT ty0 x3 x5).2).2).2).2).2).2).2).1, ((((((((rdT ty0 x3 x5).2).2).2).2).2).2).2).2, ()), (), (), ()), (((), ()), ((), ()), m8, l7, ())) with
            | some ((x9, _), ((_, _), (_, _), m10, l11, _)) => (
              if x9 then
                some (.inl ((x1, (), (), (), x5, ()), (((), ()), ((), ()), l6, l11, m10, ())))
              else
                let v12 : Int := IntKind.i64.wrap (x5 + 1)
                sched_Order_2_l10 n k ((x1, (), (), (), x2, x3, x4, v12, ()), (((), ()), ((), ()), l6, l11, m10, ())))
            | none => none
          else
            let v13 : Int := IntKind.i64.wrap (x5 + 1)
            sched_Order_2_l10 n k ((x1, (), (), (), x2, x3, x4, v13, ()), (((), ()), ((), ()), l6, l7, m8, ()))) else none) else none
    else
      some (.inl ((x1, (), (), (), x2, ()), (((), ()), ((), ()), l6, l7, m8, ())))
abbrev sched_Order_2_l7_h : Sh := ⟨[(.one (.val ty15)), (.one (.ptr 0 0)), (.one (.fn 20 [1, 0])), (.one (.arr 2))], [(.obj 57 [(.arr 3)]), (.obj 54 [(.map 4)]), (.arr 3 (.int .i64)), (.arr 4 .bool), (.map .str (.int .i64) false)]⟩
abbrev sched_Order_2_l7_o : List Out := [⟨(.exit 0), [8], ⟨[(.one (.arr 0))], [(.arr 3 (.int .i64))]⟩⟩, ⟨.ret, [2, 3], ⟨[(.one (.emp true)), (.one (.val .err))], []⟩⟩]
def sched_Order_2_l7 (n : Nat) : Nat → sched_Order_2_l7_h.T → Option (OutT sched_Order_2_l7_o)
  | 0, _ => none
  | k + 1, ((x1, _, _, _, _), ((_, _), (_, _), l2, l3, m4, _)) =>
    if decide ((l2.length : Int) < (x1.length : Int)) then
      match sched_Order_2_l10 n n ((x1, (), (), (), (-1), x1, (x1.length : Int), 0, ()), (((), ()), ((), ()), l2, l3, m4, ())) with
      | some (.inl ((x5, _, _, _, x6, _), ((_, _), (_, _), l7, l8, m9, _))) => (
        if decide (x6 < 0) then
          match slices_Index_bool_bool n ((l8, false, ()), ()) with
          | some ((x10, _), _) => (
            some (.inr (.inl (((), ErrV.at_ x10 (ErrV.sent 113), ()), ()))))
          | none => none
        else
          if 0 ≤ x6 ∧ x6 < (l8.length : Int) then (
            if (l7.length + ([x6] : List ((.int .i64) : Ty).T).length) * 8 ≤ 140737488355328 then (
              sched_Order_2_l7 n k ((x5, (), (), (), ()), (((), ()), ((), ()), l7 ++ [x6], List.set l8 (x6 : Int).toNat true, m9, ()))) else none) else none)
      | some (.inr (_)) => none
      | none => none
    else
      some (.inl (((), ()), (l2, ())))
def sched_Order_2 : Nat → sched_Order_2_ins.T → Option (OutsT sched_Order_2_outs)
  | 0, _ => none
  | n + 1, ((x1, _), _) =>
    match sched_givers_2 n ((x1, ()), ()) with
    | some (.inl ((((_, _), (x2, _), _), _), (m3, _))) => (
      if !(errNil x2) then
        some (((((), ()), (x2, ()), ()), ()), ([], ()))
      else
        if 0 ≤ (x1.length : Int) ∧ (x1.length : Int) ≤ (x1.length : Int) ∧ (x1.length : Int) * ((1 : Nat) : Int) ≤ 140737488355328 ∧ (x1.length : Int) ≤ 140737488355328 then (
          match sched_Order_2_l7 n n ((x1, (), (), (), ()), (((), ()), ((), ()), [], List.replicate ((x1.length : Int) : Int).toNat false, m3, ())) with
          | some (.inl ((_, _), (l5, _))) => (
            some (((((), ()), (ErrV.nil, ()), ()), ()), (l5, ())))
          | some (.inr (.inl ((_, x6, _), _))) => (
            some (((((), ()), (x6, ()), ()), ()), ([], ())))
          | some (.inr (.inr (_))) => none
          | none => none) else none)
    | some (.inr (((((_, _), (x4, _), _), _), _))) => (
      if !(errNil x4) then
        some (((((), ()), (x4, ()), ()), ()), ([], ()))
      else
        if 0 ≤ (x1.length : Int) ∧ (x1.length : Int) ≤ (x1.length : Int) ∧ (x1.length : Int) * ((1 : Nat) : Int) ≤ 140737488355328 ∧ (x1.length : Int) ≤ 140737488355328 then
          none
        else
          none)
    | none => none
def sched_Order_2_H (n : Nat) : Hints := ⟨[], fun _ => [], fun k => match k with | 10 => some ⟨[0, 6, 7, 8, 9, 29, 30, 31], sched_Order_2_l10_h, sched_Order_2_l10_o, sched_Order_2_l10 n⟩ | 7 => some ⟨[0, 6, 7, 8], sched_Order_2_l7_h, sched_Order_2_l7_o, sched_Order_2_l7 n⟩ | _ => none, fun _ => none, fun _ => none⟩
def sched_Order_2_O (n : Nat) : FuncId → List FSpec := asc [(19, ⟨sched_givers_2_ins, sched_givers_2_outs, sched_givers_2 n⟩), (20, ⟨sched_Order_1_ins, sched_Order_1_outs, sched_Order_1 n⟩), (23, ⟨slices_Index_bool_bool_ins, slices_Index_bool_bool_outs, slices_Index_bool_bool n⟩)]
theorem sched_Order_2_l7_k0 (n : Nat) : LoopOk P CC (sched_Order_2_O n) n 0 64 (sched_Order_2_H n) ⟨[0, 6, 7, 8], sched_Order_2_l7_h, sched_Order_2_l7_o, sched_Order_2_l7 n⟩ ((loopsOf b7).getD 0 .skip) := by
  refine ⟨fun _ => by kernel_rfl, ?_⟩
  rintro k ⟨⟨x1, ⟨⟩, ⟨⟩, ⟨⟩, ⟨⟩⟩, ⟨⟨⟨⟩, ⟨⟩⟩, ⟨⟨⟩, ⟨⟩⟩, x2, x3, x4, ⟨⟩⟩⟩
  kernel_rfl
theorem sched_Order_2_l10_k1 (n : Nat) : LoopOk P CC (sched_Order_2_O n) n 0 64 (sched_Order_2_H n) ⟨[0, 6, 7, 8, 9, 29, 30, 31], sched_Order_2_l10_h, sched_Order_2_l10_o, sched_Order_2_l10 n⟩ ((loopsOf b7).getD 1 .skip) := by
  refine ⟨fun _ => by kernel_rfl, ?_⟩
  rintro k ⟨⟨x1, ⟨⟩, ⟨⟩, ⟨⟩, x2, x3, x4, x5, ⟨⟩⟩, ⟨⟨⟨⟩, ⟨⟩⟩, ⟨⟨⟩, ⟨⟩⟩, x6, x7, x8, ⟨⟩⟩⟩
  kernel_rfl
theorem sched_Order_2_ok {S : Nat → Addr} (ok : CfgOk P CC S) : ∀ n, SpecOk P CC S 7 ⟨sched_Order_2_ins, sched_Order_2_outs, sched_Order_2 n⟩ :=
  fn_all ok (O := sched_Order_2_O) (H := sched_Order_2_H) (fn := Tryd.f7) (body := b7) (by kernel_rfl) (by kernel_rfl) (by kernel_rfl) (by decide) (by kernel_rfl)
    (fun x => by kernel_rfl) (fun n => by
      rintro ⟨⟨x1, ⟨⟩⟩, ⟨⟩⟩
      kernel_rfl)
    (fun n => obl_of (by kernel_rfl) (by kernel_rfl) (ls (ls (lz) (by kernel_rfl) (sched_Order_2_l7_k0 n)) (by kernel_rfl) (sched_Order_2_l10_k1 n)) (cn (cn (cn (cn (cn (cn (cn (cn (cn (cn (cn (cn (cn (cn (cn (cn (cn (cn (cn (cn (cn (cn (cn (cn (cn (cz) (by kernel_rfl)) (by kernel_rfl)) (by kernel_rfl)) (by kernel_rfl)) (by kernel_rfl)) (by kernel_rfl)) (by kernel_rfl)) (by kernel_rfl)) (by kernel_rfl)) (by kernel_rfl)) (by kernel_rfl)) (by kernel_rfl)) (by kernel_rfl)) (by kernel_rfl)) (by kernel_rfl)) (by kernel_rfl)) (by kernel_rfl)) (by kernel_rfl)) (by kernel_rfl)) (by kernel_rfl)) (by kernel_rfl)) (by kernel_rfl)) (by kernel_rfl)) (by kernel_rfl)) (by kernel_rfl)) (hn fun _ => rfl))
    (fun n ih => asc_cons (sched_givers_2_ok ok n) <| asc_cons (sched_Order_1_ok ok n) <| asc_cons (slices_Index_bool_bool_ok ok n) <| asc_nil)
/-! ### pendulum/sched.Check$1 -/
abbrev sched_Check_1_ins : Sh := ⟨[(.one (.val .str)), (.one (.ptr 0 0)), (.one (.ptr 1 0))], [(.obj 54 [(.map 2)]), (.obj 54 [(.map 3)]), (.map .str (.int .i64) false), (.map .str (.int .i64) false)]⟩
abbrev sched_Check_1_outs : List Sh := [⟨[(.one (.val .bool))], [(.obj 54 [(.map 2)]), (.obj 54 [(.map 3)]), (.map .str (.int .i64) false), (.map .str (.int .i64) false)]⟩]
def sched_Check_1 : Nat → sched_Check_1_ins.T → Option (OutsT sched_Check_1_outs)
  | 0, _ => none
  | n + 1, ((x1, _, _, _), ((_, _), (_, _), m2, m3, _)) =>
    let v4 : Int := (mfind (keyEq (.str : Ty)) x1 m2).getD 0
    let v5 : Int := (mfind (keyEq (.str : Ty)) x1 m3).getD 0
    some ((decide (v4 > v5), ()), (((), ()), ((), ()), m2, m3, ()))
def sched_Check_1_H (n : Nat) : Hints := ⟨[], fun _ => [], fun _ => none, fun _ => none, fun _ => none⟩
def sched_Check_1_O (n : Nat) : FuncId → List FSpec := asc []
def b24 : Code := bodyOf Tryd.f24
theorem sched_Check_1_ok {S : Nat → Addr} (ok : CfgOk P CC S) : ∀ n, SpecOk P CC S 24 ⟨sched_Check_1_ins, sched_Check_1_outs, sched_Check_1 n⟩ :=
  fn_all ok (O := sched_Check_1_O) (H := sched_Check_1_H) (fn := Tryd.f24) (body := b24) (by kernel_rfl) (by kernel_rfl) (by kernel_rfl) (by decide) (by kernel_rfl)
    (fun x => by kernel_rfl) (fun n => by
      rintro ⟨⟨x1, ⟨⟩, ⟨⟩, ⟨⟩⟩, ⟨⟨⟨⟩, ⟨⟩⟩, ⟨⟨⟩, ⟨⟩⟩, x2, x3, ⟨⟩⟩⟩
      kernel_rfl)
    (fun n => obl_of (by kernel_rfl) (by kernel_rfl) (lz) (cn (cn (cz) (by kernel_rfl)) (by kernel_rfl)) (hn fun _ => rfl))
    (fun n ih => asc_nil)
/-! ### slices.IndexFunc[[]string,string] -/
abbrev slices_IndexFunc_string_string_2_ins : Sh := ⟨[(.one (.val ty1)), (.one (.fn 24 [0, 1]))], [(.obj 54 [(.map 2)]), (.obj 54 [(.map 3)]), (.map .str (.int .i64) false), (.map .str (.int .i64) false)]⟩
abbrev slices_IndexFunc_string_string_2_outs : List Sh := [⟨[(.one (.val (.int .i64)))], [(.obj 54 [(.map 2)]), (.obj 54 [(.map 3)]), (.map .str (.int .i64) false), (.map .str (.int .i64) false)]⟩]
abbrev slices_IndexFunc_string_string_2_l2_h : Sh := ⟨[(.one (.val ty1)), (.one (.fn 24 [0, 1])), (.one (.val (.int .i64))), (.one (.val (.int .i64)))], [(.obj 54 [(.map 2)]), (.obj 54 [(.map 3)]), (.map .str (.int .i64) false), (.map .str (.int .i64) false)]⟩
abbrev slices_IndexFunc_string_string_2_l2_o : List Out := [⟨(.exit 0), [], ⟨[], [(.obj 54 [(.map 2)]), (.obj 54 [(.map 3)]), (.map .str (.int .i64) false), (.map .str (.int .i64) false)]⟩⟩, ⟨.ret, [4], ⟨[(.one (.val (.int .i64)))], [(.obj 54 [(.map 2)]), (.obj 54 [(.map 3)]), (.map .str (.int .i64) false), (.map .str (.int .i64) false)]⟩⟩]
def slices_IndexFunc_string_string_2_l2 (n : Nat) : Nat → slices_IndexFunc_string_string_2_l2_h.T → Option (OutT slices_IndexFunc_string_string_2_l2_o)
  | 0, _ => none
  | k + 1, ((x1, _, x2, x3, _), ((_, _), (_, _), m4, m5, _)) =>
    if decide (x3 < x2) then
      if 0 ≤ x3 ∧ x3 < (x1.length : Int) then (
        match sched_Check_1 n ((rdT (.str : Ty) x1 x3, (), (), ()), (((), ()), ((), ()), m4, m5, ())) with
        | some ((x6, _), ((_, _), (_, _), m7, m8, _)) => (
          if x6 then
            some (.inr (.inl ((x3, ()), (((), ()), ((), ()), m7, m8, ()))))
          else
            let v9 : Int := IntKind.i64.wrap (x3 + 1)
            slices_IndexFunc_string_string_2_l2 n k ((x1, (), x2, v9, ()), (((), ()), ((), ()), m7, m8, ())))
        | none => none) else none
    else
      some (.inl ((), (((), ()), ((), ()), m4, m5, ())))
def slices_IndexFunc_string_string_2 : Nat → slices_IndexFunc_string_string_2_ins.T → Option (OutsT slices_IndexFunc_string_string_2_outs)
  | 0, _ => none
  | n + 1, ((x1, _, _), ((_, _), (_, _), m2, m3, _)) =>
    match slices_IndexFunc_string_string_2_l2 n n ((x1, (), (x1.length : Int), 0, ()), (((), ()), ((), ()), m2, m3, ())) with
    | some (.inl (_, ((_, _), (_, _), m4, m5, _))) => (
      some (((-1), ()), (((), ()), ((), ()), m4, m5, ())))
    | some (.inr (.inl ((x6, _), ((_, _), (_, _), m7, m8, _)))) => (
      some ((x6, ()), (((), ()), ((), ()), m7, m8, ())))
    | some (.inr (.inr (_))) => none
    | none => none
def slices_IndexFunc_string_string_2_H (n : Nat) : Hints := ⟨[], fun _ => [], fun k => match k with | 2 => some ⟨[0, 1, 7, 8], slices_IndexFunc_string_string_2_l2_h, slices_IndexFunc_string_string_2_l2_o, slices_IndexFunc_string_string_2_l2 n⟩ | _ => none, fun _ => none, fun _ => none⟩
def slices_IndexFunc_string_string_2_O (n : Nat) : FuncId → List FSpec := asc [(24, ⟨sched_Check_1_ins, sched_Check_1_outs, sched_Check_1 n⟩)]
theorem slices_IndexFunc_string_string_2_l2_k0 (n : Nat) : LoopOk P CC (slices_IndexFunc_string_string_2_O n) n 4 19 (slices_IndexFunc_string_string_2_H n) ⟨[0, 1, 7, 8], slices_IndexFunc_string_string_2_l2_h, slices_IndexFunc_string_string_2_l2_o, slices_IndexFunc_string_string_2_l2 n⟩ ((loopsOf b30).getD 0 .skip) := by
  refine ⟨fun _ => by kernel_rfl, ?_⟩
  rintro k ⟨⟨x1, ⟨⟩, x2, x3, ⟨⟩⟩, ⟨⟨⟨⟩, ⟨⟩⟩, ⟨⟨⟩, ⟨⟩⟩, x4, x5, ⟨⟩⟩⟩
  kernel_rfl
theorem slices_IndexFunc_string_string_2_ok {S : Nat → Addr} (ok : CfgOk P CC S) : ∀ n, SpecOk P CC S 30 ⟨slices_IndexFunc_string_string_2_ins, slices_IndexFunc_string_string_2_outs, slices_IndexFunc_string_string_2 n⟩ :=
  fn_all ok (O := slices_IndexFunc_string_string_2_O) (H := slices_IndexFunc_string_string_2_H) (fn := Tryd.f30) (body := b30) (by kernel_rfl) (by kernel_rfl) (by kernel_rfl) (by decide) (by kernel_rfl)
    (fun x => by kernel_rfl) (fun n => by
      rintro ⟨⟨x1, ⟨⟩, ⟨⟩⟩, ⟨⟨⟨⟩, ⟨⟩⟩, ⟨⟨⟩, ⟨⟩⟩, x2, x3, ⟨⟩⟩⟩
      kernel_rfl)
    (fun n => obl_of (by kernel_rfl) (by kernel_rfl) (ls (lz) (by kernel_rfl) (slices_IndexFunc_string_string_2_l2_k0 n)) (cn (cn (cn (cn (cn (cn (cn (cn (cn (cn (cz) (by kernel_rfl)) (by kernel_rfl)) (by kernel_rfl)) (by kernel_rfl)) (by kernel_rfl)) (by kernel_rfl)) (by kernel_rfl)) (by kernel_rfl)) (by kernel_rfl)) (by kernel_rfl)) (hn fun _ => rfl))
    (fun n ih => asc_cons (sched_Check_1_ok ok n) <| asc_nil)
/-! ### slices.ContainsFunc[[]string,string] -/
abbrev slices_ContainsFunc_string_string_2_ins : Sh := ⟨[(.one (.val ty1)), (.one (.fn 24 [0, 1]))], [(.obj 54 [(.map 2)]), (.obj 54 [(.map 3)]), (.map .str (.int .i64) false), (.map .str (.int .i64) false)]⟩
abbrev slices_ContainsFunc_string_string_2_outs : List Sh := [⟨[(.one (.val .bool))], [(.obj 54 [(.map 2)]), (.obj 54 [(.map 3)]), (.map .str (.int .i64) false), (.map .str (.int .i64) false)]⟩]
def slices_ContainsFunc_string_string_2 : Nat → slices_ContainsFunc_string_string_2_ins.T → Option (OutsT slices_ContainsFunc_string_string_2_outs)
  | 0, _ => none
  | n + 1, ((x1, _, _), ((_, _), (_, _), m2, m3, _)) =>
    match slices_IndexFunc_string_string_2 n ((x1, (), ()), (((), ()), ((), ()), m2, m3, ())) with
    | some ((x4, _), ((_, _), (_, _), m5, m6, _)) => (
      some ((decide (x4 ≥ 0), ()), (((), ()), ((), ()), m5, m6, ())))
    | none => none
def slices_ContainsFunc_string_string_2_H (n : Nat) : Hints := ⟨[], fun _ => [], fun _ => none, fun _ => none, fun _ => none⟩
def slices_ContainsFunc_string_string_2_O (n : Nat) : FuncId → List FSpec := asc [(30, ⟨slices_IndexFunc_string_string_2_ins, slices_IndexFunc_string_string_2_outs, slices_IndexFunc_string_string_2 n⟩)]
theorem slices_ContainsFunc_string_string_2_ok {S : Nat → Addr} (ok : CfgOk P CC S) : ∀ n, SpecOk P CC S 21 ⟨slices_ContainsFunc_string_string_2_ins, slices_ContainsFunc_string_string_2_outs, slices_ContainsFunc_string_string_2 n⟩ :=
  fn_all ok (O := slices_ContainsFunc_string_string_2_O) (H := slices_ContainsFunc_string_string_2_H) (fn := Tryd.f21) (body := b21) (by kernel_rfl) (by kernel_rfl) (by kernel_rfl) (by decide) (by kernel_rfl)
    (fun x => by kernel_rfl) (fun n => by
      rintro ⟨⟨x1, ⟨⟩, ⟨⟩⟩, ⟨⟨⟨⟩, ⟨⟩⟩, ⟨⟨⟩, ⟨⟩⟩, x2, x3, ⟨⟩⟩⟩
      kernel_rfl)
    (fun n => obl_of (by kernel_rfl) (by kernel_rfl) (lz) (cn (cn (cz) (by kernel_rfl)) (by kernel_rfl)) (hn fun _ => rfl))
    (fun n ih => asc_cons (slices_IndexFunc_string_string_2_ok ok n) <| asc_nil)
/-! ### pendulum/sched.Check -/
abbrev sched_Check_ins : Sh := ⟨[(.one (.arr 0)), (.one (.val ty15))], [(.arr 3 (.int .i64))]⟩
abbrev sched_Check_outs : List Sh := [⟨[(.one (.val .bool))], [(.arr 3 (.int .i64))]⟩]
abbrev sched_Check_l6_h : Sh := ⟨[(.one (.arr 0)), (.one (.val ty15)), (.one (.ptr 1 0)), (.one (.ptr 2 0)), (.one (.val ty15)), (.one (.val (.int .i64))), (.one (.val (.int .i64))), (.one (.val ty1)), (.one (.val (.int .i64))), (.one (.val (.int .i64)))], [(.arr 3 (.int .i64)), (.obj 54 [(.map 3)]), (.obj 54 [(.map 4)]), (.map .str (.int .i64) false), (.map .str (.int .i64) false)]⟩
abbrev sched_Check_l6_o : List Out := [⟨(.exit 2), [0, 1, 5, 6, 18, 19, 20], ⟨[(.one (.arr 0)), (.one (.val ty15)), (.one (.ptr 1 0)), (.one (.ptr 2 0)), (.one (.val ty15)), (.one (.val (.int .i64))), (.one (.val (.int .i64)))], [(.arr 3 (.int .i64)), (.obj 54 [(.map 3)]), (.obj 54 [(.map 4)]), (.map .str (.int .i64) false), (.map .str (.int .i64) false)]⟩⟩]
def sched_Check_l6 (n : Nat) : Nat → sched_Check_l6_h.T → Option (OutT sched_Check_l6_o)
  | 0, _ => none
  | k + 1, ((_, x1, _, _, x2, x3, x4, x5, x6, x7, _), (l8, (_, _), (_, _), m9, m10, _)) =>
    if decide (x7 < x6) then
      if 0 ≤ x7 ∧ x7 < (x5.length : Int) then (
        let v11 : Int := IntKind.i64.wrap (x7 + 1)
        sched_Check_l6 n k (((), x1, (), (), x2, x3, x4, x5, x6, v11, ()), (l8, ((), ()), ((), ()), mset (keyEq (.str : Ty)) (rdT (.str : Ty) x5 x7) 1 m9, m10, ()))) else none
    else
      some (.inl (((), x1, (), (), x2, x3, x4, ()), (l8, ((), ()), ((), ()), m9, m10, ())))
abbrev sched_Check_l3_h : Sh := ⟨[(.one (.arr 0)), (.one (.val ty15)), (.one (.ptr 1 0)), (.one (.ptr 2 0)), (.one (.val ty15)), (.one (.val (.int .i64))), (.one (.val (.int .i64)))], [(.arr 3 (.int .i64)), (.obj 54 [(.map 3)]), (.obj 54 [(.map 4)]), (.map .str (.int .i64) false), (.map .str (.int .i64) false)]⟩
abbrev sched_Check_l3_o : List Out := [⟨(.exit 0), [0, 1, 5, 6], ⟨[(.one (.arr 0)), (.one (.val ty15)), (.one (.ptr 1 0)), (.one (.ptr 2 0))], [(.arr 3 (.int .i64)), (.obj 54 [(.map 3)]), (.obj 54 [(.map 4)]), (.map .str (.int .i64) false), (.map .str (.int .i64) false)]⟩⟩]
def sched_Check_l3 (n : Nat) : Nat → sched_Check_l3_h.T → Option (OutT sched_Check_l3_o)
  | 0, _ => none
  | k + 1, ((_, x1, _, _, x2, x3, x4, _), (l5, (_, _), (_, _), m6, m7, _)) =>
    if decide (x4 < x3) then
      if 0 ≤ x4 ∧ x4 < (x2.length : Int) then (
        match sched_Check_l6 n n (((), x1, (), (), x2, x3, x4, (rdT ty0 x2 x4).1, (((rdT ty0 x2 x4).1).length : Int), 0, ()), (l5, ((), ()), ((), ()), m6, m7, ())) with
        | some (.inl ((_, x8, _, _, x9, x10, x11, _), (l12, (_, _), (_, _), m13, m14, _))) => (
          let v15 : Int := IntKind.i64.wrap (x11 + 1)
          sched_Check_l3 n k (((), x8, (), (), x9, x10, v15, ()), (l12, ((), ()), ((), ()), m13, m14, ())))
        | some (.inr (_)) => none
        | none => none) else none
    else
      some (.inl (((), x1, (), (), ()), (l5, ((), ()), ((), ()), m6, m7, ())))
abbrev sched_Check_l23_h : Sh := ⟨[(.one (.val ty15)), (.one (.ptr 1 0)), (.one (.ptr 2 0)), (.one (.arr 3)), (.one (.arr 0)), (.one (.val (.int .i64))), (.one (.val (.int .i64))), (.one (.val ty1)), (.one (.val (.int .i64))), (.one (.val (.int .i64)))], [(.arr 3 (.int .i64)), (.obj 54 [(.map 4)]), (.obj 54 [(.map 5)]), (.arr 4 .bool), (.map .str (.int .i64) false), (.map .str (.int .i64) false)]⟩
abbrev sched_Check_l23_o : List Out := [⟨(.exit 6), [1, 5, 6, 11, 43, 44, 45], ⟨[(.one (.val ty15)), (.one (.ptr 1 0)), (.one (.ptr 2 0)), (.one (.arr 3)), (.one (.arr 0)), (.one (.val (.int .i64))), (.one (.val (.int .i64)))], [(.arr 3 (.int .i64)), (.obj 54 [(.map 4)]), (.obj 54 [(.map 5)]), (.arr 4 .bool), (.map .str (.int .i64) false), (.map .str (.int .i64) false)]⟩⟩]
def sched_Check_l23 (n : Nat) : Nat → sched_Check_l23_h.T → Option (OutT sched_Check_l23_o)
  | 0, _ => none
  | k + 1, ((x1, _, _, _, _, x2, x3, x4, x5, x6, _), (l7, (_, _), (_, _), l8, m9, m10, _)) =>
    if decide (x6 < x5) then
      if 0 ≤ x6 ∧ x6 < (x4.length : Int) then (
        let v11 : Int := IntKind.i64.wrap (x6 + 1)
        sched_Check_l23 n k ((x1, (), (), (), (), x2, x3, x4, x5, v11, ()), (l7, ((), ()), ((), ()), l8, m9, mset (keyEq (.str : Ty)) (rdT (.str : Ty) x4 x6) 1 m10, ()))) else none
    else
      some (.inl ((x1, (), (), (), (), x2, x3, ()), (l7, ((), ()), ((), ()), l8, m9, m10, ())))
abbrev sched_Check_l15_h : Sh := ⟨[(.one (.val ty15)), (.one (.ptr 1 0)), (.one (.ptr 2 0)), (.one (.arr 3)), (.one (.arr 0)), (.one (.val (.int .i64))), (.one (.val (.int .i64)))], [(.arr 3 (.int .i64)), (.obj 54 [(.map 4)]), (.obj 54 [(.map 5)]), (.arr 4 .bool), (.map .str (.int .i64) false), (.map .str (.int .i64) false)]⟩
abbrev sched_Check_l15_o : List Out := [⟨(.exit 4), [], ⟨[], [(.arr 3 (.int .i64))]⟩⟩, ⟨.ret, [4], ⟨[(.one (.val .bool))], [(.arr 3 (.int .i64))]⟩⟩]
def sched_Check_l15 (n : Nat) : Nat → sched_Check_l15_h.T → Option (OutT sched_Check_l15_o)
  | 0, _ => none
  | k + 1, ((x1, _, _, _, _, x2, x3, _), (l4, (_, _), (_, _), l5, m6, m7, _)) =>
    if decide (x3 < x2) then
      if 0 ≤ x3 ∧ x3 < (l4.length : Int) then (
        let v8 : Int := rdT ((.int .i64) : Ty) l4 x3
        if decide (v8 < 0) then
          some (.inr (.inl ((false, ()), (l4, ()))))
        else
          if decide (v8 ≥ (x1.length : Int)) then
            some (.inr (.inl ((false, ()), (l4, ()))))
          else
            if 0 ≤ v8 ∧ v8 < (l5.length : Int) then (
              if rdT (.bool : Ty) l5 v8 then
                some (.inr (.inl ((false, ()), (l4, ()))))
              else
                if 0 ≤ v8 ∧ v8 < (x1.length : Int) then (
                  match sched_Needs n ((((rdT ty0 x1 v8).1, ((rdT ty0 x1 v8).2).1, (((rdT ty0 x1 v8).2).2).1, ((((rdT ty0 x1 v8).2).2).2).1, (((((rdT ty0 x1 v8).2).2).2).2).1, ((((((rdT ty0 x1 v8).2).2).2).2).2).1, (((((((rdT ty0 x1 v8).2).2).2).2).2).2).1, ((((((((rdT ty0 x1 v8).2).2).2).2).2).2).2).1, ((((((((rdT ty0 x1 v8).2).2).2).2).2).2).2).2, ()), ()), ()) with
                  | some ((_, _), (l9, _)) => (
                    match slices_ContainsFunc_string_string_2 n ((l9, (), ()), (((), ()), ((), ()), m6, m7, ())) with
                    | some ((x10, _), ((_, _), (_, _), m11, m12, _)) => (
                      if x10 then
                        some (.inr (.inl ((false, ()), (l4, ()))))
                      else
                        if 0 ≤ v8 ∧ v8 < (l5.length : Int) then (
                          if 0 ≤ v8 ∧ v8 < (x1.length : Int) then (
                            match sched_Check_l23 n n ((x1, (), (), (), (), x2, x3, (rdT ty0 x1 v8).1, (((rdT ty0 x1 v8).1).length : Int), 0, ()), (l4, ((), ()), ((), ()), List.set l5 (v8 : Int).toNat true, m11, m12, ())) with
                            | some (.inl ((x13, _, _, _, _, x14, x15, _), (l16, (_, _), (_, _), l17, m18, m19, _))) => (
                              let v20 : Int := IntKind.i64.wrap (x15 + 1)
                              sched_Check_l15 n k ((x13, (), (), (), (), x14, v20, ()), (l16, ((), ()), ((), ()), l17, m18, m19, ())))
                            | some (.inr (_)) => none
                            | none => none) else none) else none)
                    | none => none)
                  | none => none) else none) else none) else none
    else
      some (.inl ((), (l4, ())))
def sched_Check : Nat → sched_Check_ins.T → Option (OutsT sched_Check_outs)
  | 0, _ => none
  | n + 1, ((_, x1, _), (l2, _)) =>
    match sched_Check_l3 n n (((), x1, (), (), x1, (x1.length : Int), 0, ()), (l2, ((), ()), ((), ()), [], [], ())) with
    | some (.inl ((_, x3, _, _, _), (l4, (_, _), (_, _), m5, m6, _))) => (
      if (l4.length : Int) != (x3.length : Int) then
        some ((false, ()), (l4, ()))
      else
        if 0 ≤ (x3.length : Int) ∧ (x3.length : Int) ≤ (x3.length : Int) ∧ (x3.length : Int) * ((1 : Nat) : Int) ≤ 140737488355328 ∧ (x3.length : Int) ≤ 140737488355328 then (
          match sched_Check_l15 n n ((x3, (), (), (), (), (l4.length : Int), 0, ()), (l4, ((), ()), ((), ()), List.replicate ((x3.length : Int) : Int).toNat false, m5, m6, ())) with
          | some (.inl (_, (l7, _))) => (
            some ((true, ()), (l7, ())))
          | some (.inr (.inl ((x8, _), (l9, _)))) => (
            some ((x8, ()), (l9, ())))
          | some (.inr (.inr (_))) => none
          | none => none) else none)
    | some (.inr (_)) => none
    | none => none
def sched_Check_H (n : Nat) : Hints := ⟨[], fun _ => [], fun k => match k with | 6 => some ⟨[0, 1, 5, 6, 18, 19, 20, 25, 26, 27], sched_Check_l6_h, sched_Check_l6_o, sched_Check_l6 n⟩ | 3 => some ⟨[0, 1, 5, 6, 18, 19, 20], sched_Check_l3_h, sched_Check_l3_o, sched_Check_l3 n⟩ | 23 => some ⟨[1, 5, 6, 11, 43, 44, 45, 77, 78, 79], sched_Check_l23_h, sched_Check_l23_o, sched_Check_l23 n⟩ | 15 => some ⟨[1, 5, 6, 11, 43, 44, 45], sched_Check_l15_h, sched_Check_l15_o, sched_Check_l15 n⟩ | _ => none, fun _ => none, fun _ => none⟩
def sched_Check_O (n : Nat) : FuncId → List FSpec := asc [(11, ⟨sched_Needs_ins, sched_Needs_outs, sched_Needs n⟩), (21, ⟨slices_ContainsFunc_string_string_2_ins, slices_ContainsFunc_string_string_2_outs, slices_ContainsFunc_string_string_2 n⟩)]
def b8 : Code := bodyOf Tryd.f8
theorem sched_Check_l3_k0 (n : Nat) : LoopOk P CC (sched_Check_O n) n 1 87 (sched_Check_H n) ⟨[0, 1, 5, 6, 18, 19, 20], sched_Check_l3_h, sched_Check_l3_o, sched_Check_l3 n⟩ ((loopsOf b8).getD 0 .skip) := by
  refine ⟨fun _ => by kernel_rfl, ?_⟩
  rintro k ⟨⟨⟨⟩, x1, ⟨⟩, ⟨⟩, x2, x3, x4, ⟨⟩⟩, ⟨x5, ⟨⟨⟩, ⟨⟩⟩, ⟨⟨⟩, ⟨⟩⟩, x6, x7, ⟨⟩⟩⟩
  kernel_rfl
theorem sched_Check_l6_k1 (n : Nat) : LoopOk P CC (sched_Check_O n) n 1 87 (sched_Check_H n) ⟨[0, 1, 5, 6, 18, 19, 20, 25, 26, 27], sched_Check_l6_h, sched_Check_l6_o, sched_Check_l6 n⟩ ((loopsOf b8).getD 1 .skip) := by
  refine ⟨fun _ => by kernel_rfl, ?_⟩
  rintro k ⟨⟨⟨⟩, x1, ⟨⟩, ⟨⟩, x2, x3, x4, x5, x6, x7, ⟨⟩⟩, ⟨x8, ⟨⟨⟩, ⟨⟩⟩, ⟨⟨⟩, ⟨⟩⟩, x9, x10, ⟨⟩⟩⟩
  kernel_rfl
theorem sched_Check_l15_k2 (n : Nat) : LoopOk P CC (sched_Check_O n) n 1 87 (sched_Check_H n) ⟨[1, 5, 6, 11, 43, 44, 45], sched_Check_l15_h, sched_Check_l15_o, sched_Check_l15 n⟩ ((loopsOf b8).getD 2 .skip) := by
  refine ⟨fun _ => by kernel_rfl, ?_⟩
  rintro k ⟨⟨x1, ⟨⟩, ⟨⟩, ⟨⟩, ⟨⟩, x2, x3, ⟨⟩⟩, ⟨x4, ⟨⟨⟩, ⟨⟩⟩, ⟨⟨⟩, ⟨⟩⟩, x5, x6, x7, ⟨⟩⟩⟩
  kernel_rfl
theorem sched_Check_l23_k3 (n : Nat) : LoopOk P CC (sched_Check_O n) n 1 87 (sched_Check_H n) ⟨[1, 5, 6, 11, 43, 44, 45, 77, 78, 79], sched_Check_l23_h, sched_Check_l23_o, sched_Check_l23 n⟩ ((loopsOf b8).getD 3 .skip) := by
  refine ⟨fun _ => by kernel_rfl, ?_⟩
  rintro k ⟨⟨x1, ⟨⟩, ⟨⟩, ⟨⟩, ⟨⟩, x2, x3, x4, x5, x6, ⟨⟩⟩, ⟨x7, ⟨⟨⟩, ⟨⟩⟩, ⟨⟨⟩, ⟨⟩⟩, x8, x9, x10, ⟨⟩⟩⟩
  kernel_rfl
theorem sched_Check_ok {S : Nat → Addr} (ok : CfgOk P CC S) : ∀ n, SpecOk P CC S 8 ⟨sched_Check_ins, sched_Check_outs, sched_Check n⟩ :=
  fn_all ok (O := sched_Check_O) (H := sched_Check_H) (fn := Tryd.f8) (body := b8) (by kernel_rfl) (by kernel_rfl) (by kernel_rfl) (by decide) (by kernel_rfl)
    (fun x => by kernel_rfl) (fun n => by
      rintro ⟨⟨⟨⟩, x1, ⟨⟩⟩, ⟨x2, ⟨⟩⟩⟩
      kernel_rfl)
    (fun n => obl_of (by kernel_rfl) (by kernel_rfl) (ls (ls (ls (ls (lz) (by kernel_rfl) (sched_Check_l3_k0 n)) (by kernel_rfl) (sched_Check_l6_k1 n)) (by kernel_rfl) (sched_Check_l15_k2 n)) (by kernel_rfl) (sched_Check_l23_k3 n)) (cn (cn (cn (cn (cn (cn (cn (cn (cn (cn (cn (cn (cn (cn (cn (cn (cn (cn (cn (cn (cn (cn (cn (cn (cn (cn (cn (cn (cn (cn (cn (cn (cn (cn (cn (cn (cz) (by kernel_rfl)) (by kernel_rfl)) (by kernel_rfl)) (by kernel_rfl)) (by kernel_rfl)) (by kernel_rfl)) (by kernel_rfl)) (by kernel_rfl)) (by kernel_rfl)) (by kernel_rfl)) (by kernel_rfl)) (by kernel_rfl)) (by kernel_rfl)) (by kernel_rfl)) (by kernel_rfl)) (by kernel_rfl)) (by kernel_rfl)) (by kernel_rfl)) (by kernel_rfl)) (by kernel_rfl)) (by kernel_rfl)) (by kernel_rfl)) (by kernel_rfl)) (by kernel_rfl)) (by kernel_rfl)) (by kernel_rfl)) (by kernel_rfl)) (by kernel_rfl)) (by kernel_rfl)) (by kernel_rfl)) (by kernel_rfl)) (by kernel_rfl)) (by kernel_rfl)) (by kernel_rfl)) (by kernel_rfl)) (by kernel_rfl)) (hn fun _ => rfl))
    (fun n ih => asc_cons (sched_Needs_ok ok n) <| asc_cons (slices_ContainsFunc_string_string_2_ok ok n) <| asc_nil)
/-! ### pendulum/pendulumworld.Number -/
abbrev world_Number_ins : Sh := ⟨[(.one (.val (.int .i64))), (.one (.val (.int .i64)))], []⟩
abbrev world_Number_outs : List Sh := [⟨[(.one (.val (.int .i64)))], []⟩]
def world_Number : Nat → world_Number_ins.T → Option (OutsT world_Number_outs)
  | 0, _ => none
  | n + 1, ((x1, x2, _), _) =>
    if x2 = 0 then
      none
    else
      if decide (Int.tmod x1 x2 < 0) then
        let v3 : Int := IntKind.i64.wrap ((Int.tmod x1 x2) + x2)
        some ((v3, ()), ())
      else
        some ((Int.tmod x1 x2, ()), ())
def world_Number_H (n : Nat) : Hints := ⟨[], fun _ => [], fun _ => none, fun _ => none, fun _ => none⟩
def world_Number_O (n : Nat) : FuncId → List FSpec := asc []
def b9 : Code := bodyOf Tryd.f9
theorem world_Number_ok {S : Nat → Addr} (ok : CfgOk P CC S) : ∀ n, SpecOk P CC S 9 ⟨world_Number_ins, world_Number_outs, world_Number n⟩ :=
  fn_all ok (O := world_Number_O) (H := world_Number_H) (fn := Tryd.f9) (body := b9) (by kernel_rfl) (by kernel_rfl) (by kernel_rfl) (by decide) (by kernel_rfl)
    (fun x => by kernel_rfl) (fun n => by
      rintro ⟨⟨x1, x2, ⟨⟩⟩, ⟨⟩⟩
      kernel_rfl)
    (fun n => obl_of (by kernel_rfl) (by kernel_rfl) (lz) (cn (cn (cn (cn (cn (cz) (by kernel_rfl)) (by kernel_rfl)) (by kernel_rfl)) (by kernel_rfl)) (by kernel_rfl)) (hn fun _ => rfl))
    (fun n ih => asc_nil)
/-! ### pendulum/pendulumref.Ints -/
abbrev ref_Ints_ins : Sh := ⟨[(.one (.arr 0))], [(.arr 3 (.int .i64))]⟩
abbrev ref_Ints_outs : List Sh := [⟨[(.one (.arr 1))], [(.arr 3 (.int .i64)), (.arr 3 (.int .i64))]⟩]
abbrev ref_Ints_l3_h : Sh := ⟨[(.one (.arr 0)), (.one (.arr 1)), (.one (.val (.int .i64)))], [(.arr 3 (.int .i64)), (.arr 3 (.int .i64))]⟩
abbrev ref_Ints_l3_o : List Out := [⟨(.exit 0), [3], ⟨[(.one (.arr 1))], [(.arr 3 (.int .i64)), (.arr 3 (.int .i64))]⟩⟩]
def ref_Ints_l3 (n : Nat) : Nat → ref_Ints_l3_h.T → Option (OutT ref_Ints_l3_o)
  | 0, _ => none
  | k + 1, ((_, _, x1, _), (l2, l3, _)) =>
    if decide (x1 < (l2.length : Int)) then
      if 0 ≤ x1 ∧ x1 < (l2.length : Int) then (
        let v4 : Int := rdT ((.int .i64) : Ty) l2 x1
        if (l3.length + ([v4] : List ((.int .i64) : Ty).T).length) * 8 ≤ 140737488355328 then (
          let v5 : Int := IntKind.i64.wrap (x1 + 1)
          ref_Ints_l3 n k (((), (), v5, ()), (l2, l3 ++ [v4], ()))) else none) else none
    else
      some (.inl (((), ()), (l2, l3, ())))
def ref_Ints : Nat → ref_Ints_ins.T → Option (OutsT ref_Ints_outs)
  | 0, _ => none
  | n + 1, ((_, _), (l1, _)) =>
    if 0 ≤ (0 : Int) ∧ (0 : Int) ≤ (l1.length : Int) ∧ (l1.length : Int) * ((8 : Nat) : Int) ≤ 140737488355328 ∧ (l1.length : Int) ≤ 140737488355328 then (
      match ref_Ints_l3 n n (((), (), 0, ()), (l1, List.replicate (0 : Int).toNat 0, ())) with
      | some (.inl ((_, _), (l2, l3, _))) => (
        some (((), ()), (l2, l3, ())))
      | some (.inr (_)) => none
      | none => none) else none
def ref_Ints_H (n : Nat) : Hints := ⟨[], fun _ => [], fun k => match k with | 3 => some ⟨[0, 3, 4], ref_Ints_l3_h, ref_Ints_l3_o, ref_Ints_l3 n⟩ | _ => none, fun _ => none, fun _ => none⟩
def ref_Ints_O (n : Nat) : FuncId → List FSpec := asc []
def b10 : Code := bodyOf Tryd.f10
theorem ref_Ints_l3_k0 (n : Nat) : LoopOk P CC (ref_Ints_O n) n 1 22 (ref_Ints_H n) ⟨[0, 3, 4], ref_Ints_l3_h, ref_Ints_l3_o, ref_Ints_l3 n⟩ ((loopsOf b10).getD 0 .skip) := by
  refine ⟨fun _ => by kernel_rfl, ?_⟩
  rintro k ⟨⟨⟨⟩, ⟨⟩, x1, ⟨⟩⟩, ⟨x2, x3, ⟨⟩⟩⟩
  kernel_rfl
theorem ref_Ints_ok {S : Nat → Addr} (ok : CfgOk P CC S) : ∀ n, SpecOk P CC S 10 ⟨ref_Ints_ins, ref_Ints_outs, ref_Ints n⟩ :=
  fn_all ok (O := ref_Ints_O) (H := ref_Ints_H) (fn := Tryd.f10) (body := b10) (by kernel_rfl) (by kernel_rfl) (by kernel_rfl) (by decide) (by kernel_rfl)
    (fun x => by kernel_rfl) (fun n => by
      rintro ⟨⟨⟨⟩, ⟨⟩⟩, ⟨x1, ⟨⟩⟩⟩
      kernel_rfl)
    (fun n => obl_of (by kernel_rfl) (by kernel_rfl) (ls (lz) (by kernel_rfl) (ref_Ints_l3_k0 n)) (cn (cn (cn (cn (cn (cn (cn (cn (cz) (by kernel_rfl)) (by kernel_rfl)) (by kernel_rfl)) (by kernel_rfl)) (by kernel_rfl)) (by kernel_rfl)) (by kernel_rfl)) (by kernel_rfl)) (hn fun _ => rfl))
    (fun n ih => asc_nil)
/-! ### pendulum/pendulumref.Among -/
abbrev ref_Among_ins : Sh := ⟨[(.one (.arr 0)), (.one (.val .str))], [(.arr 9 .str)]⟩
abbrev ref_Among_outs : List Sh := [⟨[(.one (.val (.int .i64)))], [(.arr 9 .str)]⟩]
abbrev ref_Among_l2_h : Sh := ⟨[(.one (.arr 0)), (.one (.val .str)), (.one (.val (.int .i64)))], [(.arr 9 .str)]⟩
abbrev ref_Among_l2_o : List Out := [⟨(.exit 0), [], ⟨[], [(.arr 9 .str)]⟩⟩, ⟨.ret, [4], ⟨[(.one (.val (.int .i64)))], [(.arr 9 .str)]⟩⟩]
def ref_Among_l2 (n : Nat) : Nat → ref_Among_l2_h.T → Option (OutT ref_Among_l2_o)
  | 0, _ => none
  | k + 1, ((_, x1, x2, _), (l3, _)) =>
    if decide (x2 < (l3.length : Int)) then
      if 0 ≤ x2 ∧ x2 < (l3.length : Int) then (
        if strEq (rdT (.str : Ty) l3 x2) x1 then
          some (.inr (.inl ((x2, ()), (l3, ()))))
        else
          let v4 : Int := IntKind.i64.wrap (x2 + 1)
          ref_Among_l2 n k (((), x1, v4, ()), (l3, ()))) else none
    else
      some (.inl ((), (l3, ())))
def ref_Among : Nat → ref_Among_ins.T → Option (OutsT ref_Among_outs)
  | 0, _ => none
  | n + 1, ((_, x1, _), (l2, _)) =>
    match ref_Among_l2 n n (((), x1, 0, ()), (l2, ())) with
    | some (.inl (_, (l3, _))) => (
      some (((-1), ()), (l3, ())))
    | some (.inr (.inl ((x4, _), (l5, _)))) => (
      some ((x4, ()), (l5, ())))
    | some (.inr (.inr (_))) => none
    | none => none
def ref_Among_H (n : Nat) : Hints := ⟨[], fun _ => [], fun k => match k with | 2 => some ⟨[0, 1, 5], ref_Among_l2_h, ref_Among_l2_o, ref_Among_l2 n⟩ | _ => none, fun _ => none, fun _ => none⟩
def ref_Among_O (n : Nat) : FuncId → List FSpec := asc []
def b12 : Code := bodyOf Tryd.f12
theorem ref_Among_l2_k0 (n : Nat) : LoopOk P CC (ref_Among_O n) n 1 19 (ref_Among_H n) ⟨[0, 1, 5], ref_Among_l2_h, ref_Among_l2_o, ref_Among_l2 n⟩ ((loopsOf b12).getD 0 .skip) := by
  refine ⟨fun _ => by kernel_rfl, ?_⟩
  rintro k ⟨⟨⟨⟩, x1, x2, ⟨⟩⟩, ⟨x3, ⟨⟩⟩⟩
  kernel_rfl
theorem ref_Among_ok {S : Nat → Addr} (ok : CfgOk P CC S) : ∀ n, SpecOk P CC S 12 ⟨ref_Among_ins, ref_Among_outs, ref_Among n⟩ :=
  fn_all ok (O := ref_Among_O) (H := ref_Among_H) (fn := Tryd.f12) (body := b12) (by kernel_rfl) (by kernel_rfl) (by kernel_rfl) (by decide) (by kernel_rfl)
    (fun x => by kernel_rfl) (fun n => by
      rintro ⟨⟨⟨⟩, x1, ⟨⟩⟩, ⟨x2, ⟨⟩⟩⟩
      kernel_rfl)
    (fun n => obl_of (by kernel_rfl) (by kernel_rfl) (ls (lz) (by kernel_rfl) (ref_Among_l2_k0 n)) (cn (cn (cn (cn (cn (cn (cn (cn (cn (cz) (by kernel_rfl)) (by kernel_rfl)) (by kernel_rfl)) (by kernel_rfl)) (by kernel_rfl)) (by kernel_rfl)) (by kernel_rfl)) (by kernel_rfl)) (by kernel_rfl)) (hn fun _ => rfl))
    (fun n ih => asc_nil)
/-! ### pendulum/sched.Check -/
abbrev sched_Check_2_ins : Sh := ⟨[(.one (.val ty16)), (.one (.val ty15))], []⟩
abbrev sched_Check_2_outs : List Sh := [⟨[(.one (.val .bool))], []⟩]
abbrev sched_Check_2_l6_h : Sh := ⟨[(.one (.val ty16)), (.one (.val ty15)), (.one (.ptr 0 0)), (.one (.ptr 1 0)), (.one (.val ty15)), (.one (.val (.int .i64))), (.one (.val (.int .i64))), (.one (.val ty1)), (.one (.val (.int .i64))), (.one (.val (.int .i64)))], [(.obj 54 [(.map 2)]), (.obj 54 [(.map 3)]), (.map .str (.int .i64) false), (.map .str (.int .i64) false)]⟩
abbrev sched_Check_2_l6_o : List Out := [⟨(.exit 2), [0, 1, 5, 6, 18, 19, 20], ⟨[(.one (.val ty16)), (.one (.val ty15)), (.one (.ptr 0 0)), (.one (.ptr 1 0)), (.one (.val ty15)), (.one (.val (.int .i64))), (.one (.val (.int .i64)))], [(.obj 54 [(.map 2)]), (.obj 54 [(.map 3)]), (.map .str (.int .i64) false), (.map .str (.int .i64) false)]⟩⟩]
def sched_Check_2_l6 (n : Nat) : Nat → sched_Check_2_l6_h.T → Option (OutT sched_Check_2_l6_o)
  | 0, _ => none
  | k + 1, ((x1, x2, _, _, x3, x4, x5, x6, x7, x8, _), ((_, _), (_, _), m9, m10, _)) =>
    if decide (x8 < x7) then
      if 0 ≤ x8 ∧ x8 < (x6.length : Int) then (
        let v11 : Int := IntKind.i64.wrap (x8 + 1)
        sched_Check_2_l6 n k ((x1, x2, (), (), x3, x4, x5, x6, x7, v11, ()), (((), ()), ((), ()), mset (keyEq (.str : Ty)) (rdT (.str : Ty) x6 x8) 1 m9, m10, ()))) else none
    else
      some (.inl ((x1, x2, (), (), x3, x4, x5, ()), (((), ()), ((), ()), m9, m10, ())))
abbrev sched_Check_2_l3_h : Sh := ⟨[(.one (.val ty16)), (.one (.val ty15)), (.one (.ptr 0 0)), (.one (.ptr 1 0)), (.one (.val ty15)), (.one (.val (.int .i64))), (.one (.val (.int .i64)))], [(.obj 54 [(.map 2)]), (.obj 54 [(.map 3)]), (.map .str (.int .i64) false), (.map .str (.int .i64) false)]⟩
abbrev sched_Check_2_l3_o : List Out := [⟨(.exit 0), [0, 1, 5, 6], ⟨[(.one (.val ty16)), (.one (.val ty15)), (.one (.ptr 0 0)), (.one (.ptr 1 0))], [(.obj 54 [(.map 2)]), (.obj 54 [(.map 3)]), (.map .str (.int .i64) false), (.map .str (.int .i64) false)]⟩⟩]
def sched_Check_2_l3 (n : Nat) : Nat → sched_Check_2_l3_h.T → Option (OutT sched_Check_2_l3_o)
  | 0, _ => none
  | k + 1, ((x1, x2, _, _, x3, x4, x5, _), ((_, _), (_, _), m6, m7, _)) =>
    if decide (x5 < x4) then
      if 0 ≤ x5 ∧ x5 < (x3.length : Int) then (
        match sched_Check_2_l6 n n ((x1, x2, (), (), x3, x4, x5, (rdT ty0 x3 x5).1, (((rdT ty0 x3 x5).1).length : Int), 0, ()), (((), ()), ((), ()), m6, m7, ())) with
        | some (.inl ((x8, x9, _, _, x10, x11, x12, _), ((_, _), (_, _), m13, m14, _))) => (
          let v15 : Int := IntKind.i64.wrap (x12 + 1)
          sched_Check_2_l3 n k ((x8, x9, (), (), x10, x11, v15, ()), (((), ()), ((), ()), m13, m14, ())))
        | some (.inr (_)) => none
        | none => none) else none
    else
      some (.inl ((x1, x2, (), (), ()), (((), ()), ((), ()), m6, m7, ())))
abbrev sched_Check_2_l23_h : Sh := ⟨[(.one (.val ty15)), (.one (.ptr 0 0)), (.one (.ptr 1 0)), (.one (.arr 2)), (.one (.val ty16)), (.one (.val (.int .i64))), (.one (.val (.int .i64))), (.one (.val ty1)), (.one (.val (.int .i64))), (.one (.val (.int .i64)))], [(.obj 54 [(.map 3)]), (.obj 54 [(.map 4)]), (.arr 4 .bool), (.map .str (.int .i64) false), (.map .str (.int .i64) false)]⟩
abbrev sched_Check_2_l23_o : List Out := [⟨(.exit 6), [1, 5, 6, 11, 43, 44, 45], ⟨[(.one (.val ty15)), (.one (.ptr 0 0)), (.one (.ptr 1 0)), (.one (.arr 2)), (.one (.val ty16)), (.one (.val (.int .i64))), (.one (.val (.int .i64)))], [(.obj 54 [(.map 3)]), (.obj 54 [(.map 4)]), (.arr 4 .bool), (.map .str (.int .i64) false), (.map .str (.int .i64) false)]⟩⟩]
def sched_Check_2_l23 (n : Nat) : Nat → sched_Check_2_l23_h.T → Option (OutT sched_Check_2_l23_o)
  | 0, _ => none
  | k + 1, ((x1, _, _, _, x2, x3, x4, x5, x6, x7, _), ((_, _), (_, _), l8, m9, m10, _)) =>
    if decide (x7 < x6) then
      if 0 ≤ x7 ∧ x7 < (x5.length : Int) then (
        let v11 : Int := IntKind.i64.wrap (x7 + 1)
        sched_Check_2_l23 n k ((x1, (), (), (), x2, x3, x4, x5, x6, v11, ()), (((), ()), ((), ()), l8, m9, mset (keyEq (.str : Ty)) (rdT (.str : Ty) x5 x7) 1 m10, ()))) else none
    else
      some (.inl ((x1, (), (), (), x2, x3, x4, ()), (((), ()), ((), ()), l8, m9, m10, ())))
abbrev sched_Check_2_l15_h : Sh := ⟨[(.one (.val ty15)), (.one (.ptr 0 0)), (.one (.ptr 1 0)), (.one (.arr 2)), (.one (.val ty16)), (.one (.val (.int .i64))), (.one (.val (.int .i64)))], [(.obj 54 [(.map 3)]), (.obj 54 [(.map 4)]), (.arr 4 .bool), (.map .str (.int .i64) false), (.map .str (.int .i64) false)]⟩
abbrev sched_Check_2_l15_o : List Out := [⟨(.exit 4), [], ⟨[], []⟩⟩, ⟨.ret, [4], ⟨[(.one (.val .bool))], []⟩⟩]
def sched_Check_2_l15 (n : Nat) : Nat → sched_Check_2_l15_h.T → Option (OutT sched_Check_2_l15_o)
  | 0, _ => none
  | k + 1, ((x1, _, _, _, x2, x3, x4, _), ((_, _), (_, _), l5, m6, m7, _)) =>
    if decide (x4 < x3) then
      if 0 ≤ x4 ∧ x4 < (x2.length : Int) then (
        let v8 : Int := rdT ((.int .i64) : Ty) x2 x4
        if decide (v8 < 0) then
          some (.inr (.inl ((false, ()), ())))
        else
          if decide (v8 ≥ (x1.length : Int)) then
            some (.inr (.inl ((false, ()), ())))
          else
            if 0 ≤ v8 ∧ v8 < (l5.length : Int) then (
              if rdT (.bool : Ty) l5 v8 then
                some (.inr (.inl ((false, ()), ())))
              else
                if 0 ≤ v8 ∧ v8 < (x1.length : Int) then (
                  match sched_Needs n ((((rdT ty0 x1 v8).1, ((rdT ty0 x1 v8).2).1, (((rdT ty0 x1 v8).2).2).1, ((((rdT ty0 x1 v8).2).2).2).1, (((((rdT ty0 x1 v8).2).2).2).2).1, ((((((rdT ty0 x1 v8).2).2).2).2).2).1, (((((((rdT ty0 x1 v8).2).2).2).2).2).2).1, ((((((((rdT ty0 x1 v8).2).2).2).2).2).2).2).1, ((((((((rdT ty0 x1 v8).2).2).2).2).2).2).2).2, ()), ()), ()) with
                  | some ((_, _), (l9, _)) => (
                    match slices_ContainsFunc_string_string_2 n ((l9, (), ()), (((), ()), ((), ()), m6, m7, ())) with
                    | some ((x10, _), ((_, _), (_, _), m11, m12, _)) => (
                      if x10 then
                        some (.inr (.inl ((false, ()), ())))
                      else
                        if 0 ≤ v8 ∧ v8 < (l5.length : Int) then (
                          if 0 ≤ v8 ∧ v8 < (x1.length : Int) then (
                            match sched_Check_2_l23 n n ((x1, (), (), (), x2, x3, x4, (rdT ty0 x1 v8).1, (((rdT ty0 x1 v8).1).length : Int), 0, ()), (((), ()), ((), ()), List.set l5 (v8 : Int).toNat true, m11, m12, ())) with
                            | some (.inl ((x13, _, _, _, x14, x15, x16, _), ((_, _), (_, _), l17, m18, m19, _))) => (
                              let v20 : Int := IntKind.i64.wrap (x16 + 1)
                              sched_Check_2_l15 n k ((x13, (), (), (), x14, x15, v20, ()), (((), ()), ((), ()), l17, m18, m19, ())))
                            | some (.inr (_)) => none
                            | none => none) else none) else none)
                    | none => none)
                  | none => none) else none) else none) else none
    else
      some (.inl ((), ()))
def sched_Check_2 : Nat → sched_Check_2_ins.T → Option (OutsT sched_Check_2_outs)
  | 0, _ => none
  | n + 1, ((x1, x2, _), _) =>
    match sched_Check_2_l3 n n ((x1, x2, (), (), x2, (x2.length : Int), 0, ()), (((), ()), ((), ()), [], [], ())) with
    | some (.inl ((x3, x4, _, _, _), ((_, _), (_, _), m5, m6, _))) => (
      if (x3.length : Int) != (x4.length : Int) then
        some ((false, ()), ())
      else
        if 0 ≤ (x4.length : Int) ∧ (x4.length : Int) ≤ (x4.length : Int) ∧ (x4.length : Int) * ((1 : Nat) : Int) ≤ 140737488355328 ∧ (x4.length : Int) ≤ 140737488355328 then (
          match sched_Check_2_l15 n n ((x4, (), (), (), x3, (x3.length : Int), 0, ()), (((), ()), ((), ()), List.replicate ((x4.length : Int) : Int).toNat false, m5, m6, ())) with
          | some (.inl (_, _)) => (
            some ((true, ()), ()))
          | some (.inr (.inl ((x7, _), _))) => (
            some ((x7, ()), ()))
          | some (.inr (.inr (_))) => none
          | none => none) else none)
    | some (.inr (_)) => none
    | none => none
def sched_Check_2_H (n : Nat) : Hints := ⟨[], fun _ => [], fun k => match k with | 6 => some ⟨[0, 1, 5, 6, 18, 19, 20, 25, 26, 27], sched_Check_2_l6_h, sched_Check_2_l6_o, sched_Check_2_l6 n⟩ | 3 => some ⟨[0, 1, 5, 6, 18, 19, 20], sched_Check_2_l3_h, sched_Check_2_l3_o, sched_Check_2_l3 n⟩ | 23 => some ⟨[1, 5, 6, 11, 43, 44, 45, 77, 78, 79], sched_Check_2_l23_h, sched_Check_2_l23_o, sched_Check_2_l23 n⟩ | 15 => some ⟨[1, 5, 6, 11, 43, 44, 45], sched_Check_2_l15_h, sched_Check_2_l15_o, sched_Check_2_l15 n⟩ | _ => none, fun _ => none, fun _ => none⟩
def sched_Check_2_O (n : Nat) : FuncId → List FSpec := asc [(11, ⟨sched_Needs_ins, sched_Needs_outs, sched_Needs n⟩), (21, ⟨slices_ContainsFunc_string_string_2_ins, slices_ContainsFunc_string_string_2_outs, slices_ContainsFunc_string_string_2 n⟩)]
theorem sched_Check_2_l3_k0 (n : Nat) : LoopOk P CC (sched_Check_2_O n) n 0 87 (sched_Check_2_H n) ⟨[0, 1, 5, 6, 18, 19, 20], sched_Check_2_l3_h, sched_Check_2_l3_o, sched_Check_2_l3 n⟩ ((loopsOf b8).getD 0 .skip) := by
  refine ⟨fun _ => by kernel_rfl, ?_⟩
  rintro k ⟨⟨x1, x2, ⟨⟩, ⟨⟩, x3, x4, x5, ⟨⟩⟩, ⟨⟨⟨⟩, ⟨⟩⟩, ⟨⟨⟩, ⟨⟩⟩, x6, x7, ⟨⟩⟩⟩
  kernel_rfl
theorem sched_Check_2_l6_k1 (n : Nat) : LoopOk P CC (sched_Check_2_O n) n 0 87 (sched_Check_2_H n) ⟨[0, 1, 5, 6, 18, 19, 20, 25, 26, 27], sched_Check_2_l6_h, sched_Check_2_l6_o, sched_Check_2_l6 n⟩ ((loopsOf b8).getD 1 .skip) := by
  refine ⟨fun _ => by kernel_rfl, ?_⟩
  rintro k ⟨⟨x1, x2, ⟨⟩, ⟨⟩, x3, x4, x5, x6, x7, x8, ⟨⟩⟩, ⟨⟨⟨⟩, ⟨⟩⟩, ⟨⟨⟩, ⟨⟩⟩, x9, x10, ⟨⟩⟩⟩
  kernel_rfl
theorem sched_Check_2_l15_k2 (n : Nat) : LoopOk P CC (sched_Check_2_O n) n 0 87 (sched_Check_2_H n) ⟨[1, 5, 6, 11, 43, 44, 45], sched_Check_2_l15_h, sched_Check_2_l15_o, sched_Check_2_l15 n⟩ ((loopsOf b8).getD 2 .skip) := by
  refine ⟨fun _ => by kernel_rfl, ?_⟩
  rintro k ⟨⟨x1, ⟨⟩, ⟨⟩, ⟨⟩, x2, x3, x4, ⟨⟩⟩, ⟨⟨⟨⟩, ⟨⟩⟩, ⟨⟨⟩, ⟨⟩⟩, x5, x6, x7, ⟨⟩⟩⟩
  kernel_rfl
theorem sched_Check_2_l23_k3 (n : Nat) : LoopOk P CC (sched_Check_2_O n) n 0 87 (sched_Check_2_H n) ⟨[1, 5, 6, 11, 43, 44, 45, 77, 78, 79], sched_Check_2_l23_h, sched_Check_2_l23_o, sched_Check_2_l23 n⟩ ((loopsOf b8).getD 3 .skip) := by
  refine ⟨fun _ => by kernel_rfl, ?_⟩
  rintro k ⟨⟨x1, ⟨⟩, ⟨⟩, ⟨⟩, x2, x3, x4, x5, x6, x7, ⟨⟩⟩, ⟨⟨⟨⟩, ⟨⟩⟩, ⟨⟨⟩, ⟨⟩⟩, x8, x9, x10, ⟨⟩⟩⟩
  kernel_rfl
theorem sched_Check_2_ok {S : Nat → Addr} (ok : CfgOk P CC S) : ∀ n, SpecOk P CC S 8 ⟨sched_Check_2_ins, sched_Check_2_outs, sched_Check_2 n⟩ :=
  fn_all ok (O := sched_Check_2_O) (H := sched_Check_2_H) (fn := Tryd.f8) (body := b8) (by kernel_rfl) (by kernel_rfl) (by kernel_rfl) (by decide) (by kernel_rfl)
    (fun x => by kernel_rfl) (fun n => by
      rintro ⟨⟨x1, x2, ⟨⟩⟩, ⟨⟩⟩
      kernel_rfl)
    (fun n => obl_of (by kernel_rfl) (by kernel_rfl) (ls (ls (ls (ls (lz) (by kernel_rfl) (sched_Check_2_l3_k0 n)) (by kernel_rfl) (sched_Check_2_l6_k1 n)) (by kernel_rfl) (sched_Check_2_l15_k2 n)) (by kernel_rfl) (sched_Check_2_l23_k3 n)) (cn (cn (cn (cn (cn (cn (cn (cn (cn (cn (cn (cn (cn (cn (cn (cn (cn (cn (cn (cn (cn (cn (cn (cn (cn (cn (cn (cn (cn (cn (cn (cn (cn (cn (cn (cn (cz) (by kernel_rfl)) (by kernel_rfl)) (by kernel_rfl)) (by kernel_rfl)) (by kernel_rfl)) (by kernel_rfl)) (by kernel_rfl)) (by kernel_rfl)) (by kernel_rfl)) (by kernel_rfl)) (by kernel_rfl)) (by kernel_rfl)) (by kernel_rfl)) (by kernel_rfl)) (by kernel_rfl)) (by kernel_rfl)) (by kernel_rfl)) (by kernel_rfl)) (by kernel_rfl)) (by kernel_rfl)) (by kernel_rfl)) (by kernel_rfl)) (by kernel_rfl)) (by kernel_rfl)) (by kernel_rfl)) (by kernel_rfl)) (by kernel_rfl)) (by kernel_rfl)) (by kernel_rfl)) (by kernel_rfl)) (by kernel_rfl)) (by kernel_rfl)) (by kernel_rfl)) (by kernel_rfl)) (by kernel_rfl)) (by kernel_rfl)) (hn fun _ => rfl))
    (fun n ih => asc_cons (sched_Needs_ok ok n) <| asc_cons (slices_ContainsFunc_string_string_2_ok ok n) <| asc_nil)
/-! ### pendulum/pendulumlaw18.SchedFits -/
abbrev law18_SchedFits_ins : Sh := ⟨[(.one (.val ty15)), (.one (.val (.int .i64)))], []⟩
abbrev law18_SchedFits_outs : List Sh := [⟨[(.one (.val .bool))], []⟩]
abbrev law18_SchedFits_l19_h : Sh := ⟨[(.one (.val ty15)), (.one (.arr 0)), (.one (.val (.int .i64))), (.one (.arr 1)), (.one (.arr 2)), (.one (.val .bool)), (.one (.val (.int .i64)))], [(.arr 3 (.int .i64)), (.arr 3 (.int .i64)), (.arr 9 .str)]⟩
abbrev law18_SchedFits_l19_o : List Out := [⟨(.exit 0), [0, 9, 11], ⟨[(.one (.val ty15)), (.one (.arr 0)), (.one (.val .bool))], [(.arr 3 (.int .i64))]⟩⟩]
def law18_SchedFits_l19 (n : Nat) : Nat → law18_SchedFits_l19_h.T → Option (OutT law18_SchedFits_l19_o)
  | 0, _ => none
  | k + 1, ((x1, _, x2, _, _, x3, x4, _), (l5, l6, l7, _)) =>
    if 0 ≤ x2 ∧ x2 < (l5.length : Int) then (
      let v8 : Int := rdT ((.int .i64) : Ty) l5 x2
      if 0 ≤ v8 ∧ v8 < (x1.length : Int) then (
        if decide (x4 < (((rdT ty0 x1 v8).1).length : Int)) then
          if x3 then
            let v13 : Int := IntKind.i64.wrap (x4 + 1)
            law18_SchedFits_l19 n k ((x1, (), x2, (), (), true, v13, ()), (l5, l6, l7, ()))
          else
            if 0 ≤ x2 ∧ x2 < (l5.length : Int) then (
              let v9 : Int := rdT ((.int .i64) : Ty) l5 x2
              if 0 ≤ v9 ∧ v9 < (x1.length : Int) then (
                if 0 ≤ x4 ∧ x4 < (((rdT ty0 x1 v9).1).length : Int) then (
                  let v10 : ByteArray := rdT (.str : Ty) ((rdT ty0 x1 v9).1) x4
                  match ref_Among n (((), v10, ()), (l7, ())) with
                  | some ((x11, _), (l12, _)) => (
                    let v14 : Int := IntKind.i64.wrap (x4 + 1)
                    law18_SchedFits_l19 n k ((x1, (), x2, (), (), decide (x11 ≥ 0), v14, ()), (l5, l6, l12, ())))
                  | none => none) else none) else none) else none
        else
          some (.inl ((x1, (), x3, ()), (l6, ())))) else none) else none
def law18_SchedFits : Nat → law18_SchedFits_ins.T → Option (OutsT law18_SchedFits_outs)
  | 0, _ => none
  | n + 1, ((x1, x2, _), _) =>
    match law18_first n ((), ()) with
    | some ((x3, _), _) => (
      if !x3 then
        some ((false, ()), ())
      else
        match world_Plains n ((x1, ()), ()) with
        | some ((x4, _), _) => (
          if !x4 then
            some ((x3, ()), ())
          else
            if !x3 then
              some ((x3, ()), ())
            else
              match sched_Order_2 n ((x1, ()), ()) with
              | some ((((_, _), (x5, _), _), _), (l6, _)) => (
                if !(errNil x5) then
                  some (((l6.length : Int) == 0, ()), ())
                else
                  match sched_Check n (((), x1, ()), (l6, ())) with
                  | some ((x7, _), (l8, _)) => (
                    if !x7 then
                      some ((false, ()), ())
                    else
                      if (l8.length : Int) != (x1.length : Int) then
                        some ((false, ()), ())
                      else
                        if decide ((l8.length : Int) < 2) then
                          match sched_Check n (((), x1, ()), ([], ())) with
                          | some ((x9, _), (l10, _)) => (
                            some ((x9 == ((x1.length : Int) == 0), ()), ()))
                          | none => none
                        else
                          let v11 : Int := IntKind.i64.wrap ((l8.length : Int) - 1)
                          match world_Number n ((x2, v11, ()), ()) with
                          | some ((x12, _), _) => (
                            match ref_Ints n (((), ()), (l8, ())) with
                            | some ((_, _), (l13, l14, _)) => (
                              let v15 : Int := IntKind.i64.wrap (x12 + 1)
                              let v16 : Int := IntKind.i64.wrap (x12 + 1)
                              if 0 ≤ v16 ∧ v16 < (l14.length : Int) then (
                                let v17 : Int := rdT ((.int .i64) : Ty) l14 v16
                                if 0 ≤ x12 ∧ x12 < (l14.length : Int) then (
                                  let v18 : Int := rdT ((.int .i64) : Ty) l14 x12
                                  if 0 ≤ x12 ∧ x12 < (l14.length : Int) then (
                                    if 0 ≤ v15 ∧ v15 < ((List.set l14 (x12 : Int).toNat v17).length : Int) then (
                                      let v19 : Int := IntKind.i64.wrap (x12 + 1)
                                      if 0 ≤ v19 ∧ v19 < (l13.length : Int) then (
                                        let v20 : Int := rdT ((.int .i64) : Ty) l13 v19
                                        if 0 ≤ v20 ∧ v20 < (x1.length : Int) then (
                                          match sched_Needs n ((((rdT ty0 x1 v20).1, ((rdT ty0 x1 v20).2).1, (((rdT ty0 x1 v20).2).2).1, ((((rdT ty0 x1 v20).2).2).2).1, (((((rdT ty0 x1 v20).2).2).2).2).1, ((((((rdT ty0 x1 v20).2).2).2).2).2).1, (((((((rdT ty0 x1 v20).2).2).2).2).2).2).1, ((((((((rdT ty0 x1 v20).2).2).2).2).2).2).2).1, ((((((((rdT ty0 x1 v20).2).2).2).2).2).2).2).2, ()), ()), ()) with
                                          | some ((_, _), (l21, _)) => (
                                            match law18_SchedFits_l19 n n ((x1, (), x12, (), (), false, 0, ()), (l13, List.set (List.set l14 (x12 : Int).toNat v17) (v15 : Int).toNat v18, l21, ())) with
                                            | some (.inl ((x22, _, x23, _), (l24, _))) => (
                                              match sched_Check n (((), x22, ()), (l24, ())) with
                                              | some ((x25, _), (l26, _)) => (
                                                if x25 == (!x23) then
                                                  if (l26.length + ([0] : List ((.int .i64) : Ty).T).length) * 8 ≤ 140737488355328 then (
                                                    match sched_Check_2 n ((l26 ++ [0], x22, ()), ()) with
                                                    | some ((x27, _), _) => (
                                                      if !x27 then
                                                        if 0 ≤ (1 : Int) ∧ (1 : Int) ≤ (l26.length : Int) then (
                                                          let v28 : List Int := cutL l26 1 (l26.length : Int)
                                                          match sched_Check_2 n ((v28, x22, ()), ()) with
                                                          | some ((x29, _), _) => (
                                                            some ((!x29, ()), ()))
                                                          | none => none) else none
                                                      else
                                                        some ((false, ()), ()))
                                                    | none => none) else none
                                                else
                                                  some ((false, ()), ()))
                                              | none => none)
                                            | some (.inr (_)) => none
                                            | none => none)
                                          | none => none) else none) else none) else none) else none) else none) else none)
                            | none => none)
                          | none => none)
                  | none => none)
              | none => none)
        | none => none)
    | none => none
def law18_SchedFits_H (n : Nat) : Hints := ⟨[125], fun _ => [], fun k => match k with | 19 => some ⟨[0, 6, 8, 9, 10, 11, 12], law18_SchedFits_l19_h, law18_SchedFits_l19_o, law18_SchedFits_l19 n⟩ | _ => none, fun _ => none, fun _ => none⟩
def law18_SchedFits_O (n : Nat) : FuncId → List FSpec := asc [(5, ⟨law18_first_ins, law18_first_outs, law18_first n⟩), (6, ⟨world_Plains_ins, world_Plains_outs, world_Plains n⟩), (7, ⟨sched_Order_2_ins, sched_Order_2_outs, sched_Order_2 n⟩), (8, ⟨sched_Check_ins, sched_Check_outs, sched_Check n⟩), (8, ⟨sched_Check_2_ins, sched_Check_2_outs, sched_Check_2 n⟩), (9, ⟨world_Number_ins, world_Number_outs, world_Number n⟩), (10, ⟨ref_Ints_ins, ref_Ints_outs, ref_Ints n⟩), (11, ⟨sched_Needs_ins, sched_Needs_outs, sched_Needs n⟩), (12, ⟨ref_Among_ins, ref_Among_outs, ref_Among n⟩)]
def b3 : Code := bodyOf Tryd.f3
theorem law18_SchedFits_l19_k0 (n : Nat) : LoopOk P CC (law18_SchedFits_O n) n 0 137 (law18_SchedFits_H n) ⟨[0, 6, 8, 9, 10, 11, 12], law18_SchedFits_l19_h, law18_SchedFits_l19_o, law18_SchedFits_l19 n⟩ ((loopsOf b3).getD 0 .skip) := by
  refine ⟨fun _ => by kernel_rfl, ?_⟩
  rintro k ⟨⟨x1, ⟨⟩, x2, ⟨⟩, ⟨⟩, x3, x4, ⟨⟩⟩, ⟨x5, x6, x7, ⟨⟩⟩⟩
  kernel_rfl
theorem law18_SchedFits_ok {S : Nat → Addr} (ok : CfgOk P CC S) : ∀ n, SpecOk P CC S 3 ⟨law18_SchedFits_ins, law18_SchedFits_outs, law18_SchedFits n⟩ :=
  fn_all ok (O := law18_SchedFits_O) (H := law18_SchedFits_H) (fn := Tryd.f3) (body := b3) (by kernel_rfl) (by kernel_rfl) (by kernel_rfl) (by decide) (by kernel_rfl)
    (fun x => by kernel_rfl) (fun n => by
      rintro ⟨⟨x1, x2, ⟨⟩⟩, ⟨⟩⟩
      kernel_rfl)
    (fun n => obl_of (by kernel_rfl) (by kernel_rfl) (ls (lz) (by kernel_rfl) (law18_SchedFits_l19_k0 n)) (cn (cn (cn (cn (cn (cn (cn (cn (cn (cn (cn (cn (cn (cn (cn (cn (cn (cn (cn (cn (cn (cn (cn (cn (cn (cn (cn (cn (cn (cz) (by kernel_rfl)) (by kernel_rfl)) (by kernel_rfl)) (by kernel_rfl)) (by kernel_rfl)) (by kernel_rfl)) (by kernel_rfl)) (by kernel_rfl)) (by kernel_rfl)) (by kernel_rfl)) (by kernel_rfl)) (by kernel_rfl)) (by kernel_rfl)) (by kernel_rfl)) (by kernel_rfl)) (by kernel_rfl)) (by kernel_rfl)) (by kernel_rfl)) (by kernel_rfl)) (by kernel_rfl)) (by kernel_rfl)) (by kernel_rfl)) (by kernel_rfl)) (by kernel_rfl)) (by kernel_rfl)) (by kernel_rfl)) (by kernel_rfl)) (by kernel_rfl)) (by kernel_rfl)) (hn fun _ => rfl))
    (fun n ih => asc_cons (law18_first_ok ok n) <| asc_cons (world_Plains_ok ok n) <| asc_cons (sched_Order_2_ok ok n) <| asc_cons (sched_Check_ok ok n) <| asc_cons (sched_Check_2_ok ok n) <| asc_cons (world_Number_ok ok n) <| asc_cons (ref_Ints_ok ok n) <| asc_cons (sched_Needs_ok ok n) <| asc_cons (ref_Among_ok ok n) <| asc_nil)
end
end Go.Proofs.YtgdolcaijbkaeaaDoor.Cm

/- Printed by cmtext.py: the code as plain functions. -/
import Derived.Test.YtgdolcaijbkaeaaDoorCmFo
import Derived.Test.YtgdolcaijbkaeaaDoorShelf
import Derived.Test.YtgdolcaijbkaeaaDoorCmFs
namespace Go.Proofs.YtgdolcaijbkaeaaDoor.Cm
open Go
noncomputable section
set_option linter.unusedVariables false
set_option maxRecDepth 100000
abbrev P := Tryd.prog
abbrev CC : Cfg := ⟨114, 62, 65, [(101, 2), (102, 3), (103, 4), (104, 5), (105, 6), (106, 7), (107, 8), (108, 9), (109, 10), (110, 1), (111, 11), (112, 12), (113, 0), (114, 13), (115, 14), (116, 15), (117, 16), (118, 17), (119, 18), (120, 19), (121, 20)], [(21, tabP (fun z => Value.int .u64 z) Lib.pow10Tab)], [], [(38, 0)]⟩
abbrev ty1 : Ty := (.fl 9 .str)
abbrev ty8 : Ty := (.pair (.int .i64) (.int .i64))
abbrev ty7 : Ty := (.pair .str ty8)
abbrev ty6 : Ty := (.slice 49 ty7)
abbrev ty11 : Ty := (.pair .str .bool)
abbrev ty10 : Ty := (.slice 53 ty11)
abbrev ty13 : Ty := (.pair .str .str)
abbrev ty12 : Ty := (.pair .str ty13)
abbrev ty9 : Ty := (.pair ty10 ty12)
abbrev ty5 : Ty := (.pair ty6 ty9)
abbrev ty4 : Ty := (.pair (.int .i64) ty5)
abbrev ty3 : Ty := (.pair .str ty4)
abbrev ty2 : Ty := (.pair (.int .i64) ty3)
abbrev ty0 : Ty := (.pair ty1 ty2)
abbrev ty14 : Ty := (.slice 9 .str)
abbrev ty15 : Ty := (.slice 4 .bool)
/-! ### pendulum/sched.givers -/
abbrev sched_givers_ins : Sh := ⟨[(.one (.arr 0))], [(.arr 38 ty0)]⟩
abbrev sched_givers_outs : List Sh := [⟨[(.tup [(false, [(.map 1)]), (false, [(.val .err)])])], [(.arr 38 ty0), (.map .str (.int .i64) false)]⟩, ⟨[(.tup [(false, [.nilmap]), (false, [(.val .err)])])], [(.arr 38 ty0)]⟩]
abbrev sched_givers_l6_h : Sh := ⟨[(.one (.map 1)), (.one (.val (.int .i64))), (.one (.arr 0)), (.one (.val (.int .i64))), (.one (.val (.int .i64))), (.one (.val ty14)), (.one (.val (.int .i64))), (.one (.val (.int .i64)))], [(.arr 38 ty0), (.map .str (.int .i64) false)]⟩
abbrev sched_givers_l6_o : List Out := [⟨(.exit 2), [4, 12, 13, 14], ⟨[(.one (.map 1)), (.one (.arr 0)), (.one (.val (.int .i64))), (.one (.val (.int .i64)))], [(.arr 38 ty0), (.map .str (.int .i64) false)]⟩⟩, ⟨.ret, [2, 3], ⟨[(.one .nilmap), (.one (.val .err))], [(.arr 38 ty0)]⟩⟩]
def sched_givers_l6 (n : Nat) : Nat → sched_givers_l6_h.T → Option (OutT sched_givers_l6_o)
  | 0, _ => none
  | k + 1, ((_, x1, _, x2, x3, x4, x5, x6, _), (l7, m8, _)) =>
    if decide (x6 < x5) then
      if 0 ≤ x6 ∧ x6 < (x4.length : Int) then (
        let v9 : Int := (mfind (keyEq (.str : Ty)) (rdT (.str : Ty) x4 x6) m8).getD 0
        if (mfind (keyEq (.str : Ty)) (rdT (.str : Ty) x4 x6) m8).isSome then
          if v9 != x1 then
            some (.inr (.inl (((), ErrV.at_ x1 (ErrV.sent 110), ()), (l7, ()))))
          else
            let v10 : Int := IntKind.i64.wrap (x6 + 1)
            sched_givers_l6 n k (((), x1, (), x2, x3, x4, x5, v10, ()), (l7, mset (keyEq (.str : Ty)) (rdT (.str : Ty) x4 x6) x1 m8, ()))
        else
          let v11 : Int := IntKind.i64.wrap (x6 + 1)
          sched_givers_l6 n k (((), x1, (), x2, x3, x4, x5, v11, ()), (l7, mset (keyEq (.str : Ty)) (rdT (.str : Ty) x4 x6) x1 m8, ()))) else none
    else
      some (.inl (((), (), x2, x3, ()), (l7, m8, ())))
abbrev sched_givers_l3_h : Sh := ⟨[(.one (.map 1)), (.one (.arr 0)), (.one (.val (.int .i64))), (.one (.val (.int .i64)))], [(.arr 38 ty0), (.map .str (.int .i64) false)]⟩
abbrev sched_givers_l3_o : List Out := [⟨(.exit 0), [4], ⟨[(.one (.map 1))], [(.arr 38 ty0), (.map .str (.int .i64) false)]⟩⟩, ⟨.ret, [2, 3], ⟨[(.one .nilmap), (.one (.val .err))], [(.arr 38 ty0)]⟩⟩]
def sched_givers_l3 (n : Nat) : Nat → sched_givers_l3_h.T → Option (OutT sched_givers_l3_o)
  | 0, _ => none
  | k + 1, ((_, _, x1, x2, _), (l3, m4, _)) =>
    if decide (x2 < x1) then
      if 0 ≤ x2 ∧ x2 < (l3.length : Int) then (
        match sched_givers_l6 n n (((), x2, (), x1, x2, ((rdT ty0 l3 x2).1).2, ((((rdT ty0 l3 x2).1).2).length : Int), 0, ()), (l3, m4, ())) with
        | some (.inl ((_, _, x5, x6, _), (l7, m8, _))) => (
          let v11 : Int := IntKind.i64.wrap (x6 + 1)
          sched_givers_l3 n k (((), (), x5, v11, ()), (l7, m8, ())))
        | some (.inr (.inl ((_, x9, _), (l10, _)))) => (
          some (.inr (.inl (((), x9, ()), (l10, ())))))
        | some (.inr (.inr (_))) => none
        | none => none) else none
    else
      some (.inl (((), ()), (l3, m4, ())))
def sched_givers : Nat → sched_givers_ins.T → Option (OutsT sched_givers_outs)
  | 0, _ => none
  | n + 1, ((_, _), (l1, _)) =>
    match sched_givers_l3 n n (((), (), (l1.length : Int), 0, ()), (l1, [], ())) with
    | some (.inl ((_, _), (l2, m3, _))) => (
      some (.inl (((((), ()), (ErrV.nil, ()), ()), ()), (l2, m3, ()))))
    | some (.inr (.inl ((_, x4, _), (l5, _)))) => (
      some (.inr ((((((), ()), (x4, ()), ()), ()), (l5, ())))))
    | some (.inr (.inr (_))) => none
    | none => none
def sched_givers_H (n : Nat) : Hints := ⟨[], fun _ => [], fun k => match k with | 6 => some ⟨[4, 5, 12, 13, 14, 20, 21, 22], sched_givers_l6_h, sched_givers_l6_o, sched_givers_l6 n⟩ | 3 => some ⟨[4, 12, 13, 14], sched_givers_l3_h, sched_givers_l3_o, sched_givers_l3 n⟩ | _ => none, fun _ => none, fun _ => none⟩
def sched_givers_O (n : Nat) : FuncId → List FSpec := asc []
def b19 : Code := bodyOf Tryd.f19
theorem sched_givers_l3_k0 (n : Nat) : LoopOk P CC (sched_givers_O n) n 1 49 (sched_givers_H n) ⟨[4, 12, 13, 14], sched_givers_l3_h, sched_givers_l3_o, sched_givers_l3 n⟩ ((loopsOf b19).getD 0 .skip) := by
  refine ⟨fun _ => by kernel_rfl, ?_⟩
  rintro k ⟨⟨⟨⟩, ⟨⟩, x1, x2, ⟨⟩⟩, ⟨x3, x4, ⟨⟩⟩⟩
  kernel_rfl
theorem sched_givers_l6_k1 (n : Nat) : LoopOk P CC (sched_givers_O n) n 1 49 (sched_givers_H n) ⟨[4, 5, 12, 13, 14, 20, 21, 22], sched_givers_l6_h, sched_givers_l6_o, sched_givers_l6 n⟩ ((loopsOf b19).getD 1 .skip) := by
  refine ⟨fun _ => by kernel_rfl, ?_⟩
  rintro k ⟨⟨⟨⟩, x1, ⟨⟩, x2, x3, x4, x5, x6, ⟨⟩⟩, ⟨x7, x8, ⟨⟩⟩⟩
  kernel_rfl
theorem sched_givers_ok {S : Nat → Addr} (ok : CfgOk P CC S) : ∀ n, SpecOk P CC S 19 ⟨sched_givers_ins, sched_givers_outs, sched_givers n⟩ :=
  fn_all ok (O := sched_givers_O) (H := sched_givers_H) (fn := Tryd.f19) (body := b19) (by kernel_rfl) (by kernel_rfl) (by kernel_rfl) (by decide) (by kernel_rfl)
    (fun x => by kernel_rfl) (fun n => by
      rintro ⟨⟨⟨⟩, ⟨⟩⟩, ⟨x1, ⟨⟩⟩⟩
      kernel_rfl)
    (fun n => obl_of (by kernel_rfl) (by kernel_rfl) (ls (ls (lz) (by kernel_rfl) (sched_givers_l3_k0 n)) (by kernel_rfl) (sched_givers_l6_k1 n)) (cn (cn (cn (cn (cn (cn (cn (cn (cn (cn (cn (cn (cn (cn (cn (cn (cn (cn (cz) (by kernel_rfl)) (by kernel_rfl)) (by kernel_rfl)) (by kernel_rfl)) (by kernel_rfl)) (by kernel_rfl)) (by kernel_rfl)) (by kernel_rfl)) (by kernel_rfl)) (by kernel_rfl)) (by kernel_rfl)) (by kernel_rfl)) (by kernel_rfl)) (by kernel_rfl)) (by kernel_rfl)) (by kernel_rfl)) (by kernel_rfl)) (by kernel_rfl)) (hn fun _ => rfl))
    (fun n ih => asc_nil)
/-! ### slices.Sort[[]string,string] (by hand) -/
abbrev slices_Sort_string_ins : Sh := ⟨[(.one (.arr 0))], [(.arr 9 .str)]⟩
abbrev slices_Sort_string_outs : List Sh := [⟨[(.tup [])], [(.arr 9 .str)]⟩]
def slices_Sort_string : Nat → slices_Sort_string_ins.T → Option (OutsT slices_Sort_string_outs) := fun _ => sortSem 9
theorem slices_Sort_string_ok {S : Nat → Addr} (ok : CfgOk P CC S) : ∀ n, SpecOk P CC S 25 ⟨slices_Sort_string_ins, slices_Sort_string_outs, slices_Sort_string n⟩ := fun n => sort_spec ⟨Tryd.f25, by kernel_rfl, by kernel_rfl, by kernel_rfl⟩ Tryd.slices_Sort_string_none Tryd.slices_Sort_string
/-! ### slices.Compact[[]string,string] (by hand) -/
abbrev slices_Compact_string_ins : Sh := ⟨[(.one (.arr 0))], [(.arr 9 .str)]⟩
abbrev slices_Compact_string_outs : List Sh := [⟨[(.one (.arr 1))], [.dead, (.arr 9 .str)]⟩]
def slices_Compact_string : Nat → slices_Compact_string_ins.T → Option (OutsT slices_Compact_string_outs) := fun _ => compSem 9
theorem slices_Compact_string_ok {S : Nat → Addr} (ok : CfgOk P CC S) : ∀ n, SpecOk P CC S 26 ⟨slices_Compact_string_ins, slices_Compact_string_outs, slices_Compact_string n⟩ := fun n => comp_spec ⟨Tryd.f26, by kernel_rfl, by kernel_rfl, by kernel_rfl⟩ Tryd.slices_Compact_string_empty Tryd.slices_Compact_string
/-! ### pendulum/sched.Needs -/
abbrev sched_Needs_ins : Sh := ⟨[(.agg [(.val ty1), (.val (.int .i64)), (.val .str), (.val (.int .i64)), (.val ty6), (.val ty10), (.val .str), (.val .str), (.val .str)])], []⟩
abbrev sched_Needs_outs : List Sh := [⟨[(.one (.arr 0))], [(.arr 9 .str)]⟩]
abbrev sched_Needs_c7_h : Sh := ⟨[(.one (.ptr 0 0)), (.one (.val ty6))], [(.obj 38 [(.val ty1), (.val (.int .i64)), (.val .str), (.val (.int .i64)), (.val ty6), (.val ty10), (.val .str), (.val .str), (.val .str)])]⟩
abbrev sched_Needs_c7_o : List Out := [⟨.normal, [1, 3], ⟨[(.one (.ptr 0 0)), (.one (.val ty6))], [(.obj 38 [(.val ty1), (.val (.int .i64)), (.val .str), (.val (.int .i64)), (.val ty6), (.val ty10), (.val .str), (.val .str), (.val .str)])]⟩⟩]
def sched_Needs_c7 (n : Nat) : sched_Needs_c7_h.T → Option (OutT sched_Needs_c7_o)
  | ((_, x1, _), ((x2, x3, x4, x5, x6, x7, x8, x9, x10, _), _)) =>
    if x3 == 23 then
      some (.inl (((), [], ()), ((x2, x3, x4, x5, x6, x7, x8, x9, x10, ()), ())))
    else
      if x3 == 21 then
        if 0 ≤ mn 1 (x1.length : Int) ∧ mn 1 (x1.length : Int) ≤ (x1.length : Int) then (
          let v11 : List ty7.T := cutL x1 0 (mn 1 (x1.length : Int))
          some (.inl (((), v11, ()), ((x2, x3, x4, x5, x6, x7, x8, x9, x10, ()), ())))) else none
      else
        some (.inl (((), x1, ()), ((x2, x3, x4, x5, x6, x7, x8, x9, x10, ()), ())))
abbrev sched_Needs_l9_h : Sh := ⟨[(.one (.ptr 0 0)), (.one (.arr 1)), (.one (.val ty6)), (.one (.val (.int .i64))), (.one (.val (.int .i64)))], [(.obj 38 [(.val ty1), (.val (.int .i64)), (.val .str), (.val (.int .i64)), (.val ty6), (.val ty10), (.val .str), (.val .str), (.val .str)]), (.arr 9 .str)]⟩
abbrev sched_Needs_l9_o : List Out := [⟨(.exit 1), [1, 4], ⟨[(.one (.ptr 0 0)), (.one (.arr 1))], [(.obj 38 [(.val ty1), (.val (.int .i64)), (.val .str), (.val (.int .i64)), (.val ty6), (.val ty10), (.val .str), (.val .str), (.val .str)]), (.arr 9 .str)]⟩⟩]
def sched_Needs_l9 (n : Nat) : Nat → sched_Needs_l9_h.T → Option (OutT sched_Needs_l9_o)
  | 0, _ => none
  | k + 1, ((_, _, x1, x2, x3, _), ((x4, x5, x6, x7, x8, x9, x10, x11, x12, _), l13, _)) =>
    if decide (x3 < x2) then
      if 0 ≤ x3 ∧ x3 < (x1.length : Int) then (
        if !strEq ((rdT ty7 x1 x3).1) (⟨#[]⟩ : ByteArray) then
          if (l13.length + ([(rdT ty7 x1 x3).1] : List (.str : Ty).T).length) * 16 ≤ 140737488355328 then (
            let v14 : Int := IntKind.i64.wrap (x3 + 1)
            sched_Needs_l9 n k (((), (), x1, x2, v14, ()), ((x4, x5, x6, x7, x8, x9, x10, x11, x12, ()), l13 ++ [(rdT ty7 x1 x3).1], ()))) else none
        else
          let v15 : Int := IntKind.i64.wrap (x3 + 1)
          sched_Needs_l9 n k (((), (), x1, x2, v15, ()), ((x4, x5, x6, x7, x8, x9, x10, x11, x12, ()), l13, ()))) else none
    else
      some (.inl (((), (), ()), ((x4, x5, x6, x7, x8, x9, x10, x11, x12, ()), l13, ())))
abbrev sched_Needs_c16_h : Sh := ⟨[(.one (.ptr 0 0)), (.one (.arr 1))], [(.obj 38 [(.val ty1), (.val (.int .i64)), (.val .str), (.val (.int .i64)), (.val ty6), (.val ty10), (.val .str), (.val .str), (.val .str)]), (.arr 9 .str)]⟩
abbrev sched_Needs_c16_o : List Out := [⟨.normal, [1, 4], ⟨[(.one (.ptr 0 0)), (.one (.arr 1))], [(.obj 38 [(.val ty1), (.val (.int .i64)), (.val .str), (.val (.int .i64)), (.val ty6), (.val ty10), (.val .str), (.val .str), (.val .str)]), (.arr 9 .str)]⟩⟩]
def sched_Needs_c16 (n : Nat) : sched_Needs_c16_h.T → Option (OutT sched_Needs_c16_o)
  | ((_, _, _), ((x1, x2, x3, x4, x5, x6, x7, x8, x9, _), l10, _)) =>
    if x2 == 24 then
      if (l10.length + ([x3] : List (.str : Ty).T).length) * 16 ≤ 140737488355328 then (
        some (.inl (((), (), ()), ((x1, x2, x3, x4, x5, x6, x7, x8, x9, ()), l10 ++ [x3], ())))) else none
    else
      if x2 == 25 then
        if (l10.length + ([x3] : List (.str : Ty).T).length) * 16 ≤ 140737488355328 then (
          some (.inl (((), (), ()), ((x1, x2, x3, x4, x5, x6, x7, x8, x9, ()), l10 ++ [x3], ())))) else none
      else
        some (.inl (((), (), ()), ((x1, x2, x3, x4, x5, x6, x7, x8, x9, ()), l10, ())))
abbrev sched_Needs_c18_h : Sh := ⟨[(.one (.ptr 0 0)), (.one (.arr 1))], [(.obj 38 [(.val ty1), (.val (.int .i64)), (.val .str), (.val (.int .i64)), (.val ty6), (.val ty10), (.val .str), (.val .str), (.val .str)]), (.arr 9 .str)]⟩
abbrev sched_Needs_c18_o : List Out := [⟨.normal, [1, 4], ⟨[(.one (.ptr 0 0)), (.one (.arr 1))], [(.obj 38 [(.val ty1), (.val (.int .i64)), (.val .str), (.val (.int .i64)), (.val ty6), (.val ty10), (.val .str), (.val .str), (.val .str)]), (.arr 9 .str)]⟩⟩]
def sched_Needs_c18 (n : Nat) : sched_Needs_c18_h.T → Option (OutT sched_Needs_c18_o)
  | ((_, _, _), ((x1, x2, x3, x4, x5, x6, x7, x8, x9, _), l10, _)) =>
    if !strEq x9 (⟨#[]⟩ : ByteArray) then
      if (l10.length + ([x9] : List (.str : Ty).T).length) * 16 ≤ 140737488355328 then (
        some (.inl (((), (), ()), ((x1, x2, x3, x4, x5, x6, x7, x8, x9, ()), l10 ++ [x9], ())))) else none
    else
      some (.inl (((), (), ()), ((x1, x2, x3, x4, x5, x6, x7, x8, x9, ()), l10, ())))
abbrev sched_Needs_l19_h : Sh := ⟨[(.one (.arr 0)), (.one (.val ty10)), (.one (.val (.int .i64))), (.one (.val (.int .i64)))], [(.arr 9 .str)]⟩
abbrev sched_Needs_l19_o : List Out := [⟨(.exit 3), [4], ⟨[(.one (.arr 0))], [(.arr 9 .str)]⟩⟩]
def sched_Needs_l19 (n : Nat) : Nat → sched_Needs_l19_h.T → Option (OutT sched_Needs_l19_o)
  | 0, _ => none
  | k + 1, ((_, x1, x2, x3, _), (l4, _)) =>
    if decide (x3 < x2) then
      if 0 ≤ x3 ∧ x3 < (x1.length : Int) then (
        if (l4.length + ([(rdT ty11 x1 x3).1] : List (.str : Ty).T).length) * 16 ≤ 140737488355328 then (
          let v5 : Int := IntKind.i64.wrap (x3 + 1)
          sched_Needs_l19 n k (((), x1, x2, v5, ()), (l4 ++ [(rdT ty11 x1 x3).1], ()))) else none) else none
    else
      some (.inl (((), ()), (l4, ())))
def sched_Needs : Nat → sched_Needs_ins.T → Option (OutsT sched_Needs_outs)
  | 0, _ => none
  | n + 1, (((x1, x2, x3, x4, x5, x6, x7, x8, x9, _), _), _) =>
    match sched_Needs_c7 n (((), x5, ()), ((x1, x2, x3, x4, x5, x6, x7, x8, x9, ()), ())) with
    | some (.inl ((_, x10, _), ((x11, x12, x13, x14, x15, x16, x17, x18, x19, _), _))) => (
      match sched_Needs_l9 n n (((), (), x10, (x10.length : Int), 0, ()), ((x11, x12, x13, x14, x15, x16, x17, x18, x19, ()), [], ())) with
      | some (.inl ((_, _, _), ((x20, x21, x22, x23, x24, x25, x26, x27, x28, _), l29, _))) => (
        match sched_Needs_c16 n (((), (), ()), ((x20, x21, x22, x23, x24, x25, x26, x27, x28, ()), l29, ())) with
        | some (.inl ((_, _, _), ((x30, x31, x32, x33, x34, x35, x36, x37, x38, _), l39, _))) => (
          match sched_Needs_c18 n (((), (), ()), ((x30, x31, x32, x33, x34, x35, x36, x37, x38, ()), l39, ())) with
          | some (.inl ((_, _, _), ((x40, x41, x42, x43, x44, x45, x46, x47, x48, _), l49, _))) => (
            match sched_Needs_l19 n n (((), x45, (x45.length : Int), 0, ()), (l49, ())) with
            | some (.inl ((_, _), (l50, _))) => (
              match slices_Sort_string n (((), ()), (l50, ())) with
              | some ((_, _), (l51, _)) => (
                match slices_Compact_string n (((), ()), (l51, ())) with
                | some ((_, _), (_, l52, _)) => (
                  some (((), ()), (l52, ())))
                | none => none)
              | none => none)
            | some (.inr (_)) => none
            | none => none)
          | some (.inr (_)) => none
          | none => none)
        | some (.inr (_)) => none
        | none => none)
      | some (.inr (_)) => none
      | none => none)
    | some (.inr (_)) => none
    | none => none
def sched_Needs_H (n : Nat) : Hints := ⟨[], fun _ => [], fun k => match k with | 9 => some ⟨[1, 4, 22, 23, 24], sched_Needs_l9_h, sched_Needs_l9_o, sched_Needs_l9 n⟩ | 19 => some ⟨[4, 59, 60, 61], sched_Needs_l19_h, sched_Needs_l19_o, sched_Needs_l19 n⟩ | _ => none, fun k => match k with | 7 => some ⟨[1, 3], sched_Needs_c7_h, sched_Needs_c7_o, fun n => sched_Needs_c7 n⟩ | 16 => some ⟨[1, 4], sched_Needs_c16_h, sched_Needs_c16_o, fun n => sched_Needs_c16 n⟩ | 18 => some ⟨[1, 4], sched_Needs_c18_h, sched_Needs_c18_o, fun n => sched_Needs_c18 n⟩ | _ => none, fun _ => none⟩
def sched_Needs_O (n : Nat) : FuncId → List FSpec := asc [(25, ⟨slices_Sort_string_ins, slices_Sort_string_outs, slices_Sort_string n⟩), (26, ⟨slices_Compact_string_ins, slices_Compact_string_outs, slices_Compact_string n⟩)]
def b11 : Code := bodyOf Tryd.f11
theorem sched_Needs_l9_k0 (n : Nat) : LoopOk P CC (sched_Needs_O n) n 0 75 (sched_Needs_H n) ⟨[1, 4, 22, 23, 24], sched_Needs_l9_h, sched_Needs_l9_o, sched_Needs_l9 n⟩ ((loopsOf b11).getD 0 .skip) := by
  refine ⟨fun _ => by kernel_rfl, ?_⟩
  rintro k ⟨⟨⟨⟩, ⟨⟩, x1, x2, x3, ⟨⟩⟩, ⟨⟨x4, x5, x6, x7, x8, x9, x10, x11, x12, ⟨⟩⟩, x13, ⟨⟩⟩⟩
  kernel_rfl
theorem sched_Needs_l19_k1 (n : Nat) : LoopOk P CC (sched_Needs_O n) n 0 75 (sched_Needs_H n) ⟨[4, 59, 60, 61], sched_Needs_l19_h, sched_Needs_l19_o, sched_Needs_l19 n⟩ ((loopsOf b11).getD 1 .skip) := by
  refine ⟨fun _ => by kernel_rfl, ?_⟩
  rintro k ⟨⟨⟨⟩, x1, x2, x3, ⟨⟩⟩, ⟨x4, ⟨⟩⟩⟩
  kernel_rfl
theorem sched_Needs_c7_k2 (n : Nat) : CutOk P CC (sched_Needs_O n) n 0 75 (sched_Needs_H n) ⟨[1, 3], sched_Needs_c7_h, sched_Needs_c7_o, fun n => sched_Needs_c7 n⟩ ((cutsOf b11).getD 2 (0, .skip)).2 := by
  rintro ⟨⟨⟨⟩, x1, ⟨⟩⟩, ⟨⟨x2, x3, x4, x5, x6, x7, x8, x9, x10, ⟨⟩⟩, ⟨⟩⟩⟩
  kernel_rfl
theorem sched_Needs_c16_k14 (n : Nat) : CutOk P CC (sched_Needs_O n) n 0 75 (sched_Needs_H n) ⟨[1, 4], sched_Needs_c16_h, sched_Needs_c16_o, fun n => sched_Needs_c16 n⟩ ((cutsOf b11).getD 14 (0, .skip)).2 := by
  rintro ⟨⟨⟨⟩, ⟨⟩, ⟨⟩⟩, ⟨⟨x1, x2, x3, x4, x5, x6, x7, x8, x9, ⟨⟩⟩, x10, ⟨⟩⟩⟩
  kernel_rfl
theorem sched_Needs_c18_k16 (n : Nat) : CutOk P CC (sched_Needs_O n) n 0 75 (sched_Needs_H n) ⟨[1, 4], sched_Needs_c18_h, sched_Needs_c18_o, fun n => sched_Needs_c18 n⟩ ((cutsOf b11).getD 16 (0, .skip)).2 := by
  rintro ⟨⟨⟨⟩, ⟨⟩, ⟨⟩⟩, ⟨⟨x1, x2, x3, x4, x5, x6, x7, x8, x9, ⟨⟩⟩, x10, ⟨⟩⟩⟩
  kernel_rfl
theorem sched_Needs_ok {S : Nat → Addr} (ok : CfgOk P CC S) : ∀ n, SpecOk P CC S 11 ⟨sched_Needs_ins, sched_Needs_outs, sched_Needs n⟩ :=
  fn_all ok (O := sched_Needs_O) (H := sched_Needs_H) (fn := Tryd.f11) (body := b11) (by kernel_rfl) (by kernel_rfl) (by kernel_rfl) (by decide) (by kernel_rfl)
    (fun x => by kernel_rfl) (fun n => by
      rintro ⟨⟨⟨x1, x2, x3, x4, x5, x6, x7, x8, x9, ⟨⟩⟩, ⟨⟩⟩, ⟨⟩⟩
      kernel_rfl)
    (fun n => obl_of (by kernel_rfl) (by kernel_rfl) (ls (ls (lz) (by kernel_rfl) (sched_Needs_l9_k0 n)) (by kernel_rfl) (sched_Needs_l19_k1 n)) (cn (cn (cn (cn (cn (cn (cn (cn (cn (cs (cn (cs (cn (cn (cn (cn (cn (cn (cn (cn (cn (cn (cn (cs (cn (cn (cz) (by kernel_rfl)) (by kernel_rfl)) (by kernel_rfl) (sched_Needs_c7_k2 n)) (by kernel_rfl)) (by kernel_rfl)) (by kernel_rfl)) (by kernel_rfl)) (by kernel_rfl)) (by kernel_rfl)) (by kernel_rfl)) (by kernel_rfl)) (by kernel_rfl)) (by kernel_rfl)) (by kernel_rfl)) (by kernel_rfl) (sched_Needs_c16_k14 n)) (by kernel_rfl)) (by kernel_rfl) (sched_Needs_c18_k16 n)) (by kernel_rfl)) (by kernel_rfl)) (by kernel_rfl)) (by kernel_rfl)) (by kernel_rfl)) (by kernel_rfl)) (by kernel_rfl)) (by kernel_rfl)) (by kernel_rfl)) (hn fun _ => rfl))
    (fun n ih => asc_cons (slices_Sort_string_ok ok n) <| asc_cons (slices_Compact_string_ok ok n) <| asc_nil)
/-! ### pendulum/sched.Order$1$1 -/
abbrev sched_Order_1_1_ins : Sh := ⟨[(.one (.val .str)), (.one (.ptr 0 0)), (.one (.ptr 1 0))], [(.obj 54 [(.map 2)]), (.obj 57 [(.arr 3)]), (.map .str (.int .i64) false), (.arr 4 .bool)]⟩
abbrev sched_Order_1_1_outs : List Sh := [⟨[(.one (.val .bool))], [(.obj 54 [(.map 2)]), (.obj 57 [(.arr 3)]), (.map .str (.int .i64) false), (.arr 4 .bool)]⟩]
def sched_Order_1_1 : Nat → sched_Order_1_1_ins.T → Option (OutsT sched_Order_1_1_outs)
  | 0, _ => none
  | n + 1, ((x1, _, _, _), ((_, _), (_, _), m2, l3, _)) =>
    let v4 : Int := (mfind (keyEq (.str : Ty)) x1 m2).getD 0
    if (mfind (keyEq (.str : Ty)) x1 m2).isSome then
      if 0 ≤ v4 ∧ v4 < (l3.length : Int) then (
        some ((!(rdT (.bool : Ty) l3 v4), ()), (((), ()), ((), ()), m2, l3, ()))) else none
    else
      some ((false, ()), (((), ()), ((), ()), m2, l3, ()))
def sched_Order_1_1_H (n : Nat) : Hints := ⟨[], fun _ => [], fun _ => none, fun _ => none, fun _ => none⟩
def sched_Order_1_1_O (n : Nat) : FuncId → List FSpec := asc []
def b22 : Code := bodyOf Tryd.f22
theorem sched_Order_1_1_ok {S : Nat → Addr} (ok : CfgOk P CC S) : ∀ n, SpecOk P CC S 22 ⟨sched_Order_1_1_ins, sched_Order_1_1_outs, sched_Order_1_1 n⟩ :=
  fn_all ok (O := sched_Order_1_1_O) (H := sched_Order_1_1_H) (fn := Tryd.f22) (body := b22) (by kernel_rfl) (by kernel_rfl) (by kernel_rfl) (by decide) (by kernel_rfl)
    (fun x => by kernel_rfl) (fun n => by
      rintro ⟨⟨x1, ⟨⟩, ⟨⟩, ⟨⟩⟩, ⟨⟨⟨⟩, ⟨⟩⟩, ⟨⟨⟩, ⟨⟩⟩, x2, x3, ⟨⟩⟩⟩
      kernel_rfl)
    (fun n => obl_of (by kernel_rfl) (by kernel_rfl) (lz) (cn (cn (cn (cz) (by kernel_rfl)) (by kernel_rfl)) (by kernel_rfl)) (hn fun _ => rfl))
    (fun n ih => asc_nil)
/-! ### slices.IndexFunc[[]string,string] -/
abbrev slices_IndexFunc_string_string_ins : Sh := ⟨[(.one (.val ty14)), (.one (.fn 22 [0, 1]))], [(.obj 54 [(.map 2)]), (.obj 57 [(.arr 3)]), (.map .str (.int .i64) false), (.arr 4 .bool)]⟩
abbrev slices_IndexFunc_string_string_outs : List Sh := [⟨[(.one (.val (.int .i64)))], [(.obj 54 [(.map 2)]), (.obj 57 [(.arr 3)]), (.map .str (.int .i64) false), (.arr 4 .bool)]⟩]
abbrev slices_IndexFunc_string_string_l2_h : Sh := ⟨[(.one (.val ty14)), (.one (.fn 22 [0, 1])), (.one (.val (.int .i64))), (.one (.val (.int .i64)))], [(.obj 54 [(.map 2)]), (.obj 57 [(.arr 3)]), (.map .str (.int .i64) false), (.arr 4 .bool)]⟩
abbrev slices_IndexFunc_string_string_l2_o : List Out := [⟨(.exit 0), [], ⟨[], [(.obj 54 [(.map 2)]), (.obj 57 [(.arr 3)]), (.map .str (.int .i64) false), (.arr 4 .bool)]⟩⟩, ⟨.ret, [4], ⟨[(.one (.val (.int .i64)))], [(.obj 54 [(.map 2)]), (.obj 57 [(.arr 3)]), (.map .str (.int .i64) false), (.arr 4 .bool)]⟩⟩]
def slices_IndexFunc_string_string_l2 (n : Nat) : Nat → slices_IndexFunc_string_string_l2_h.T → Option (OutT slices_IndexFunc_string_string_l2_o)
  | 0, _ => none
  | k + 1, ((x1, _, x2, x3, _), ((_, _), (_, _), m4, l5, _)) =>
    if decide (x3 < x2) then
      if 0 ≤ x3 ∧ x3 < (x1.length : Int) then (
        match sched_Order_1_1 n ((rdT (.str : Ty) x1 x3, (), (), ()), (((), ()), ((), ()), m4, l5, ())) with
        | some ((x6, _), ((_, _), (_, _), m7, l8, _)) => (
          if x6 then
            some (.inr (.inl ((x3, ()), (((), ()), ((), ()), m7, l8, ()))))
          else
            let v9 : Int := IntKind.i64.wrap (x3 + 1)
            slices_IndexFunc_string_string_l2 n k ((x1, (), x2, v9, ()), (((), ()), ((), ()), m7, l8, ())))
        | none => none) else none
    else
      some (.inl ((), (((), ()), ((), ()), m4, l5, ())))
def slices_IndexFunc_string_string : Nat → slices_IndexFunc_string_string_ins.T → Option (OutsT slices_IndexFunc_string_string_outs)
  | 0, _ => none
  | n + 1, ((x1, _, _), ((_, _), (_, _), m2, l3, _)) =>
    match slices_IndexFunc_string_string_l2 n n ((x1, (), (x1.length : Int), 0, ()), (((), ()), ((), ()), m2, l3, ())) with
    | some (.inl (_, ((_, _), (_, _), m4, l5, _))) => (
      some (((-1), ()), (((), ()), ((), ()), m4, l5, ())))
    | some (.inr (.inl ((x6, _), ((_, _), (_, _), m7, l8, _)))) => (
      some ((x6, ()), (((), ()), ((), ()), m7, l8, ())))
    | some (.inr (.inr (_))) => none
    | none => none
def slices_IndexFunc_string_string_H (n : Nat) : Hints := ⟨[], fun _ => [], fun k => match k with | 2 => some ⟨[0, 1, 7, 8], slices_IndexFunc_string_string_l2_h, slices_IndexFunc_string_string_l2_o, slices_IndexFunc_string_string_l2 n⟩ | _ => none, fun _ => none, fun _ => none⟩
def slices_IndexFunc_string_string_O (n : Nat) : FuncId → List FSpec := asc [(22, ⟨sched_Order_1_1_ins, sched_Order_1_1_outs, sched_Order_1_1 n⟩)]
def b30 : Code := bodyOf Tryd.f30
theorem slices_IndexFunc_string_string_l2_k0 (n : Nat) : LoopOk P CC (slices_IndexFunc_string_string_O n) n 4 19 (slices_IndexFunc_string_string_H n) ⟨[0, 1, 7, 8], slices_IndexFunc_string_string_l2_h, slices_IndexFunc_string_string_l2_o, slices_IndexFunc_string_string_l2 n⟩ ((loopsOf b30).getD 0 .skip) := by
  refine ⟨fun _ => by kernel_rfl, ?_⟩
  rintro k ⟨⟨x1, ⟨⟩, x2, x3, ⟨⟩⟩, ⟨⟨⟨⟩, ⟨⟩⟩, ⟨⟨⟩, ⟨⟩⟩, x4, x5, ⟨⟩⟩⟩
  kernel_rfl
theorem slices_IndexFunc_string_string_ok {S : Nat → Addr} (ok : CfgOk P CC S) : ∀ n, SpecOk P CC S 30 ⟨slices_IndexFunc_string_string_ins, slices_IndexFunc_string_string_outs, slices_IndexFunc_string_string n⟩ :=
  fn_all ok (O := slices_IndexFunc_string_string_O) (H := slices_IndexFunc_string_string_H) (fn := Tryd.f30) (body := b30) (by kernel_rfl) (by kernel_rfl) (by kernel_rfl) (by decide) (by kernel_rfl)
    (fun x => by kernel_rfl) (fun n => by
      rintro ⟨⟨x1, ⟨⟩, ⟨⟩⟩, ⟨⟨⟨⟩, ⟨⟩⟩, ⟨⟨⟩, ⟨⟩⟩, x2, x3, ⟨⟩⟩⟩
      kernel_rfl)
    (fun n => obl_of (by kernel_rfl) (by kernel_rfl) (ls (lz) (by kernel_rfl) (slices_IndexFunc_string_string_l2_k0 n)) (cn (cn (cn (cn (cn (cn (cn (cn (cn (cn (cz) (by kernel_rfl)) (by kernel_rfl)) (by kernel_rfl)) (by kernel_rfl)) (by kernel_rfl)) (by kernel_rfl)) (by kernel_rfl)) (by kernel_rfl)) (by kernel_rfl)) (by kernel_rfl)) (hn fun _ => rfl))
    (fun n ih => asc_cons (sched_Order_1_1_ok ok n) <| asc_nil)
/-! ### slices.ContainsFunc[[]string,string] -/
abbrev slices_ContainsFunc_string_string_ins : Sh := ⟨[(.one (.val ty14)), (.one (.fn 22 [0, 1]))], [(.obj 54 [(.map 2)]), (.obj 57 [(.arr 3)]), (.map .str (.int .i64) false), (.arr 4 .bool)]⟩
abbrev slices_ContainsFunc_string_string_outs : List Sh := [⟨[(.one (.val .bool))], [(.obj 54 [(.map 2)]), (.obj 57 [(.arr 3)]), (.map .str (.int .i64) false), (.arr 4 .bool)]⟩]
def slices_ContainsFunc_string_string : Nat → slices_ContainsFunc_string_string_ins.T → Option (OutsT slices_ContainsFunc_string_string_outs)
  | 0, _ => none
  | n + 1, ((x1, _, _), ((_, _), (_, _), m2, l3, _)) =>
    match slices_IndexFunc_string_string n ((x1, (), ()), (((), ()), ((), ()), m2, l3, ())) with
    | some ((x4, _), ((_, _), (_, _), m5, l6, _)) => (
      some ((decide (x4 ≥ 0), ()), (((), ()), ((), ()), m5, l6, ())))
    | none => none
def slices_ContainsFunc_string_string_H (n : Nat) : Hints := ⟨[], fun _ => [], fun _ => none, fun _ => none, fun _ => none⟩
def slices_ContainsFunc_string_string_O (n : Nat) : FuncId → List FSpec := asc [(30, ⟨slices_IndexFunc_string_string_ins, slices_IndexFunc_string_string_outs, slices_IndexFunc_string_string n⟩)]
def b21 : Code := bodyOf Tryd.f21
theorem slices_ContainsFunc_string_string_ok {S : Nat → Addr} (ok : CfgOk P CC S) : ∀ n, SpecOk P CC S 21 ⟨slices_ContainsFunc_string_string_ins, slices_ContainsFunc_string_string_outs, slices_ContainsFunc_string_string n⟩ :=
  fn_all ok (O := slices_ContainsFunc_string_string_O) (H := slices_ContainsFunc_string_string_H) (fn := Tryd.f21) (body := b21) (by kernel_rfl) (by kernel_rfl) (by kernel_rfl) (by decide) (by kernel_rfl)
    (fun x => by kernel_rfl) (fun n => by
      rintro ⟨⟨x1, ⟨⟩, ⟨⟩⟩, ⟨⟨⟨⟩, ⟨⟩⟩, ⟨⟨⟩, ⟨⟩⟩, x2, x3, ⟨⟩⟩⟩
      kernel_rfl)
    (fun n => obl_of (by kernel_rfl) (by kernel_rfl) (lz) (cn (cn (cz) (by kernel_rfl)) (by kernel_rfl)) (hn fun _ => rfl))
    (fun n ih => asc_cons (slices_IndexFunc_string_string_ok ok n) <| asc_nil)
/-! ### pendulum/sched.Order$1 -/
abbrev sched_Order_1_ins : Sh := ⟨[(.agg [(.val ty1), (.val (.int .i64)), (.val .str), (.val (.int .i64)), (.val ty6), (.val ty10), (.val .str), (.val .str), (.val .str)]), (.one (.ptr 0 0)), (.one (.ptr 1 0))], [(.obj 54 [(.map 2)]), (.obj 57 [(.arr 3)]), (.map .str (.int .i64) false), (.arr 4 .bool)]⟩
abbrev sched_Order_1_outs : List Sh := [⟨[(.one (.val .bool))], [(.obj 54 [(.map 2)]), (.obj 57 [(.arr 3)]), (.map .str (.int .i64) false), (.arr 4 .bool)]⟩]
def sched_Order_1 : Nat → sched_Order_1_ins.T → Option (OutsT sched_Order_1_outs)
  | 0, _ => none
  | n + 1, (((x1, x2, x3, x4, x5, x6, x7, x8, x9, _), _, _, _), ((_, _), (_, _), m10, l11, _)) =>
    match sched_Needs n (((x1, x2, x3, x4, x5, x6, x7, x8, x9, ()), ()), ()) with
    | some ((_, _), (l12, _)) => (
      match slices_ContainsFunc_string_string n ((l12, (), ()), (((), ()), ((), ()), m10, l11, ())) with
      | some ((x13, _), ((_, _), (_, _), m14, l15, _)) => (
        some ((!x13, ()), (((), ()), ((), ()), m14, l15, ())))
      | none => none)
    | none => none
def sched_Order_1_H (n : Nat) : Hints := ⟨[], fun _ => [], fun _ => none, fun _ => none, fun _ => none⟩
def sched_Order_1_O (n : Nat) : FuncId → List FSpec := asc [(11, ⟨sched_Needs_ins, sched_Needs_outs, sched_Needs n⟩), (21, ⟨slices_ContainsFunc_string_string_ins, slices_ContainsFunc_string_string_outs, slices_ContainsFunc_string_string n⟩)]
def b20 : Code := bodyOf Tryd.f20
theorem sched_Order_1_ok {S : Nat → Addr} (ok : CfgOk P CC S) : ∀ n, SpecOk P CC S 20 ⟨sched_Order_1_ins, sched_Order_1_outs, sched_Order_1 n⟩ :=
  fn_all ok (O := sched_Order_1_O) (H := sched_Order_1_H) (fn := Tryd.f20) (body := b20) (by kernel_rfl) (by kernel_rfl) (by kernel_rfl) (by decide) (by kernel_rfl)
    (fun x => by kernel_rfl) (fun n => by
      rintro ⟨⟨⟨x1, x2, x3, x4, x5, x6, x7, x8, x9, ⟨⟩⟩, ⟨⟩, ⟨⟩, ⟨⟩⟩, ⟨⟨⟨⟩, ⟨⟩⟩, ⟨⟨⟩, ⟨⟩⟩, x10, x11, ⟨⟩⟩⟩
      kernel_rfl)
    (fun n => obl_of (by kernel_rfl) (by kernel_rfl) (lz) (cn (cn (cz) (by kernel_rfl)) (by kernel_rfl)) (hn fun _ => rfl))
    (fun n ih => asc_cons (sched_Needs_ok ok n) <| asc_cons (slices_ContainsFunc_string_string_ok ok n) <| asc_nil)
/-! ### slices.Index[[]bool,bool] -/
abbrev slices_Index_bool_bool_ins : Sh := ⟨[(.one (.val ty15)), (.one (.val .bool))], []⟩
abbrev slices_Index_bool_bool_outs : List Sh := [⟨[(.one (.val (.int .i64)))], []⟩]
abbrev slices_Index_bool_bool_l2_h : Sh := ⟨[(.one (.val ty15)), (.one (.val .bool)), (.one (.val (.int .i64))), (.one (.val (.int .i64)))], []⟩
abbrev slices_Index_bool_bool_l2_o : List Out := [⟨(.exit 0), [], ⟨[], []⟩⟩, ⟨.ret, [4], ⟨[(.one (.val (.int .i64)))], []⟩⟩]
def slices_Index_bool_bool_l2 (n : Nat) : Nat → slices_Index_bool_bool_l2_h.T → Option (OutT slices_Index_bool_bool_l2_o)
  | 0, _ => none
  | k + 1, ((x1, x2, x3, x4, _), _) =>
    if decide (x4 < x3) then
      if 0 ≤ x4 ∧ x4 < (x1.length : Int) then (
        if x2 == (rdT (.bool : Ty) x1 x4) then
          some (.inr (.inl ((x4, ()), ())))
        else
          let v5 : Int := IntKind.i64.wrap (x4 + 1)
          slices_Index_bool_bool_l2 n k ((x1, x2, x3, v5, ()), ())) else none
    else
      some (.inl ((), ()))
def slices_Index_bool_bool : Nat → slices_Index_bool_bool_ins.T → Option (OutsT slices_Index_bool_bool_outs)
  | 0, _ => none
  | n + 1, ((x1, x2, _), _) =>
    match slices_Index_bool_bool_l2 n n ((x1, x2, (x1.length : Int), 0, ()), ()) with
    | some (.inl (_, _)) => (
      some (((-1), ()), ()))
    | some (.inr (.inl ((x3, _), _))) => (
      some ((x3, ()), ()))
    | some (.inr (.inr (_))) => none
    | none => none
def slices_Index_bool_bool_H (n : Nat) : Hints := ⟨[], fun _ => [], fun k => match k with | 2 => some ⟨[0, 1, 7, 8], slices_Index_bool_bool_l2_h, slices_Index_bool_bool_l2_o, slices_Index_bool_bool_l2 n⟩ | _ => none, fun _ => none, fun _ => none⟩
def slices_Index_bool_bool_O (n : Nat) : FuncId → List FSpec := asc []
def b23 : Code := bodyOf Tryd.f23
theorem slices_Index_bool_bool_l2_k0 (n : Nat) : LoopOk P CC (slices_Index_bool_bool_O n) n 0 19 (slices_Index_bool_bool_H n) ⟨[0, 1, 7, 8], slices_Index_bool_bool_l2_h, slices_Index_bool_bool_l2_o, slices_Index_bool_bool_l2 n⟩ ((loopsOf b23).getD 0 .skip) := by
  refine ⟨fun _ => by kernel_rfl, ?_⟩
  rintro k ⟨⟨x1, x2, x3, x4, ⟨⟩⟩, ⟨⟩⟩
  kernel_rfl
theorem slices_Index_bool_bool_ok {S : Nat → Addr} (ok : CfgOk P CC S) : ∀ n, SpecOk P CC S 23 ⟨slices_Index_bool_bool_ins, slices_Index_bool_bool_outs, slices_Index_bool_bool n⟩ :=
  fn_all ok (O := slices_Index_bool_bool_O) (H := slices_Index_bool_bool_H) (fn := Tryd.f23) (body := b23) (by kernel_rfl) (by kernel_rfl) (by kernel_rfl) (by decide) (by kernel_rfl)
    (fun x => by kernel_rfl) (fun n => by
      rintro ⟨⟨x1, x2, ⟨⟩⟩, ⟨⟩⟩
      kernel_rfl)
    (fun n => obl_of (by kernel_rfl) (by kernel_rfl) (ls (lz) (by kernel_rfl) (slices_Index_bool_bool_l2_k0 n)) (cn (cn (cn (cn (cn (cn (cn (cn (cn (cn (cz) (by kernel_rfl)) (by kernel_rfl)) (by kernel_rfl)) (by kernel_rfl)) (by kernel_rfl)) (by kernel_rfl)) (by kernel_rfl)) (by kernel_rfl)) (by kernel_rfl)) (by kernel_rfl)) (hn fun _ => rfl))
    (fun n ih => asc_nil)
/-! ### pendulum/sched.Order -/
abbrev sched_Order_ins : Sh := ⟨[(.one (.arr 0))], [(.arr 38 ty0)]⟩
abbrev sched_Order_outs : List Sh := [⟨[(.tup [(false, [(.arr 1)]), (false, [(.val .err)])])], [(.arr 38 ty0), (.arr 3 (.int .i64))]⟩]
abbrev sched_Order_l10_h : Sh := ⟨[(.one (.arr 0)), (.one (.ptr 1 0)), (.one (.fn 20 [2, 1])), (.one (.arr 3)), (.one (.val (.int .i64))), (.one (.arr 0)), (.one (.val (.int .i64))), (.one (.val (.int .i64)))], [(.arr 38 ty0), (.obj 57 [(.arr 4)]), (.obj 54 [(.map 5)]), (.arr 3 (.int .i64)), (.arr 4 .bool), (.map .str (.int .i64) false)]⟩
abbrev sched_Order_l10_o : List Out := [⟨(.exit 2), [0, 6, 7, 8, 9], ⟨[(.one (.arr 0)), (.one (.ptr 1 0)), (.one (.fn 20 [2, 1])), (.one (.arr 3)), (.one (.val (.int .i64)))], [(.arr 38 ty0), (.obj 57 [(.arr 4)]), (.obj 54 [(.map 5)]), (.arr 3 (.int .i64)), (.arr 4 .bool), (.map .str (.int .i64) false)]⟩⟩]
def sched_Order_l10 (n : Nat) : Nat → sched_Order_l10_h.T → Option (OutT sched_Order_l10_o)
  | 0, _ => none
  | k + 1, ((_, _, _, _, x1, _, x2, x3, _), (l4, (_, _), (_, _), l5, l6, m7, _)) =>
    if decide (x3 < x2) then
      if 0 ≤ x3 ∧ x3 < (l4.length : Int) then (
        if 0 ≤ x3 ∧ x3 < (l6.length : Int) then (
          if !(rdT (.bool : Ty) l6 x3) then
            match sched_Order_1 n ((((rdT ty0 l4 x3).1, ((rdT ty0 l4 x3).2).1, (((rdT ty0 l4 x3).2).2).1, ((((rdT ty0 l4 x3).2).2).2).1, (((((rdT ty0 l4 x3).2).2).2).2).1, ((((((rdT ty0 l4 x3).2).2).2).2).2).1, (((((((rdT ty0 l4 x3).2).2).2).2).2).2).1, ((((((((rdT ty0 l4 x3).2).2).2).2).2).2).2).1, ((((((((rdT ty0 l4 x3).2).2).2).2).2).2).2).2, ()), (), (), ()), (((), ()), ((), ()), m7, l6, ())) with
            | some ((x8, _), ((_, _), (_, _), m9, l10, _)) => (
              if x8 then
                some (.inl (((), (), (), (), x3, ()), (l4, ((), ()), ((), ()), l5, l10, m9, ())))
              else
                let v11 : Int := IntKind.i64.wrap (x3 + 1)
                sched_Order_l10 n k (((), (), (), (), x1, (), x2, v11, ()), (l4, ((), ()), ((), ()), l5, l10, m9, ())))
            | none => none
          else
            let v12 : Int := IntKind.i64.wrap (x3 + 1)
            sched_Order_l10 n k (((), (), (), (), x1, (), x2, v12, ()), (l4, ((), ()), ((), ()), l5, l6, m7, ()))) else none) else none
    else
      some (.inl (((), (), (), (), x1, ()), (l4, ((), ()), ((), ()), l5, l6, m7, ())))
abbrev sched_Order_l7_h : Sh := ⟨[(.one (.arr 0)), (.one (.ptr 1 0)), (.one (.fn 20 [2, 1])), (.one (.arr 3))], [(.arr 38 ty0), (.obj 57 [(.arr 4)]), (.obj 54 [(.map 5)]), (.arr 3 (.int .i64)), (.arr 4 .bool), (.map .str (.int .i64) false)]⟩
abbrev sched_Order_l7_o : List Out := [⟨(.exit 0), [8], ⟨[(.one (.arr 1))], [(.arr 38 ty0), (.arr 3 (.int .i64))]⟩⟩, ⟨.ret, [2, 3], ⟨[(.one (.emp true)), (.one (.val .err))], [(.arr 38 ty0)]⟩⟩]
def sched_Order_l7 (n : Nat) : Nat → sched_Order_l7_h.T → Option (OutT sched_Order_l7_o)
  | 0, _ => none
  | k + 1, ((_, _, _, _, _), (l1, (_, _), (_, _), l2, l3, m4, _)) =>
    if decide ((l2.length : Int) < (l1.length : Int)) then
      match sched_Order_l10 n n (((), (), (), (), (-1), (), (l1.length : Int), 0, ()), (l1, ((), ()), ((), ()), l2, l3, m4, ())) with
      | some (.inl ((_, _, _, _, x5, _), (l6, (_, _), (_, _), l7, l8, m9, _))) => (
        if decide (x5 < 0) then
          match slices_Index_bool_bool n ((l8, false, ()), ()) with
          | some ((x10, _), _) => (
            some (.inr (.inl (((), ErrV.at_ x10 (ErrV.sent 113), ()), (l6, ())))))
          | none => none
        else
          if 0 ≤ x5 ∧ x5 < (l8.length : Int) then (
            if (l7.length + ([x5] : List ((.int .i64) : Ty).T).length) * 8 ≤ 140737488355328 then (
              sched_Order_l7 n k (((), (), (), (), ()), (l6, ((), ()), ((), ()), l7 ++ [x5], List.set l8 (x5 : Int).toNat true, m9, ()))) else none) else none)
      | some (.inr (_)) => none
      | none => none
    else
      some (.inl (((), ()), (l1, l2, ())))
def sched_Order : Nat → sched_Order_ins.T → Option (OutsT sched_Order_outs)
  | 0, _ => none
  | n + 1, ((_, _), (l1, _)) =>
    match sched_givers n (((), ()), (l1, ())) with
    | some (.inl ((((_, _), (x2, _), _), _), (l3, m4, _))) => (
      if !(errNil x2) then
        some (((((), ()), (x2, ()), ()), ()), (l3, [], ()))
      else
        if 0 ≤ (l3.length : Int) ∧ (l3.length : Int) ≤ (l3.length : Int) ∧ (l3.length : Int) * ((1 : Nat) : Int) ≤ 140737488355328 ∧ (l3.length : Int) ≤ 140737488355328 then (
          match sched_Order_l7 n n (((), (), (), (), ()), (l3, ((), ()), ((), ()), [], List.replicate ((l3.length : Int) : Int).toNat false, m4, ())) with
          | some (.inl ((_, _), (l7, l8, _))) => (
            some (((((), ()), (ErrV.nil, ()), ()), ()), (l7, l8, ())))
          | some (.inr (.inl ((_, x9, _), (l10, _)))) => (
            some (((((), ()), (x9, ()), ()), ()), (l10, [], ())))
          | some (.inr (.inr (_))) => none
          | none => none) else none)
    | some (.inr (((((_, _), (x5, _), _), _), (l6, _)))) => (
      if !(errNil x5) then
        some (((((), ()), (x5, ()), ()), ()), (l6, [], ()))
      else
        if 0 ≤ (l6.length : Int) ∧ (l6.length : Int) ≤ (l6.length : Int) ∧ (l6.length : Int) * ((1 : Nat) : Int) ≤ 140737488355328 ∧ (l6.length : Int) ≤ 140737488355328 then
          none
        else
          none)
    | none => none
def sched_Order_H (n : Nat) : Hints := ⟨[], fun _ => [], fun k => match k with | 10 => some ⟨[0, 6, 7, 8, 9, 29, 30, 31], sched_Order_l10_h, sched_Order_l10_o, sched_Order_l10 n⟩ | 7 => some ⟨[0, 6, 7, 8], sched_Order_l7_h, sched_Order_l7_o, sched_Order_l7 n⟩ | _ => none, fun _ => none, fun _ => none⟩
def sched_Order_O (n : Nat) : FuncId → List FSpec := asc [(19, ⟨sched_givers_ins, sched_givers_outs, sched_givers n⟩), (20, ⟨sched_Order_1_ins, sched_Order_1_outs, sched_Order_1 n⟩), (23, ⟨slices_Index_bool_bool_ins, slices_Index_bool_bool_outs, slices_Index_bool_bool n⟩)]
def b7 : Code := bodyOf Tryd.f7
theorem sched_Order_l7_k0 (n : Nat) : LoopOk P CC (sched_Order_O n) n 1 64 (sched_Order_H n) ⟨[0, 6, 7, 8], sched_Order_l7_h, sched_Order_l7_o, sched_Order_l7 n⟩ ((loopsOf b7).getD 0 .skip) := by
  refine ⟨fun _ => by kernel_rfl, ?_⟩
  rintro k ⟨⟨⟨⟩, ⟨⟩, ⟨⟩, ⟨⟩, ⟨⟩⟩, ⟨x1, ⟨⟨⟩, ⟨⟩⟩, ⟨⟨⟩, ⟨⟩⟩, x2, x3, x4, ⟨⟩⟩⟩
  kernel_rfl
theorem sched_Order_l10_k1 (n : Nat) : LoopOk P CC (sched_Order_O n) n 1 64 (sched_Order_H n) ⟨[0, 6, 7, 8, 9, 29, 30, 31], sched_Order_l10_h, sched_Order_l10_o, sched_Order_l10 n⟩ ((loopsOf b7).getD 1 .skip) := by
  refine ⟨fun _ => by kernel_rfl, ?_⟩
  rintro k ⟨⟨⟨⟩, ⟨⟩, ⟨⟩, ⟨⟩, x1, ⟨⟩, x2, x3, ⟨⟩⟩, ⟨x4, ⟨⟨⟩, ⟨⟩⟩, ⟨⟨⟩, ⟨⟩⟩, x5, x6, x7, ⟨⟩⟩⟩
  kernel_rfl
theorem sched_Order_ok {S : Nat → Addr} (ok : CfgOk P CC S) : ∀ n, SpecOk P CC S 7 ⟨sched_Order_ins, sched_Order_outs, sched_Order n⟩ :=
  fn_all ok (O := sched_Order_O) (H := sched_Order_H) (fn := Tryd.f7) (body := b7) (by kernel_rfl) (by kernel_rfl) (by kernel_rfl) (by decide) (by kernel_rfl)
    (fun x => by kernel_rfl) (fun n => by
      rintro ⟨⟨⟨⟩, ⟨⟩⟩, ⟨x1, ⟨⟩⟩⟩
      kernel_rfl)
    (fun n => obl_of (by kernel_rfl) (by kernel_rfl) (ls (ls (lz) (by kernel_rfl) (sched_Order_l7_k0 n)) (by kernel_rfl) (sched_Order_l10_k1 n)) (cn (cn (cn (cn (cn (cn (cn (cn (cn (cn (cn (cn (cn (cn (cn (cn (cn (cn (cn (cn (cn (cn (cn (cn (cn (cz) (by kernel_rfl)) (by kernel_rfl)) (by kernel_rfl)) (by kernel_rfl)) (by kernel_rfl)) (by kernel_rfl)) (by kernel_rfl)) (by kernel_rfl)) (by kernel_rfl)) (by kernel_rfl)) (by kernel_rfl)) (by kernel_rfl)) (by kernel_rfl)) (by kernel_rfl)) (by kernel_rfl)) (by kernel_rfl)) (by kernel_rfl)) (by kernel_rfl)) (by kernel_rfl)) (by kernel_rfl)) (by kernel_rfl)) (by kernel_rfl)) (by kernel_rfl)) (by kernel_rfl)) (by kernel_rfl)) (hn fun _ => rfl))
    (fun n ih => asc_cons (sched_givers_ok ok n) <| asc_cons (sched_Order_1_ok ok n) <| asc_cons (slices_Index_bool_bool_ok ok n) <| asc_nil)
/-! ### pendulum/pendulumref.SameTexts -/
abbrev ref_SameTexts_ins : Sh := ⟨[(.one (.val ty14)), (.one (.val ty14))], []⟩
abbrev ref_SameTexts_outs : List Sh := [⟨[(.one (.val .bool))], []⟩]
abbrev ref_SameTexts_l4_h : Sh := ⟨[(.one (.val ty14)), (.one (.val ty14)), (.one (.val (.int .i64)))], []⟩
abbrev ref_SameTexts_l4_o : List Out := [⟨(.exit 0), [], ⟨[], []⟩⟩, ⟨.ret, [4], ⟨[(.one (.val .bool))], []⟩⟩]
def ref_SameTexts_l4 (n : Nat) : Nat → ref_SameTexts_l4_h.T → Option (OutT ref_SameTexts_l4_o)
  | 0, _ => none
  | k + 1, ((x1, x2, x3, _), _) =>
    if decide (x3 < (x1.length : Int)) then
      if 0 ≤ x3 ∧ x3 < (x1.length : Int) then (
        if 0 ≤ x3 ∧ x3 < (x2.length : Int) then (
          if !(strEq (rdT (.str : Ty) x1 x3) (rdT (.str : Ty) x2 x3)) then
            some (.inr (.inl ((false, ()), ())))
          else
            let v4 : Int := IntKind.i64.wrap (x3 + 1)
            ref_SameTexts_l4 n k ((x1, x2, v4, ()), ())) else none) else none
    else
      some (.inl ((), ()))
def ref_SameTexts : Nat → ref_SameTexts_ins.T → Option (OutsT ref_SameTexts_outs)
  | 0, _ => none
  | n + 1, ((x1, x2, _), _) =>
    if (x1.length : Int) != (x2.length : Int) then
      some ((false, ()), ())
    else
      match ref_SameTexts_l4 n n ((x1, x2, 0, ()), ()) with
      | some (.inl (_, _)) => (
        some ((true, ()), ()))
      | some (.inr (.inl ((x3, _), _))) => (
        some ((x3, ()), ()))
      | some (.inr (.inr (_))) => none
      | none => none
def ref_SameTexts_H (n : Nat) : Hints := ⟨[], fun _ => [], fun k => match k with | 4 => some ⟨[0, 1, 5], ref_SameTexts_l4_h, ref_SameTexts_l4_o, ref_SameTexts_l4 n⟩ | _ => none, fun _ => none, fun _ => none⟩
def ref_SameTexts_O (n : Nat) : FuncId → List FSpec := asc []
def b17 : Code := bodyOf Tryd.f17
theorem ref_SameTexts_l4_k0 (n : Nat) : LoopOk P CC (ref_SameTexts_O n) n 0 29 (ref_SameTexts_H n) ⟨[0, 1, 5], ref_SameTexts_l4_h, ref_SameTexts_l4_o, ref_SameTexts_l4 n⟩ ((loopsOf b17).getD 0 .skip) := by
  refine ⟨fun _ => by kernel_rfl, ?_⟩
  rintro k ⟨⟨x1, x2, x3, ⟨⟩⟩, ⟨⟩⟩
  kernel_rfl
theorem ref_SameTexts_ok {S : Nat → Addr} (ok : CfgOk P CC S) : ∀ n, SpecOk P CC S 17 ⟨ref_SameTexts_ins, ref_SameTexts_outs, ref_SameTexts n⟩ :=
  fn_all ok (O := ref_SameTexts_O) (H := ref_SameTexts_H) (fn := Tryd.f17) (body := b17) (by kernel_rfl) (by kernel_rfl) (by kernel_rfl) (by decide) (by kernel_rfl)
    (fun x => by kernel_rfl) (fun n => by
      rintro ⟨⟨x1, x2, ⟨⟩⟩, ⟨⟩⟩
      kernel_rfl)
    (fun n => obl_of (by kernel_rfl) (by kernel_rfl) (ls (lz) (by kernel_rfl) (ref_SameTexts_l4_k0 n)) (cn (cn (cn (cn (cn (cn (cn (cn (cn (cn (cn (cn (cn (cz) (by kernel_rfl)) (by kernel_rfl)) (by kernel_rfl)) (by kernel_rfl)) (by kernel_rfl)) (by kernel_rfl)) (by kernel_rfl)) (by kernel_rfl)) (by kernel_rfl)) (by kernel_rfl)) (by kernel_rfl)) (by kernel_rfl)) (by kernel_rfl)) (hn fun _ => rfl))
    (fun n ih => asc_nil)
/-! ### pendulum/pendulumlaw18.first -/
abbrev law18_first_ins : Sh := ⟨[], []⟩
abbrev law18_first_outs : List Sh := [⟨[(.one (.val .bool))], []⟩]
def law18_first : Nat → law18_first_ins.T → Option (OutsT law18_first_outs)
  | 0, _ => none
  | n + 1, (_, _) =>
    match sched_Order n (((), ()), ([], ())) with
    | some ((((_, _), (x1, _), _), _), (l2, l3, _)) => (
      if (l3.length : Int) == 0 then
        if errNil x1 then
          match sched_Needs n ((((true, [(⟨#[120]⟩ : ByteArray)]), 21, (⟨#[]⟩ : ByteArray), 0, [((⟨#[97]⟩ : ByteArray), (0, 0)), ((⟨#[98]⟩ : ByteArray), (0, 0))], [], (⟨#[]⟩ : ByteArray), (⟨#[]⟩ : ByteArray), (⟨#[]⟩ : ByteArray), ()), ()), ()) with
          | some ((_, _), (l4, _)) => (
            match ref_SameTexts n ((l4, [(⟨#[97]⟩ : ByteArray)], ()), ()) with
            | some ((x5, _), _) => (
              some ((x5, ()), ()))
            | none => none)
          | none => none
        else
          some ((false, ()), ())
      else
        some ((false, ()), ()))
    | none => none
def law18_first_H (n : Nat) : Hints := ⟨[8], fun _ => [], fun _ => none, fun _ => none, fun _ => none⟩
def law18_first_O (n : Nat) : FuncId → List FSpec := asc [(7, ⟨sched_Order_ins, sched_Order_outs, sched_Order n⟩), (11, ⟨sched_Needs_ins, sched_Needs_outs, sched_Needs n⟩), (17, ⟨ref_SameTexts_ins, ref_SameTexts_outs, ref_SameTexts n⟩)]
def b5 : Code := bodyOf Tryd.f5
theorem law18_first_ok {S : Nat → Addr} (ok : CfgOk P CC S) : ∀ n, SpecOk P CC S 5 ⟨law18_first_ins, law18_first_outs, law18_first n⟩ :=
  fn_all ok (O := law18_first_O) (H := law18_first_H) (fn := Tryd.f5) (body := b5) (by kernel_rfl) (by kernel_rfl) (by kernel_rfl) (by decide) (by kernel_rfl)
    (fun x => by kernel_rfl) (fun n => by
      rintro ⟨⟨⟩, ⟨⟩⟩
      kernel_rfl)
    (fun n => obl_of (by kernel_rfl) (by kernel_rfl) (lz) (cn (cn (cn (cn (cz) (by kernel_rfl)) (by kernel_rfl)) (by kernel_rfl)) (by kernel_rfl)) (hn fun _ => rfl))
    (fun n ih => asc_cons (sched_Order_ok ok n) <| asc_cons (sched_Needs_ok ok n) <| asc_cons (ref_SameTexts_ok ok n) <| asc_nil)
/-! ### pendulum/pendulumworld.Number -/
abbrev world_Number_ins : Sh := ⟨[(.one (.val (.int .i64))), (.one (.val (.int .i64)))], []⟩
abbrev world_Number_outs : List Sh := [⟨[(.one (.val (.int .i64)))], []⟩]
def world_Number : Nat → world_Number_ins.T → Option (OutsT world_Number_outs)
  | 0, _ => none
  | n + 1, ((x1, x2, _), _) =>
    if x2 = 0 then
      none
    else
      if decide (Int.tmod x1 x2 < 0) then
        let v3 : Int := IntKind.i64.wrap ((Int.tmod x1 x2) + x2)
        some ((v3, ()), ())
      else
        some ((Int.tmod x1 x2, ()), ())
def world_Number_H (n : Nat) : Hints := ⟨[], fun _ => [], fun _ => none, fun _ => none, fun _ => none⟩
def world_Number_O (n : Nat) : FuncId → List FSpec := asc []
def b9 : Code := bodyOf Tryd.f9
theorem world_Number_ok {S : Nat → Addr} (ok : CfgOk P CC S) : ∀ n, SpecOk P CC S 9 ⟨world_Number_ins, world_Number_outs, world_Number n⟩ :=
  fn_all ok (O := world_Number_O) (H := world_Number_H) (fn := Tryd.f9) (body := b9) (by kernel_rfl) (by kernel_rfl) (by kernel_rfl) (by decide) (by kernel_rfl)
    (fun x => by kernel_rfl) (fun n => by
      rintro ⟨⟨x1, x2, ⟨⟩⟩, ⟨⟩⟩
      kernel_rfl)
    (fun n => obl_of (by kernel_rfl) (by kernel_rfl) (lz) (cn (cn (cn (cn (cn (cz) (by kernel_rfl)) (by kernel_rfl)) (by kernel_rfl)) (by kernel_rfl)) (by kernel_rfl)) (hn fun _ => rfl))
    (fun n ih => asc_nil)
/-! ### strconv.Itoa (by hand) -/
abbrev strconv_Itoa_ins : Sh := ⟨[(.one (.val (.int .i64)))], []⟩
abbrev strconv_Itoa_outs : List Sh := [⟨[(.one (.val .str))], []⟩]
def strconv_Itoa : Nat → strconv_Itoa_ins.T → Option (OutsT strconv_Itoa_outs) := fun _ => itoaSem
theorem strconv_Itoa_ok {S : Nat → Addr} (ok : CfgOk P CC S) : ∀ n, SpecOk P CC S 27 ⟨strconv_Itoa_ins, strconv_Itoa_outs, strconv_Itoa n⟩ := fun n => itoa_spec ⟨Tryd.f27, by kernel_rfl, by kernel_rfl, by kernel_rfl⟩ (.head _) (by kernel_rfl) Tryd.strconv_Itoa
/-! ### pendulum/pendulumworld.Num -/
abbrev world_Num_ins : Sh := ⟨[(.one (.val (.int .i64)))], []⟩
abbrev world_Num_outs : List Sh := [⟨[(.one (.val .str))], []⟩]
def world_Num : Nat → world_Num_ins.T → Option (OutsT world_Num_outs)
  | 0, _ => none
  | n + 1, ((x1, _), _) =>
    match strconv_Itoa n ((x1, ()), ()) with
    | some ((x2, _), _) => (
      some ((x2, ()), ()))
    | none => none
def world_Num_H (n : Nat) : Hints := ⟨[], fun _ => [], fun _ => none, fun _ => none, fun _ => none⟩
def world_Num_O (n : Nat) : FuncId → List FSpec := asc [(27, ⟨strconv_Itoa_ins, strconv_Itoa_outs, strconv_Itoa n⟩)]
def b13 : Code := bodyOf Tryd.f13
theorem world_Num_ok {S : Nat → Addr} (ok : CfgOk P CC S) : ∀ n, SpecOk P CC S 13 ⟨world_Num_ins, world_Num_outs, world_Num n⟩ :=
  fn_all ok (O := world_Num_O) (H := world_Num_H) (fn := Tryd.f13) (body := b13) (by kernel_rfl) (by kernel_rfl) (by kernel_rfl) (by decide) (by kernel_rfl)
    (fun x => by kernel_rfl) (fun n => by
      rintro ⟨⟨x1, ⟨⟩⟩, ⟨⟩⟩
      kernel_rfl)
    (fun n => obl_of (by kernel_rfl) (by kernel_rfl) (lz) (cn (cn (cz) (by kernel_rfl)) (by kernel_rfl)) (hn fun _ => rfl))
    (fun n ih => asc_cons (strconv_Itoa_ok ok n) <| asc_nil)
/-! ### pendulum/pendulumref.None -/
abbrev ref_None_ins : Sh := ⟨[], []⟩
abbrev ref_None_outs : List Sh := [⟨[(.agg [(.val (.int .i64)), (.val .bool), (.val .bool), (.val (.int .i64)), (.val (.int .i64))])], []⟩]
def ref_None : Nat → ref_None_ins.T → Option (OutsT ref_None_outs)
  | 0, _ => none
  | n + 1, (_, _) =>
    some (((0, false, false, 0, 0, ()), ()), ())
def ref_None_H (n : Nat) : Hints := ⟨[], fun _ => [], fun _ => none, fun _ => none, fun _ => none⟩
def ref_None_O (n : Nat) : FuncId → List FSpec := asc []
def b29 : Code := bodyOf Tryd.f29
theorem ref_None_ok {S : Nat → Addr} (ok : CfgOk P CC S) : ∀ n, SpecOk P CC S 29 ⟨ref_None_ins, ref_None_outs, ref_None n⟩ :=
  fn_all ok (O := ref_None_O) (H := ref_None_H) (fn := Tryd.f29) (body := b29) (by kernel_rfl) (by kernel_rfl) (by kernel_rfl) (by decide) (by kernel_rfl)
    (fun x => by kernel_rfl) (fun n => by
      rintro ⟨⟨⟩, ⟨⟩⟩
      kernel_rfl)
    (fun n => obl_of (by kernel_rfl) (by kernel_rfl) (lz) (cn (cn (cz) (by kernel_rfl)) (by kernel_rfl)) (hn fun _ => rfl))
    (fun n ih => asc_nil)
/-! ### pendulum/pendulumsee.sentinels -/
abbrev pendulumsee_sentinels_ins : Sh := ⟨[], []⟩
abbrev pendulumsee_sentinels_outs : List Sh := [⟨[(.one (.arr 0))], [(.arr 27 .err)]⟩]
def pendulumsee_sentinels : Nat → pendulumsee_sentinels_ins.T → Option (OutsT pendulumsee_sentinels_outs)
  | 0, _ => none
  | n + 1, (_, _) =>
    some (((), ()), ([ErrV.sent 101, ErrV.sent 102, ErrV.sent 103, ErrV.sent 104, ErrV.sent 105, ErrV.sent 106, ErrV.sent 107, ErrV.sent 108, ErrV.sent 109, ErrV.sent 110, ErrV.sent 111, ErrV.sent 112, ErrV.sent 113, ErrV.sent 114, ErrV.sent 115, ErrV.sent 116, ErrV.sent 117, ErrV.sent 118, ErrV.sent 119, ErrV.sent 120, ErrV.sent 121], ()))
def pendulumsee_sentinels_H (n : Nat) : Hints := ⟨[], fun _ => [], fun _ => none, fun _ => none, fun _ => none⟩
def pendulumsee_sentinels_O (n : Nat) : FuncId → List FSpec := asc []
def b49 : Code := bodyOf Tryd.f49
theorem pendulumsee_sentinels_ok {S : Nat → Addr} (ok : CfgOk P CC S) : ∀ n, SpecOk P CC S 49 ⟨pendulumsee_sentinels_ins, pendulumsee_sentinels_outs, pendulumsee_sentinels n⟩ :=
  fn_all ok (O := pendulumsee_sentinels_O) (H := pendulumsee_sentinels_H) (fn := Tryd.f49) (body := b49) (by kernel_rfl) (by kernel_rfl) (by kernel_rfl) (by decide) (by kernel_rfl)
    (fun x => by kernel_rfl) (fun n => by
      rintro ⟨⟨⟩, ⟨⟩⟩
      kernel_rfl)
    (fun n => obl_of (by kernel_rfl) (by kernel_rfl) (lz) (cn (cn (cz) (by kernel_rfl)) (by kernel_rfl)) (hn fun _ => rfl))
    (fun n ih => asc_nil)
/-! ### pendulum/pendulumsee.Alike -/
abbrev pendulumsee_Alike_ins : Sh := ⟨[(.one (.val .err)), (.one (.val .err))], []⟩
abbrev pendulumsee_Alike_outs : List Sh := [⟨[(.one (.val .bool))], []⟩]
def pendulumsee_Alike : Nat → pendulumsee_Alike_ins.T → Option (OutsT pendulumsee_Alike_outs)
  | 0, _ => none
  | n + 1, ((x1, x2, _), _) =>
    if errNil x1 then
      if errNil x1 then
        some ((errNil x2, ()), ())
      else
        some ((false, ()), ())
    else
      if errNil x2 then
        if errNil x1 then
          some ((errNil x2, ()), ())
        else
          some ((false, ()), ())
      else
        match errEq x1 x2 with
        | some b3 => (
          some ((b3, ()), ()))
        | none => none
def pendulumsee_Alike_H (n : Nat) : Hints := ⟨[], fun _ => [], fun _ => none, fun _ => none, fun _ => none⟩
def pendulumsee_Alike_O (n : Nat) : FuncId → List FSpec := asc []
def b50 : Code := bodyOf Tryd.f50
theorem pendulumsee_Alike_ok {S : Nat → Addr} (ok : CfgOk P CC S) : ∀ n, SpecOk P CC S 50 ⟨pendulumsee_Alike_ins, pendulumsee_Alike_outs, pendulumsee_Alike n⟩ :=
  fn_all ok (O := pendulumsee_Alike_O) (H := pendulumsee_Alike_H) (fn := Tryd.f50) (body := b50) (by kernel_rfl) (by kernel_rfl) (by kernel_rfl) (by decide) (by kernel_rfl)
    (fun x => by kernel_rfl) (fun n => by
      rintro ⟨⟨x1, x2, ⟨⟩⟩, ⟨⟩⟩
      kernel_rfl)
    (fun n => obl_of (by kernel_rfl) (by kernel_rfl) (lz) (cn (cn (cn (cn (cn (cz) (by kernel_rfl)) (by kernel_rfl)) (by kernel_rfl)) (by kernel_rfl)) (by kernel_rfl)) (hn fun _ => rfl))
    (fun n ih => asc_nil)
/-! ### pendulum/pendulumsee.sentinel -/
abbrev pendulumsee_sentinel_ins : Sh := ⟨[(.one (.val .err))], []⟩
abbrev pendulumsee_sentinel_outs : List Sh := [⟨[(.one (.val (.int .i64)))], []⟩]
abbrev pendulumsee_sentinel_l3_h : Sh := ⟨[(.one (.val .err)), (.one (.arr 0)), (.one (.val (.int .i64)))], [(.arr 27 .err)]⟩
abbrev pendulumsee_sentinel_l3_o : List Out := [⟨(.exit 0), [], ⟨[], []⟩⟩, ⟨.ret, [2], ⟨[(.one (.val (.int .i64)))], []⟩⟩]
def pendulumsee_sentinel_l3 (n : Nat) : Nat → pendulumsee_sentinel_l3_h.T → Option (OutT pendulumsee_sentinel_l3_o)
  | 0, _ => none
  | k + 1, ((x1, _, x2, _), (l3, _)) =>
    if decide (x2 < (l3.length : Int)) then
      if 0 ≤ x2 ∧ x2 < (l3.length : Int) then (
        match pendulumsee_Alike n ((x1, rdT (.err : Ty) l3 x2, ()), ()) with
        | some ((x4, _), _) => (
          if x4 then
            let v5 : Int := IntKind.i64.wrap (101 + x2)
            some (.inr (.inl ((v5, ()), ())))
          else
            let v6 : Int := IntKind.i64.wrap (x2 + 1)
            pendulumsee_sentinel_l3 n k ((x1, (), v6, ()), (l3, ())))
        | none => none) else none
    else
      some (.inl ((), ()))
def pendulumsee_sentinel : Nat → pendulumsee_sentinel_ins.T → Option (OutsT pendulumsee_sentinel_outs)
  | 0, _ => none
  | n + 1, ((x1, _), _) =>
    match pendulumsee_sentinels n ((), ()) with
    | some ((_, _), (l2, _)) => (
      match pendulumsee_sentinel_l3 n n ((x1, (), 0, ()), (l2, ())) with
      | some (.inl (_, _)) => (
        some (((-1), ()), ()))
      | some (.inr (.inl ((x3, _), _))) => (
        some ((x3, ()), ()))
      | some (.inr (.inr (_))) => none
      | none => none)
    | none => none
def pendulumsee_sentinel_H (n : Nat) : Hints := ⟨[], fun _ => [], fun k => match k with | 3 => some ⟨[0, 3, 4], pendulumsee_sentinel_l3_h, pendulumsee_sentinel_l3_o, pendulumsee_sentinel_l3 n⟩ | _ => none, fun _ => none, fun _ => none⟩
def pendulumsee_sentinel_O (n : Nat) : FuncId → List FSpec := asc [(49, ⟨pendulumsee_sentinels_ins, pendulumsee_sentinels_outs, pendulumsee_sentinels n⟩), (50, ⟨pendulumsee_Alike_ins, pendulumsee_Alike_outs, pendulumsee_Alike n⟩)]
def b35 : Code := bodyOf Tryd.f35
theorem pendulumsee_sentinel_l3_k0 (n : Nat) : LoopOk P CC (pendulumsee_sentinel_O n) n 0 20 (pendulumsee_sentinel_H n) ⟨[0, 3, 4], pendulumsee_sentinel_l3_h, pendulumsee_sentinel_l3_o, pendulumsee_sentinel_l3 n⟩ ((loopsOf b35).getD 0 .skip) := by
  refine ⟨fun _ => by kernel_rfl, ?_⟩
  rintro k ⟨⟨x1, ⟨⟩, x2, ⟨⟩⟩, ⟨x3, ⟨⟩⟩⟩
  kernel_rfl
theorem pendulumsee_sentinel_ok {S : Nat → Addr} (ok : CfgOk P CC S) : ∀ n, SpecOk P CC S 35 ⟨pendulumsee_sentinel_ins, pendulumsee_sentinel_outs, pendulumsee_sentinel n⟩ :=
  fn_all ok (O := pendulumsee_sentinel_O) (H := pendulumsee_sentinel_H) (fn := Tryd.f35) (body := b35) (by kernel_rfl) (by kernel_rfl) (by kernel_rfl) (by decide) (by kernel_rfl)
    (fun x => by kernel_rfl) (fun n => by
      rintro ⟨⟨x1, ⟨⟩⟩, ⟨⟩⟩
      kernel_rfl)
    (fun n => obl_of (by kernel_rfl) (by kernel_rfl) (ls (lz) (by kernel_rfl) (pendulumsee_sentinel_l3_k0 n)) (cn (cn (cn (cn (cn (cn (cn (cn (cn (cn (cz) (by kernel_rfl)) (by kernel_rfl)) (by kernel_rfl)) (by kernel_rfl)) (by kernel_rfl)) (by kernel_rfl)) (by kernel_rfl)) (by kernel_rfl)) (by kernel_rfl)) (by kernel_rfl)) (hn fun _ => rfl))
    (fun n ih => asc_cons (pendulumsee_sentinels_ok ok n) <| asc_cons (pendulumsee_Alike_ok ok n) <| asc_nil)
/-! ### pendulum/pendulumref.Bare -/
abbrev ref_Bare_ins : Sh := ⟨[(.one (.val (.int .i64)))], []⟩
abbrev ref_Bare_outs : List Sh := [⟨[(.agg [(.val (.int .i64)), (.val .bool), (.val .bool), (.val (.int .i64)), (.val (.int .i64))])], []⟩]
def ref_Bare : Nat → ref_Bare_ins.T → Option (OutsT ref_Bare_outs)
  | 0, _ => none
  | n + 1, ((x1, _), _) =>
    some (((x1, false, false, 0, 0, ()), ()), ())
def ref_Bare_H (n : Nat) : Hints := ⟨[], fun _ => [], fun _ => none, fun _ => none, fun _ => none⟩
def ref_Bare_O (n : Nat) : FuncId → List FSpec := asc []
def b34 : Code := bodyOf Tryd.f34
theorem ref_Bare_ok {S : Nat → Addr} (ok : CfgOk P CC S) : ∀ n, SpecOk P CC S 34 ⟨ref_Bare_ins, ref_Bare_outs, ref_Bare n⟩ :=
  fn_all ok (O := ref_Bare_O) (H := ref_Bare_H) (fn := Tryd.f34) (body := b34) (by kernel_rfl) (by kernel_rfl) (by kernel_rfl) (by decide) (by kernel_rfl)
    (fun x => by kernel_rfl) (fun n => by
      rintro ⟨⟨x1, ⟨⟩⟩, ⟨⟩⟩
      kernel_rfl)
    (fun n => obl_of (by kernel_rfl) (by kernel_rfl) (lz) (cn (cn (cz) (by kernel_rfl)) (by kernel_rfl)) (hn fun _ => rfl))
    (fun n ih => asc_nil)
/-! ### pendulum/pendulumref.Placed -/
abbrev ref_Placed_ins : Sh := ⟨[(.one (.val (.int .i64))), (.one (.val (.int .i64)))], []⟩
abbrev ref_Placed_outs : List Sh := [⟨[(.agg [(.val (.int .i64)), (.val .bool), (.val .bool), (.val (.int .i64)), (.val (.int .i64))])], []⟩]
def ref_Placed : Nat → ref_Placed_ins.T → Option (OutsT ref_Placed_outs)
  | 0, _ => none
  | n + 1, ((x1, x2, _), _) =>
    if x1 == 0 then
      match ref_None n ((), ()) with
      | some (((x3, x4, x5, x6, x7, _), _), _) => (
        some (((x3, x4, x5, x6, x7, ()), ()), ()))
      | none => none
    else
      some (((x1, true, false, x2, 0, ()), ()), ())
def ref_Placed_H (n : Nat) : Hints := ⟨[], fun _ => [], fun _ => none, fun _ => none, fun _ => none⟩
def ref_Placed_O (n : Nat) : FuncId → List FSpec := asc [(29, ⟨ref_None_ins, ref_None_outs, ref_None n⟩)]
def b16 : Code := bodyOf Tryd.f16
theorem ref_Placed_ok {S : Nat → Addr} (ok : CfgOk P CC S) : ∀ n, SpecOk P CC S 16 ⟨ref_Placed_ins, ref_Placed_outs, ref_Placed n⟩ :=
  fn_all ok (O := ref_Placed_O) (H := ref_Placed_H) (fn := Tryd.f16) (body := b16) (by kernel_rfl) (by kernel_rfl) (by kernel_rfl) (by decide) (by kernel_rfl)
    (fun x => by kernel_rfl) (fun n => by
      rintro ⟨⟨x1, x2, ⟨⟩⟩, ⟨⟩⟩
      kernel_rfl)
    (fun n => obl_of (by kernel_rfl) (by kernel_rfl) (lz) (cn (cn (cn (cn (cn (cz) (by kernel_rfl)) (by kernel_rfl)) (by kernel_rfl)) (by kernel_rfl)) (by kernel_rfl)) (hn fun _ => rfl))
    (fun n ih => asc_cons (ref_None_ok ok n) <| asc_nil)
/-! ### pendulum/pendulumref.Around -/
abbrev ref_Around_ins : Sh := ⟨[(.agg [(.val (.int .i64)), (.val .bool), (.val .bool), (.val (.int .i64)), (.val (.int .i64))]), (.one (.val (.int .i64)))], []⟩
abbrev ref_Around_outs : List Sh := [⟨[(.agg [(.val (.int .i64)), (.val .bool), (.val .bool), (.val (.int .i64)), (.val (.int .i64))])], []⟩]
def ref_Around : Nat → ref_Around_ins.T → Option (OutsT ref_Around_outs)
  | 0, _ => none
  | n + 1, (((x1, x2, x3, x4, x5, _), x6, _), _) =>
    if x1 == 0 then
      match ref_None n ((), ()) with
      | some (((x7, x8, x9, x10, x11, _), _), _) => (
        some (((x7, x8, x9, x10, x11, ()), ()), ()))
      | none => none
    else
      if x2 then
        some (((x1, true, true, x6, x4, ()), ()), ())
      else
        some (((x1, true, false, x6, 0, ()), ()), ())
def ref_Around_H (n : Nat) : Hints := ⟨[], fun _ => [], fun _ => none, fun _ => none, fun _ => none⟩
def ref_Around_O (n : Nat) : FuncId → List FSpec := asc [(29, ⟨ref_None_ins, ref_None_outs, ref_None n⟩)]
def b36 : Code := bodyOf Tryd.f36
theorem ref_Around_ok {S : Nat → Addr} (ok : CfgOk P CC S) : ∀ n, SpecOk P CC S 36 ⟨ref_Around_ins, ref_Around_outs, ref_Around n⟩ :=
  fn_all ok (O := ref_Around_O) (H := ref_Around_H) (fn := Tryd.f36) (body := b36) (by kernel_rfl) (by kernel_rfl) (by kernel_rfl) (by decide) (by kernel_rfl)
    (fun x => by kernel_rfl) (fun n => by
      rintro ⟨⟨⟨x1, x2, x3, x4, x5, ⟨⟩⟩, x6, ⟨⟩⟩, ⟨⟩⟩
      kernel_rfl)
    (fun n => obl_of (by kernel_rfl) (by kernel_rfl) (lz) (cn (cn (cn (cn (cn (cn (cn (cn (cz) (by kernel_rfl)) (by kernel_rfl)) (by kernel_rfl)) (by kernel_rfl)) (by kernel_rfl)) (by kernel_rfl)) (by kernel_rfl)) (by kernel_rfl)) (hn fun _ => rfl))
    (fun n ih => asc_cons (ref_None_ok ok n) <| asc_nil)
/-! ### pendulum/pendulumsee.Fault -/
abbrev pendulumsee_Fault_ins : Sh := ⟨[(.one (.val .err))], []⟩
abbrev pendulumsee_Fault_outs : List Sh := [⟨[(.agg [(.val (.int .i64)), (.val .bool), (.val .bool), (.val (.int .i64)), (.val (.int .i64))])], []⟩]
def pendulumsee_Fault : Nat → pendulumsee_Fault_ins.T → Option (OutsT pendulumsee_Fault_outs)
  | 0, _ => none
  | n + 1, ((x1, _), _) =>
    if errNil x1 then
      match ref_None n ((), ()) with
      | some (((x2, x3, x4, x5, x6, _), _), _) => (
        some (((x2, x3, x4, x5, x6, ()), ()), ()))
      | none => none
    else
      if !(errIsAt x1) then
        match pendulumsee_sentinel n ((x1, ()), ()) with
        | some ((x7, _), _) => (
          match ref_Bare n ((x7, ()), ()) with
          | some (((x8, x9, x10, x11, x12, _), _), _) => (
            some (((x8, x9, x10, x11, x12, ()), ()), ()))
          | none => none)
        | none => none
      else
        if Option.isNone (errAt x1) then
          match ref_Bare n (((-1), ()), ()) with
          | some (((x14, x15, x16, x17, x18, _), _), _) => (
            some (((x14, x15, x16, x17, x18, ()), ()), ()))
          | none => none
        else
          match errAt x1 with
          | some x13 => (
            if errNil x13.2 then
              match ref_Bare n (((-1), ()), ()) with
              | some (((x19, x20, x21, x22, x23, _), _), _) => (
                some (((x19, x20, x21, x22, x23, ()), ()), ()))
              | none => none
            else
              match errAt x1 with
              | some x24 => (
                if errIsAt x24.2 then
                  if Option.isNone (errAt x24.2) then
                    match ref_Bare n (((-1), ()), ()) with
                    | some (((x26, x27, x28, x29, x30, _), _), _) => (
                      some (((x26, x27, x28, x29, x30, ()), ()), ()))
                    | none => none
                  else
                    match errAt x24.2 with
                    | some x25 => (
                      if errNil x25.2 then
                        match ref_Bare n (((-1), ()), ()) with
                        | some (((x31, x32, x33, x34, x35, _), _), _) => (
                          some (((x31, x32, x33, x34, x35, ()), ()), ()))
                        | none => none
                      else
                        match errAt x24.2 with
                        | some x36 => (
                          match pendulumsee_sentinel n ((x36.2, ()), ()) with
                          | some ((x37, _), _) => (
                            match errAt x24.2 with
                            | some x38 => (
                              match ref_Placed n ((x37, x38.1, ()), ()) with
                              | some (((x39, x40, x41, x42, x43, _), _), _) => (
                                match errAt x1 with
                                | some x44 => (
                                  match ref_Around n (((x39, x40, x41, x42, x43, ()), x44.1, ()), ()) with
                                  | some (((x45, x46, x47, x48, x49, _), _), _) => (
                                    some (((x45, x46, x47, x48, x49, ()), ()), ()))
                                  | none => none)
                                | none => none)
                              | none => none)
                            | none => none)
                          | none => none)
                        | none => none)
                    | none => none
                else
                  match errAt x1 with
                  | some x50 => (
                    match pendulumsee_sentinel n ((x50.2, ()), ()) with
                    | some ((x51, _), _) => (
                      match errAt x1 with
                      | some x52 => (
                        match ref_Placed n ((x51, x52.1, ()), ()) with
                        | some (((x53, x54, x55, x56, x57, _), _), _) => (
                          some (((x53, x54, x55, x56, x57, ()), ()), ()))
                        | none => none)
                      | none => none)
                    | none => none)
                  | none => none)
              | none => none)
          | none => none
def pendulumsee_Fault_H (n : Nat) : Hints := ⟨[], fun _ => [], fun _ => none, fun _ => none, fun _ => none⟩
def pendulumsee_Fault_O (n : Nat) : FuncId → List FSpec := asc [(16, ⟨ref_Placed_ins, ref_Placed_outs, ref_Placed n⟩), (29, ⟨ref_None_ins, ref_None_outs, ref_None n⟩), (34, ⟨ref_Bare_ins, ref_Bare_outs, ref_Bare n⟩), (35, ⟨pendulumsee_sentinel_ins, pendulumsee_sentinel_outs, pendulumsee_sentinel n⟩), (36, ⟨ref_Around_ins, ref_Around_outs, ref_Around n⟩)]
def b28 : Code := bodyOf Tryd.f28
theorem pendulumsee_Fault_ok {S : Nat → Addr} (ok : CfgOk P CC S) : ∀ n, SpecOk P CC S 28 ⟨pendulumsee_Fault_ins, pendulumsee_Fault_outs, pendulumsee_Fault n⟩ :=
  fn_all ok (O := pendulumsee_Fault_O) (H := pendulumsee_Fault_H) (fn := Tryd.f28) (body := b28) (by kernel_rfl) (by kernel_rfl) (by kernel_rfl) (by decide) (by kernel_rfl)
    (fun x => by kernel_rfl) (fun n => by
      rintro ⟨⟨x1, ⟨⟩⟩, ⟨⟩⟩
      kernel_rfl)
    (fun n => obl_of (by kernel_rfl) (by kernel_rfl) (lz) (cn (cn (cn (cn (cn (cn (cn (cn (cn (cn (cn (cn (cn (cn (cn (cn (cn (cn (cn (cz) (by kernel_rfl)) (by kernel_rfl)) (by kernel_rfl)) (by kernel_rfl)) (by kernel_rfl)) (by kernel_rfl)) (by kernel_rfl)) (by kernel_rfl)) (by kernel_rfl)) (by kernel_rfl)) (by kernel_rfl)) (by kernel_rfl)) (by kernel_rfl)) (by kernel_rfl)) (by kernel_rfl)) (by kernel_rfl)) (by kernel_rfl)) (by kernel_rfl)) (by kernel_rfl)) (hn fun _ => rfl))
    (fun n ih => asc_cons (ref_Placed_ok ok n) <| asc_cons (ref_None_ok ok n) <| asc_cons (ref_Bare_ok ok n) <| asc_cons (pendulumsee_sentinel_ok ok n) <| asc_cons (ref_Around_ok ok n) <| asc_nil)
/-! ### pendulum/pendulumlaw18.told -/
abbrev law18_told_ins : Sh := ⟨[(.one (.val .err))], []⟩
abbrev law18_told_outs : List Sh := [⟨[(.agg [(.val (.int .i64)), (.val .bool), (.val .bool), (.val (.int .i64)), (.val (.int .i64))])], []⟩]
def law18_told : Nat → law18_told_ins.T → Option (OutsT law18_told_outs)
  | 0, _ => none
  | n + 1, ((x1, _), _) =>
    match pendulumsee_Fault n ((x1, ()), ()) with
    | some (((x2, x3, x4, x5, x6, _), _), _) => (
      some (((x2, x3, x4, x5, x6, ()), ()), ()))
    | none => none
def law18_told_H (n : Nat) : Hints := ⟨[], fun _ => [], fun _ => none, fun _ => none, fun _ => none⟩
def law18_told_O (n : Nat) : FuncId → List FSpec := asc [(28, ⟨pendulumsee_Fault_ins, pendulumsee_Fault_outs, pendulumsee_Fault n⟩)]
def b15 : Code := bodyOf Tryd.f15
theorem law18_told_ok {S : Nat → Addr} (ok : CfgOk P CC S) : ∀ n, SpecOk P CC S 15 ⟨law18_told_ins, law18_told_outs, law18_told n⟩ :=
  fn_all ok (O := law18_told_O) (H := law18_told_H) (fn := Tryd.f15) (body := b15) (by kernel_rfl) (by kernel_rfl) (by kernel_rfl) (by decide) (by kernel_rfl)
    (fun x => by kernel_rfl) (fun n => by
      rintro ⟨⟨x1, ⟨⟩⟩, ⟨⟩⟩
      kernel_rfl)
    (fun n => obl_of (by kernel_rfl) (by kernel_rfl) (lz) (cn (cn (cz) (by kernel_rfl)) (by kernel_rfl)) (hn fun _ => rfl))
    (fun n ih => asc_cons (pendulumsee_Fault_ok ok n) <| asc_nil)
/-! ### pendulum/pendulumref.SameFault -/
abbrev ref_SameFault_ins : Sh := ⟨[(.agg [(.val (.int .i64)), (.val .bool), (.val .bool), (.val (.int .i64)), (.val (.int .i64))]), (.agg [(.val (.int .i64)), (.val .bool), (.val .bool), (.val (.int .i64)), (.val (.int .i64))])], []⟩
abbrev ref_SameFault_outs : List Sh := [⟨[(.one (.val .bool))], []⟩]
def ref_SameFault : Nat → ref_SameFault_ins.T → Option (OutsT ref_SameFault_outs)
  | 0, _ => none
  | n + 1, (((x1, x2, x3, x4, x5, _), (x6, x7, x8, x9, x10, _), _), _) =>
    if x1 == x6 then
      if x2 == x7 then
        if x4 == x9 then
          if x3 == x8 then
            some ((x5 == x10, ()), ())
          else
            some ((false, ()), ())
        else
          some ((false, ()), ())
      else
        some ((false, ()), ())
    else
      some ((false, ()), ())
def ref_SameFault_H (n : Nat) : Hints := ⟨[], fun _ => [], fun _ => none, fun _ => none, fun _ => none⟩
def ref_SameFault_O (n : Nat) : FuncId → List FSpec := asc []
def b14 : Code := bodyOf Tryd.f14
theorem ref_SameFault_ok {S : Nat → Addr} (ok : CfgOk P CC S) : ∀ n, SpecOk P CC S 14 ⟨ref_SameFault_ins, ref_SameFault_outs, ref_SameFault n⟩ :=
  fn_all ok (O := ref_SameFault_O) (H := ref_SameFault_H) (fn := Tryd.f14) (body := b14) (by kernel_rfl) (by kernel_rfl) (by kernel_rfl) (by decide) (by kernel_rfl)
    (fun x => by kernel_rfl) (fun n => by
      rintro ⟨⟨⟨x1, x2, x3, x4, x5, ⟨⟩⟩, ⟨x6, x7, x8, x9, x10, ⟨⟩⟩, ⟨⟩⟩, ⟨⟩⟩
      kernel_rfl)
    (fun n => obl_of (by kernel_rfl) (by kernel_rfl) (lz) (cn (cn (cz) (by kernel_rfl)) (by kernel_rfl)) (hn fun _ => rfl))
    (fun n ih => asc_nil)
/-! ### pendulum/pendulumlaw18.SchedTwice -/
abbrev law18_SchedTwice_ins : Sh := ⟨[(.one (.val (.int .i64))), (.one (.val (.int .i64))), (.one (.val (.int .i64)))], []⟩
abbrev law18_SchedTwice_outs : List Sh := [⟨[(.one (.val .bool))], []⟩]
abbrev law18_SchedTwice_l11_h : Sh := ⟨[(.one (.val (.int .i64))), (.one (.val (.int .i64))), (.one (.val (.int .i64))), (.one (.val .bool)), (.one (.arr 0)), (.one (.val (.int .i64)))], [(.arr 38 ty0)]⟩
abbrev law18_SchedTwice_l11_o : List Out := [⟨(.exit 0), [1, 2, 7, 8], ⟨[(.one (.val (.int .i64))), (.one (.val (.int .i64))), (.one (.val .bool)), (.one (.arr 0))], [(.arr 38 ty0)]⟩⟩]
def law18_SchedTwice_l11 (n : Nat) : Nat → law18_SchedTwice_l11_h.T → Option (OutT law18_SchedTwice_l11_o)
  | 0, _ => none
  | k + 1, ((x1, x2, x3, x4, _, x5, _), (l6, _)) =>
    if decide (x5 < x1) then
      match world_Num n ((x5, ()), ()) with
      | some ((x7, _), _) => (
        if (⟨#[120]⟩ : ByteArray).size + x7.size ≤ 9223372036854775807 then (
          match world_Num n ((x5, ()), ()) with
          | some ((x8, _), _) => (
            if (⟨#[121]⟩ : ByteArray).size + x8.size ≤ 9223372036854775807 then (
              if (l6.length + ([((true, [(⟨#[120]⟩ : ByteArray) ++ x7, (⟨#[121]⟩ : ByteArray) ++ x8]), (0, ((⟨#[]⟩ : ByteArray), (0, ([], ([], ((⟨#[]⟩ : ByteArray), ((⟨#[103]⟩ : ByteArray), (⟨#[]⟩ : ByteArray)))))))))] : List ty0.T).length) * 152 ≤ 140737488355328 then (
                let v9 : Int := IntKind.i64.wrap (x5 + 1)
                law18_SchedTwice_l11 n k ((x1, x2, x3, x4, (), v9, ()), (l6 ++ [((true, [(⟨#[120]⟩ : ByteArray) ++ x7, (⟨#[121]⟩ : ByteArray) ++ x8]), (0, ((⟨#[]⟩ : ByteArray), (0, ([], ([], ((⟨#[]⟩ : ByteArray), ((⟨#[103]⟩ : ByteArray), (⟨#[]⟩ : ByteArray)))))))))], ()))) else none) else none)
          | none => none) else none)
      | none => none
    else
      some (.inl ((x2, x3, x4, (), ()), (l6, ())))
def law18_SchedTwice : Nat → law18_SchedTwice_ins.T → Option (OutsT law18_SchedTwice_outs)
  | 0, _ => none
  | n + 1, ((x1, x2, x3, _), _) =>
    match law18_first n ((), ()) with
    | some ((x4, _), _) => (
      if !x4 then
        some ((false, ()), ())
      else
        match world_Number n ((x1, 20, ()), ()) with
        | some ((x5, _), _) => (
          let v6 : Int := IntKind.i64.wrap (x5 + 2)
          match world_Number n ((x2, v6, ()), ()) with
          | some ((x7, _), _) => (
            match world_Number n ((x3, v6, ()), ()) with
            | some ((x8, _), _) => (
              if x7 == x8 then
                some ((x4, ()), ())
              else
                match law18_SchedTwice_l11 n n ((v6, x7, x8, x4, (), 0, ()), ([], ())) with
                | some (.inl ((x9, x10, x11, _, _), (l12, _))) => (
                  if 0 ≤ x10 ∧ x10 < (l12.length : Int) then (
                    match world_Num n ((x9, ()), ()) with
                    | some ((x13, _), _) => (
                      if (⟨#[120]⟩ : ByteArray).size + x13.size ≤ 9223372036854775807 then (
                        if ((((rdT ty0 l12 x10).1).2).length + ([(⟨#[120]⟩ : ByteArray) ++ x13] : List (.str : Ty).T).length) * 16 ≤ 140737488355328 then (
                          if (!(((rdT ty0 l12 x10).1).1) || List.isEmpty [(⟨#[120]⟩ : ByteArray) ++ x13]) = true then
                            none
                          else
                            if 0 ≤ x10 ∧ x10 < (l12.length : Int) then (
                              match sched_Order n (((), ()), (List.set l12 (x10 : Int).toNat ((false, (((rdT ty0 l12 x10).1).2) ++ [(⟨#[120]⟩ : ByteArray) ++ x13]), (((rdT ty0 l12 x10).2).1, ((((rdT ty0 l12 x10).2).2).1, (((((rdT ty0 l12 x10).2).2).2).1, ((((((rdT ty0 l12 x10).2).2).2).2).1, (((((((rdT ty0 l12 x10).2).2).2).2).2).1, ((((((((rdT ty0 l12 x10).2).2).2).2).2).2).1, ((((((((rdT ty0 l12 x10).2).2).2).2).2).2).2)))))))), ())) with
                              | some ((((_, _), (x14, _), _), _), (l15, l16, _)) => (
                                if x11 then
                                  if !(errNil x14) then
                                    if (l16.length : Int) == 0 then
                                      match law18_told n ((x14, ()), ()) with
                                      | some (((x17, x18, x19, x20, x21, _), _), _) => (
                                        match ref_Placed n ((110, mx x9 x10, ()), ()) with
                                        | some (((x22, x23, x24, x25, x26, _), _), _) => (
                                          match ref_SameFault n (((x17, x18, x19, x20, x21, ()), (x22, x23, x24, x25, x26, ()), ()), ()) with
                                          | some ((x27, _), _) => (
                                            some ((x27, ()), ()))
                                          | none => none)
                                        | none => none)
                                      | none => none
                                    else
                                      some ((false, ()), ())
                                  else
                                    some ((false, ()), ())
                                else
                                  some ((false, ()), ()))
                              | none => none) else none) else none) else none)
                    | none => none) else none)
                | some (.inr (_)) => none
                | none => none)
            | none => none)
          | none => none)
        | none => none)
    | none => none
def law18_SchedTwice_H (n : Nat) : Hints := ⟨[41, 51], fun _ => [], fun k => match k with | 11 => some ⟨[0, 1, 2, 7, 8, 9], law18_SchedTwice_l11_h, law18_SchedTwice_l11_o, law18_SchedTwice_l11 n⟩ | _ => none, fun _ => none, fun _ => none⟩
def law18_SchedTwice_O (n : Nat) : FuncId → List FSpec := asc [(5, ⟨law18_first_ins, law18_first_outs, law18_first n⟩), (7, ⟨sched_Order_ins, sched_Order_outs, sched_Order n⟩), (9, ⟨world_Number_ins, world_Number_outs, world_Number n⟩), (13, ⟨world_Num_ins, world_Num_outs, world_Num n⟩), (14, ⟨ref_SameFault_ins, ref_SameFault_outs, ref_SameFault n⟩), (15, ⟨law18_told_ins, law18_told_outs, law18_told n⟩), (16, ⟨ref_Placed_ins, ref_Placed_outs, ref_Placed n⟩)]
def b4 : Code := bodyOf Tryd.f4
theorem law18_SchedTwice_l11_k0 (n : Nat) : LoopOk P CC (law18_SchedTwice_O n) n 0 84 (law18_SchedTwice_H n) ⟨[0, 1, 2, 7, 8, 9], law18_SchedTwice_l11_h, law18_SchedTwice_l11_o, law18_SchedTwice_l11 n⟩ ((loopsOf b4).getD 0 .skip) := by
  refine ⟨fun _ => by kernel_rfl, ?_⟩
  rintro k ⟨⟨x1, x2, x3, x4, ⟨⟩, x5, ⟨⟩⟩, ⟨x6, ⟨⟩⟩⟩
  kernel_rfl
theorem law18_SchedTwice_ok {S : Nat → Addr} (ok : CfgOk P CC S) : ∀ n, SpecOk P CC S 4 ⟨law18_SchedTwice_ins, law18_SchedTwice_outs, law18_SchedTwice n⟩ :=
  fn_all ok (O := law18_SchedTwice_O) (H := law18_SchedTwice_H) (fn := Tryd.f4) (body := b4) (by kernel_rfl) (by kernel_rfl) (by kernel_rfl) (by decide) (by kernel_rfl)
    (fun x => by kernel_rfl) (fun n => by
      rintro ⟨⟨x1, x2, x3, ⟨⟩⟩, ⟨⟩⟩
      kernel_rfl)
    (fun n => obl_of (by kernel_rfl) (by kernel_rfl) (ls (lz) (by kernel_rfl) (law18_SchedTwice_l11_k0 n)) (cn (cn (cn (cn (cn (cn (cn (cn (cn (cn (cn (cn (cn (cn (cn (cn (cn (cn (cn (cn (cn (cz) (by kernel_rfl)) (by kernel_rfl)) (by kernel_rfl)) (by kernel_rfl)) (by kernel_rfl)) (by kernel_rfl)) (by kernel_rfl)) (by kernel_rfl)) (by kernel_rfl)) (by kernel_rfl)) (by kernel_rfl)) (by kernel_rfl)) (by kernel_rfl)) (by kernel_rfl)) (by kernel_rfl)) (by kernel_rfl)) (by kernel_rfl)) (by kernel_rfl)) (by kernel_rfl)) (by kernel_rfl)) (by kernel_rfl)) (hn fun _ => rfl))
    (fun n ih => asc_cons (law18_first_ok ok n) <| asc_cons (sched_Order_ok ok n) <| asc_cons (world_Number_ok ok n) <| asc_cons (world_Num_ok ok n) <| asc_cons (ref_SameFault_ok ok n) <| asc_cons (law18_told_ok ok n) <| asc_cons (ref_Placed_ok ok n) <| asc_nil)
end
end Go.Proofs.YtgdolcaijbkaeaaDoor.Cm

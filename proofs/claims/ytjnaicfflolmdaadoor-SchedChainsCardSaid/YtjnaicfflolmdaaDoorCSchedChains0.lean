/- Printed by cmtext.py: the code as plain functions. -/
import Derived.Test.YtjnaicfflolmdaaDoorCmFo
import Derived.Test.YtjnaicfflolmdaaDoorShelf
import Derived.Test.YtjnaicfflolmdaaDoorCmFs
namespace Go.Proofs.YtjnaicfflolmdaaDoor.Cm
open Go
noncomputable section
set_option linter.unusedVariables false
set_option maxRecDepth 100000
abbrev P := Tryd.prog
abbrev CC : Cfg := ⟨118, 66, 69, [(101, 2), (102, 3), (103, 4), (104, 5), (105, 6), (106, 7), (107, 8), (108, 9), (109, 10), (110, 1), (111, 11), (112, 12), (113, 0), (114, 13), (115, 14), (116, 15), (117, 16), (118, 17), (119, 18), (120, 19), (121, 20)], [(21, tabP (fun z => Value.int .u64 z) Lib.pow10Tab)]⟩
abbrev ty1 : Ty := (.slice 9 .str)
abbrev ty8 : Ty := (.pair (.int .i64) (.int .i64))
abbrev ty7 : Ty := (.pair .str ty8)
abbrev ty6 : Ty := (.slice 43 ty7)
abbrev ty11 : Ty := (.pair .str .bool)
abbrev ty10 : Ty := (.slice 57 ty11)
abbrev ty13 : Ty := (.pair .str .str)
abbrev ty12 : Ty := (.pair .str ty13)
abbrev ty9 : Ty := (.pair ty10 ty12)
abbrev ty5 : Ty := (.pair ty6 ty9)
abbrev ty4 : Ty := (.pair (.int .i64) ty5)
abbrev ty3 : Ty := (.pair .str ty4)
abbrev ty2 : Ty := (.pair (.int .i64) ty3)
abbrev ty0 : Ty := (.pair ty1 ty2)
abbrev ty14 : Ty := (.slice 4 .bool)
/-! ### pendulum/sched.givers -/
abbrev sched_givers_ins : Sh := ⟨[(.one (.arr 0))], [(.arr 38 ty0)]⟩
abbrev sched_givers_outs : List Sh := [⟨[(.tup [(false, [(.map 1)]), (false, [(.val .err)])])], [(.arr 38 ty0), (.map .str (.int .i64) false)]⟩, ⟨[(.tup [(false, [.nilmap]), (false, [(.val .err)])])], [(.arr 38 ty0)]⟩]
abbrev sched_givers_l6_h : Sh := ⟨[(.one (.map 1)), (.one (.val (.int .i64))), (.one (.arr 0)), (.one (.val (.int .i64))), (.one (.val (.int .i64))), (.one (.val ty1)), (.one (.val (.int .i64))), (.one (.val (.int .i64)))], [(.arr 38 ty0), (.map .str (.int .i64) false)]⟩
abbrev sched_givers_l6_o : List Out := [⟨(.exit 2), [4, 12, 13, 14], ⟨[(.one (.map 1)), (.one (.arr 0)), (.one (.val (.int .i64))), (.one (.val (.int .i64)))], [(.arr 38 ty0), (.map .str (.int .i64) false)]⟩⟩, ⟨.ret, [2, 3], ⟨[(.one .nilmap), (.one (.val .err))], [(.arr 38 ty0)]⟩⟩]
def sched_givers_l6 (n : Nat) : Nat → sched_givers_l6_h.T → Option (OutT sched_givers_l6_o)
  | 0, _ => none
  | k + 1, ((_, x1, _, x2, x3, x4, x5, x6, _), (l7, m8, _)) =>
    if decide (x6 < x5) then
      if 0 ≤ x6 ∧ x6 < (x4.length : Int) then (
        let v9 : Int := (mfind (keyEq (.str : Ty)) (rdT (.str : Ty) x4 x6) m8).getD 0
        if (mfind (keyEq (.str : Ty)) (rdT (.str : Ty) x4 x6) m8).isSome then
          if v9 != x1 then
            some (.inr (.inl (((), ErrV.at_ x1 (ErrV.sent 110), ()), (l7, ()))))
          else
            let v10 : Int := IntKind.i64.wrap (x6 + 1)
            sched_givers_l6 n k (((), x1, (), x2, x3, x4, x5, v10, ()), (l7, mset (keyEq (.str : Ty)) (rdT (.str : Ty) x4 x6) x1 m8, ()))
        else
          let v11 : Int := IntKind.i64.wrap (x6 + 1)
          sched_givers_l6 n k (((), x1, (), x2, x3, x4, x5, v11, ()), (l7, mset (keyEq (.str : Ty)) (rdT (.str : Ty) x4 x6) x1 m8, ()))) else none
    else
      some (.inl (((), (), x2, x3, ()), (l7, m8, ())))
abbrev sched_givers_l3_h : Sh := ⟨[(.one (.map 1)), (.one (.arr 0)), (.one (.val (.int .i64))), (.one (.val (.int .i64)))], [(.arr 38 ty0), (.map .str (.int .i64) false)]⟩
abbrev sched_givers_l3_o : List Out := [⟨(.exit 0), [4], ⟨[(.one (.map 1))], [(.arr 38 ty0), (.map .str (.int .i64) false)]⟩⟩, ⟨.ret, [2, 3], ⟨[(.one .nilmap), (.one (.val .err))], [(.arr 38 ty0)]⟩⟩]
def sched_givers_l3 (n : Nat) : Nat → sched_givers_l3_h.T → Option (OutT sched_givers_l3_o)
  | 0, _ => none
  | k + 1, ((_, _, x1, x2, _), (l3, m4, _)) =>
    if decide (x2 < x1) then
      if 0 ≤ x2 ∧ x2 < (l3.length : Int) then (
        match sched_givers_l6 n n (((), x2, (), x1, x2, (rdT ty0 l3 x2).1, (((rdT ty0 l3 x2).1).length : Int), 0, ()), (l3, m4, ())) with
        | some (.inl ((_, _, x5, x6, _), (l7, m8, _))) => (
          let v11 : Int := IntKind.i64.wrap (x6 + 1)
          sched_givers_l3 n k (((), (), x5, v11, ()), (l7, m8, ())))
        | some (.inr (.inl ((_, x9, _), (l10, _)))) => (
          some (.inr (.inl (((), x9, ()), (l10, ())))))
        | some (.inr (.inr (_))) => none
        | none => none) else none
    else
      some (.inl (((), ()), (l3, m4, ())))
def sched_givers : Nat → sched_givers_ins.T → Option (OutsT sched_givers_outs)
  | 0, _ => none
  | n + 1, ((_, _), (l1, _)) =>
    match sched_givers_l3 n n (((), (), (l1.length : Int), 0, ()), (l1, [], ())) with
    | some (.inl ((_, _), (l2, m3, _))) => (
      some (.inl (((((), ()), (ErrV.nil, ()), ()), ()), (l2, m3, ()))))
    | some (.inr (.inl ((_, x4, _), (l5, _)))) => (
      some (.inr ((((((), ()), (x4, ()), ()), ()), (l5, ())))))
    | some (.inr (.inr (_))) => none
    | none => none
def sched_givers_H (n : Nat) : Hints := ⟨[], fun _ => [], fun k => match k with | 6 => some ⟨[4, 5, 12, 13, 14, 20, 21, 22], sched_givers_l6_h, sched_givers_l6_o, sched_givers_l6 n⟩ | 3 => some ⟨[4, 12, 13, 14], sched_givers_l3_h, sched_givers_l3_o, sched_givers_l3 n⟩ | _ => none, fun _ => none⟩
def sched_givers_O (n : Nat) : FuncId → List FSpec := asc []
def b23 : Code := bodyOf Tryd.f23
theorem sched_givers_l3_k0 (n : Nat) : LoopOk P CC (sched_givers_O n) n 1 49 (sched_givers_H n) ⟨[4, 12, 13, 14], sched_givers_l3_h, sched_givers_l3_o, sched_givers_l3 n⟩ ((loopsOf b23).getD 0 .skip) := by
  refine ⟨fun _ => by kernel_rfl, ?_⟩
  rintro k ⟨⟨⟨⟩, ⟨⟩, x1, x2, ⟨⟩⟩, ⟨x3, x4, ⟨⟩⟩⟩
  kernel_rfl
theorem sched_givers_l6_k1 (n : Nat) : LoopOk P CC (sched_givers_O n) n 1 49 (sched_givers_H n) ⟨[4, 5, 12, 13, 14, 20, 21, 22], sched_givers_l6_h, sched_givers_l6_o, sched_givers_l6 n⟩ ((loopsOf b23).getD 1 .skip) := by
  refine ⟨fun _ => by kernel_rfl, ?_⟩
  rintro k ⟨⟨⟨⟩, x1, ⟨⟩, x2, x3, x4, x5, x6, ⟨⟩⟩, ⟨x7, x8, ⟨⟩⟩⟩
  kernel_rfl
theorem sched_givers_ok {S : Nat → Addr} (ok : CfgOk P CC S) : ∀ n, SpecOk P CC S 23 ⟨sched_givers_ins, sched_givers_outs, sched_givers n⟩ :=
  fn_all ok (O := sched_givers_O) (H := sched_givers_H) (fn := Tryd.f23) (body := b23) (by kernel_rfl) (by kernel_rfl) (by kernel_rfl) (by decide) (by kernel_rfl)
    (fun x => by kernel_rfl) (fun n => by
      rintro ⟨⟨⟨⟩, ⟨⟩⟩, ⟨x1, ⟨⟩⟩⟩
      kernel_rfl)
    (fun n => obl_of (by kernel_rfl) (by kernel_rfl) (ls (ls (lz) (by kernel_rfl) (sched_givers_l3_k0 n)) (by kernel_rfl) (sched_givers_l6_k1 n)) (cn (cn (cn (cn (cn (cn (cn (cn (cn (cn (cn (cn (cn (cn (cn (cn (cn (cn (cz) (by kernel_rfl)) (by kernel_rfl)) (by kernel_rfl)) (by kernel_rfl)) (by kernel_rfl)) (by kernel_rfl)) (by kernel_rfl)) (by kernel_rfl)) (by kernel_rfl)) (by kernel_rfl)) (by kernel_rfl)) (by kernel_rfl)) (by kernel_rfl)) (by kernel_rfl)) (by kernel_rfl)) (by kernel_rfl)) (by kernel_rfl)) (by kernel_rfl)))
    (fun n ih => asc_nil)
/-! ### slices.Sort[[]string,string] (by hand) -/
abbrev slices_Sort_string_ins : Sh := ⟨[(.one (.arr 0))], [(.arr 9 .str)]⟩
abbrev slices_Sort_string_outs : List Sh := [⟨[(.tup [])], [(.arr 9 .str)]⟩]
def slices_Sort_string : Nat → slices_Sort_string_ins.T → Option (OutsT slices_Sort_string_outs) := fun _ => sortSem 9
theorem slices_Sort_string_ok {S : Nat → Addr} (ok : CfgOk P CC S) : ∀ n, SpecOk P CC S 29 ⟨slices_Sort_string_ins, slices_Sort_string_outs, slices_Sort_string n⟩ := fun n => sort_spec ⟨Tryd.f29, by kernel_rfl, by kernel_rfl, by kernel_rfl⟩ Tryd.slices_Sort_string_none Tryd.slices_Sort_string
/-! ### slices.Compact[[]string,string] (by hand) -/
abbrev slices_Compact_string_ins : Sh := ⟨[(.one (.arr 0))], [(.arr 9 .str)]⟩
abbrev slices_Compact_string_outs : List Sh := [⟨[(.one (.arr 1))], [.dead, (.arr 9 .str)]⟩]
def slices_Compact_string : Nat → slices_Compact_string_ins.T → Option (OutsT slices_Compact_string_outs) := fun _ => compSem 9
theorem slices_Compact_string_ok {S : Nat → Addr} (ok : CfgOk P CC S) : ∀ n, SpecOk P CC S 30 ⟨slices_Compact_string_ins, slices_Compact_string_outs, slices_Compact_string n⟩ := fun n => comp_spec ⟨Tryd.f30, by kernel_rfl, by kernel_rfl, by kernel_rfl⟩ Tryd.slices_Compact_string_empty Tryd.slices_Compact_string
/-! ### pendulum/sched.Needs -/
abbrev sched_Needs_ins : Sh := ⟨[(.agg [(.val ty1), (.val (.int .i64)), (.val .str), (.val (.int .i64)), (.val ty6), (.val ty10), (.val .str), (.val .str), (.val .str)])], []⟩
abbrev sched_Needs_outs : List Sh := [⟨[(.one (.arr 0))], [(.arr 9 .str)]⟩]
abbrev sched_Needs_c7_h : Sh := ⟨[(.one (.ptr 0 0)), (.one (.val ty6))], [(.obj 38 [(.val ty1), (.val (.int .i64)), (.val .str), (.val (.int .i64)), (.val ty6), (.val ty10), (.val .str), (.val .str), (.val .str)])]⟩
abbrev sched_Needs_c7_o : List Out := [⟨.normal, [1, 3], ⟨[(.one (.ptr 0 0)), (.one (.val ty6))], [(.obj 38 [(.val ty1), (.val (.int .i64)), (.val .str), (.val (.int .i64)), (.val ty6), (.val ty10), (.val .str), (.val .str), (.val .str)])]⟩⟩]
def sched_Needs_c7 (n : Nat) : sched_Needs_c7_h.T → Option (OutT sched_Needs_c7_o)
  | ((_, x1, _), ((x2, x3, x4, x5, x6, x7, x8, x9, x10, _), _)) =>
    if x3 == 23 then
      some (.inl (((), [], ()), ((x2, x3, x4, x5, x6, x7, x8, x9, x10, ()), ())))
    else
      if x3 == 21 then
        if 0 ≤ mn 1 (x1.length : Int) ∧ mn 1 (x1.length : Int) ≤ (x1.length : Int) then (
          let v11 : List ty7.T := cutL x1 0 (mn 1 (x1.length : Int))
          some (.inl (((), v11, ()), ((x2, x3, x4, x5, x6, x7, x8, x9, x10, ()), ())))) else none
      else
        some (.inl (((), x1, ()), ((x2, x3, x4, x5, x6, x7, x8, x9, x10, ()), ())))
abbrev sched_Needs_l9_h : Sh := ⟨[(.one (.ptr 0 0)), (.one (.arr 1)), (.one (.val ty6)), (.one (.val (.int .i64))), (.one (.val (.int .i64)))], [(.obj 38 [(.val ty1), (.val (.int .i64)), (.val .str), (.val (.int .i64)), (.val ty6), (.val ty10), (.val .str), (.val .str), (.val .str)]), (.arr 9 .str)]⟩
abbrev sched_Needs_l9_o : List Out := [⟨(.exit 1), [1, 4], ⟨[(.one (.ptr 0 0)), (.one (.arr 1))], [(.obj 38 [(.val ty1), (.val (.int .i64)), (.val .str), (.val (.int .i64)), (.val ty6), (.val ty10), (.val .str), (.val .str), (.val .str)]), (.arr 9 .str)]⟩⟩]
def sched_Needs_l9 (n : Nat) : Nat → sched_Needs_l9_h.T → Option (OutT sched_Needs_l9_o)
  | 0, _ => none
  | k + 1, ((_, _, x1, x2, x3, _), ((x4, x5, x6, x7, x8, x9, x10, x11, x12, _), l13, _)) =>
    if decide (x3 < x2) then
      if 0 ≤ x3 ∧ x3 < (x1.length : Int) then (
        if !strEq ((rdT ty7 x1 x3).1) (⟨#[]⟩ : ByteArray) then
          if (l13.length + ([(rdT ty7 x1 x3).1] : List (.str : Ty).T).length) * 16 ≤ 140737488355328 then (
            let v14 : Int := IntKind.i64.wrap (x3 + 1)
            sched_Needs_l9 n k (((), (), x1, x2, v14, ()), ((x4, x5, x6, x7, x8, x9, x10, x11, x12, ()), l13 ++ [(rdT ty7 x1 x3).1], ()))) else none
        else
          let v15 : Int := IntKind.i64.wrap (x3 + 1)
          sched_Needs_l9 n k (((), (), x1, x2, v15, ()), ((x4, x5, x6, x7, x8, x9, x10, x11, x12, ()), l13, ()))) else none
    else
      some (.inl (((), (), ()), ((x4, x5, x6, x7, x8, x9, x10, x11, x12, ()), l13, ())))
abbrev sched_Needs_c16_h : Sh := ⟨[(.one (.ptr 0 0)), (.one (.arr 1))], [(.obj 38 [(.val ty1), (.val (.int .i64)), (.val .str), (.val (.int .i64)), (.val ty6), (.val ty10), (.val .str), (.val .str), (.val .str)]), (.arr 9 .str)]⟩
abbrev sched_Needs_c16_o : List Out := [⟨.normal, [1, 4], ⟨[(.one (.ptr 0 0)), (.one (.arr 1))], [(.obj 38 [(.val ty1), (.val (.int .i64)), (.val .str), (.val (.int .i64)), (.val ty6), (.val ty10), (.val .str), (.val .str), (.val .str)]), (.arr 9 .str)]⟩⟩]
def sched_Needs_c16 (n : Nat) : sched_Needs_c16_h.T → Option (OutT sched_Needs_c16_o)
  | ((_, _, _), ((x1, x2, x3, x4, x5, x6, x7, x8, x9, _), l10, _)) =>
    if x2 == 24 then
      if (l10.length + ([x3] : List (.str : Ty).T).length) * 16 ≤ 140737488355328 then (
        some (.inl (((), (), ()), ((x1, x2, x3, x4, x5, x6, x7, x8, x9, ()), l10 ++ [x3], ())))) else none
    else
      if x2 == 25 then
        if (l10.length + ([x3] : List (.str : Ty).T).length) * 16 ≤ 140737488355328 then (
          some (.inl (((), (), ()), ((x1, x2, x3, x4, x5, x6, x7, x8, x9, ()), l10 ++ [x3], ())))) else none
      else
        some (.inl (((), (), ()), ((x1, x2, x3, x4, x5, x6, x7, x8, x9, ()), l10, ())))
abbrev sched_Needs_c18_h : Sh := ⟨[(.one (.ptr 0 0)), (.one (.arr 1))], [(.obj 38 [(.val ty1), (.val (.int .i64)), (.val .str), (.val (.int .i64)), (.val ty6), (.val ty10), (.val .str), (.val .str), (.val .str)]), (.arr 9 .str)]⟩
abbrev sched_Needs_c18_o : List Out := [⟨.normal, [1, 4], ⟨[(.one (.ptr 0 0)), (.one (.arr 1))], [(.obj 38 [(.val ty1), (.val (.int .i64)), (.val .str), (.val (.int .i64)), (.val ty6), (.val ty10), (.val .str), (.val .str), (.val .str)]), (.arr 9 .str)]⟩⟩]
def sched_Needs_c18 (n : Nat) : sched_Needs_c18_h.T → Option (OutT sched_Needs_c18_o)
  | ((_, _, _), ((x1, x2, x3, x4, x5, x6, x7, x8, x9, _), l10, _)) =>
    if !strEq x9 (⟨#[]⟩ : ByteArray) then
      if (l10.length + ([x9] : List (.str : Ty).T).length) * 16 ≤ 140737488355328 then (
        some (.inl (((), (), ()), ((x1, x2, x3, x4, x5, x6, x7, x8, x9, ()), l10 ++ [x9], ())))) else none
    else
      some (.inl (((), (), ()), ((x1, x2, x3, x4, x5, x6, x7, x8, x9, ()), l10, ())))
abbrev sched_Needs_l19_h : Sh := ⟨[(.one (.arr 0)), (.one (.val ty10)), (.one (.val (.int .i64))), (.one (.val (.int .i64)))], [(.arr 9 .str)]⟩
abbrev sched_Needs_l19_o : List Out := [⟨(.exit 3), [4], ⟨[(.one (.arr 0))], [(.arr 9 .str)]⟩⟩]
def sched_Needs_l19 (n : Nat) : Nat → sched_Needs_l19_h.T → Option (OutT sched_Needs_l19_o)
  | 0, _ => none
  | k + 1, ((_, x1, x2, x3, _), (l4, _)) =>
    if decide (x3 < x2) then
      if 0 ≤ x3 ∧ x3 < (x1.length : Int) then (
        if (l4.length + ([(rdT ty11 x1 x3).1] : List (.str : Ty).T).length) * 16 ≤ 140737488355328 then (
          let v5 : Int := IntKind.i64.wrap (x3 + 1)
          sched_Needs_l19 n k (((), x1, x2, v5, ()), (l4 ++ [(rdT ty11 x1 x3).1], ()))) else none) else none
    else
      some (.inl (((), ()), (l4, ())))
def sched_Needs : Nat → sched_Needs_ins.T → Option (OutsT sched_Needs_outs)
  | 0, _ => none
  | n + 1, (((x1, x2, x3, x4, x5, x6, x7, x8, x9, _), _), _) =>
    match sched_Needs_c7 n (((), x5, ()), ((x1, x2, x3, x4, x5, x6, x7, x8, x9, ()), ())) with
    | some (.inl ((_, x10, _), ((x11, x12, x13, x14, x15, x16, x17, x18, x19, _), _))) => (
      match sched_Needs_l9 n n (((), (), x10, (x10.length : Int), 0, ()), ((x11, x12, x13, x14, x15, x16, x17, x18, x19, ()), [], ())) with
      | some (.inl ((_, _, _), ((x20, x21, x22, x23, x24, x25, x26, x27, x28, _), l29, _))) => (
        match sched_Needs_c16 n (((), (), ()), ((x20, x21, x22, x23, x24, x25, x26, x27, x28, ()), l29, ())) with
        | some (.inl ((_, _, _), ((x30, x31, x32, x33, x34, x35, x36, x37, x38, _), l39, _))) => (
          match sched_Needs_c18 n (((), (), ()), ((x30, x31, x32, x33, x34, x35, x36, x37, x38, ()), l39, ())) with
          | some (.inl ((_, _, _), ((x40, x41, x42, x43, x44, x45, x46, x47, x48, _), l49, _))) => (
            match sched_Needs_l19 n n (((), x45, (x45.length : Int), 0, ()), (l49, ())) with
            | some (.inl ((_, _), (l50, _))) => (
              match slices_Sort_string n (((), ()), (l50, ())) with
              | some ((_, _), (l51, _)) => (
                match slices_Compact_string n (((), ()), (l51, ())) with
                | some ((_, _), (_, l52, _)) => (
                  some (((), ()), (l52, ())))
                | none => none)
              | none => none)
            | some (.inr (_)) => none
            | none => none)
          | some (.inr (_)) => none
          | none => none)
        | some (.inr (_)) => none
        | none => none)
      | some (.inr (_)) => none
      | none => none)
    | some (.inr (_)) => none
    | none => none
def sched_Needs_H (n : Nat) : Hints := ⟨[], fun _ => [], fun k => match k with | 9 => some ⟨[1, 4, 22, 23, 24], sched_Needs_l9_h, sched_Needs_l9_o, sched_Needs_l9 n⟩ | 19 => some ⟨[4, 59, 60, 61], sched_Needs_l19_h, sched_Needs_l19_o, sched_Needs_l19 n⟩ | _ => none, fun k => match k with | 7 => some ⟨[1, 3], sched_Needs_c7_h, sched_Needs_c7_o, fun n => sched_Needs_c7 n⟩ | 16 => some ⟨[1, 4], sched_Needs_c16_h, sched_Needs_c16_o, fun n => sched_Needs_c16 n⟩ | 18 => some ⟨[1, 4], sched_Needs_c18_h, sched_Needs_c18_o, fun n => sched_Needs_c18 n⟩ | _ => none⟩
def sched_Needs_O (n : Nat) : FuncId → List FSpec := asc [(29, ⟨slices_Sort_string_ins, slices_Sort_string_outs, slices_Sort_string n⟩), (30, ⟨slices_Compact_string_ins, slices_Compact_string_outs, slices_Compact_string n⟩)]
def b13 : Code := bodyOf Tryd.f13
theorem sched_Needs_l9_k0 (n : Nat) : LoopOk P CC (sched_Needs_O n) n 0 75 (sched_Needs_H n) ⟨[1, 4, 22, 23, 24], sched_Needs_l9_h, sched_Needs_l9_o, sched_Needs_l9 n⟩ ((loopsOf b13).getD 0 .skip) := by
  refine ⟨fun _ => by kernel_rfl, ?_⟩
  rintro k ⟨⟨⟨⟩, ⟨⟩, x1, x2, x3, ⟨⟩⟩, ⟨⟨x4, x5, x6, x7, x8, x9, x10, x11, x12, ⟨⟩⟩, x13, ⟨⟩⟩⟩
  kernel_rfl
theorem sched_Needs_l19_k1 (n : Nat) : LoopOk P CC (sched_Needs_O n) n 0 75 (sched_Needs_H n) ⟨[4, 59, 60, 61], sched_Needs_l19_h, sched_Needs_l19_o, sched_Needs_l19 n⟩ ((loopsOf b13).getD 1 .skip) := by
  refine ⟨fun _ => by kernel_rfl, ?_⟩
  rintro k ⟨⟨⟨⟩, x1, x2, x3, ⟨⟩⟩, ⟨x4, ⟨⟩⟩⟩
  kernel_rfl
theorem sched_Needs_c7_k2 (n : Nat) : CutOk P CC (sched_Needs_O n) n 0 75 (sched_Needs_H n) ⟨[1, 3], sched_Needs_c7_h, sched_Needs_c7_o, fun n => sched_Needs_c7 n⟩ ((cutsOf b13).getD 2 (0, .skip)).2 := by
  rintro ⟨⟨⟨⟩, x1, ⟨⟩⟩, ⟨⟨x2, x3, x4, x5, x6, x7, x8, x9, x10, ⟨⟩⟩, ⟨⟩⟩⟩
  kernel_rfl
theorem sched_Needs_c16_k14 (n : Nat) : CutOk P CC (sched_Needs_O n) n 0 75 (sched_Needs_H n) ⟨[1, 4], sched_Needs_c16_h, sched_Needs_c16_o, fun n => sched_Needs_c16 n⟩ ((cutsOf b13).getD 14 (0, .skip)).2 := by
  rintro ⟨⟨⟨⟩, ⟨⟩, ⟨⟩⟩, ⟨⟨x1, x2, x3, x4, x5, x6, x7, x8, x9, ⟨⟩⟩, x10, ⟨⟩⟩⟩
  kernel_rfl
theorem sched_Needs_c18_k16 (n : Nat) : CutOk P CC (sched_Needs_O n) n 0 75 (sched_Needs_H n) ⟨[1, 4], sched_Needs_c18_h, sched_Needs_c18_o, fun n => sched_Needs_c18 n⟩ ((cutsOf b13).getD 16 (0, .skip)).2 := by
  rintro ⟨⟨⟨⟩, ⟨⟩, ⟨⟩⟩, ⟨⟨x1, x2, x3, x4, x5, x6, x7, x8, x9, ⟨⟩⟩, x10, ⟨⟩⟩⟩
  kernel_rfl
theorem sched_Needs_ok {S : Nat → Addr} (ok : CfgOk P CC S) : ∀ n, SpecOk P CC S 13 ⟨sched_Needs_ins, sched_Needs_outs, sched_Needs n⟩ :=
  fn_all ok (O := sched_Needs_O) (H := sched_Needs_H) (fn := Tryd.f13) (body := b13) (by kernel_rfl) (by kernel_rfl) (by kernel_rfl) (by decide) (by kernel_rfl)
    (fun x => by kernel_rfl) (fun n => by
      rintro ⟨⟨⟨x1, x2, x3, x4, x5, x6, x7, x8, x9, ⟨⟩⟩, ⟨⟩⟩, ⟨⟩⟩
      kernel_rfl)
    (fun n => obl_of (by kernel_rfl) (by kernel_rfl) (ls (ls (lz) (by kernel_rfl) (sched_Needs_l9_k0 n)) (by kernel_rfl) (sched_Needs_l19_k1 n)) (cn (cn (cn (cn (cn (cn (cn (cn (cn (cs (cn (cs (cn (cn (cn (cn (cn (cn (cn (cn (cn (cn (cn (cs (cn (cn (cz) (by kernel_rfl)) (by kernel_rfl)) (by kernel_rfl) (sched_Needs_c7_k2 n)) (by kernel_rfl)) (by kernel_rfl)) (by kernel_rfl)) (by kernel_rfl)) (by kernel_rfl)) (by kernel_rfl)) (by kernel_rfl)) (by kernel_rfl)) (by kernel_rfl)) (by kernel_rfl)) (by kernel_rfl)) (by kernel_rfl) (sched_Needs_c16_k14 n)) (by kernel_rfl)) (by kernel_rfl) (sched_Needs_c18_k16 n)) (by kernel_rfl)) (by kernel_rfl)) (by kernel_rfl)) (by kernel_rfl)) (by kernel_rfl)) (by kernel_rfl)) (by kernel_rfl)) (by kernel_rfl)) (by kernel_rfl)))
    (fun n ih => asc_cons (slices_Sort_string_ok ok n) <| asc_cons (slices_Compact_string_ok ok n) <| asc_nil)
/-! ### pendulum/sched.Order$1$1 -/
abbrev sched_Order_1_1_ins : Sh := ⟨[(.one (.val .str)), (.one (.ptr 0 0)), (.one (.ptr 1 0))], [(.obj 58 [(.map 2)]), (.obj 61 [(.arr 3)]), (.map .str (.int .i64) false), (.arr 4 .bool)]⟩
abbrev sched_Order_1_1_outs : List Sh := [⟨[(.one (.val .bool))], [(.obj 58 [(.map 2)]), (.obj 61 [(.arr 3)]), (.map .str (.int .i64) false), (.arr 4 .bool)]⟩]
def sched_Order_1_1 : Nat → sched_Order_1_1_ins.T → Option (OutsT sched_Order_1_1_outs)
  | 0, _ => none
  | n + 1, ((x1, _, _, _), ((_, _), (_, _), m2, l3, _)) =>
    let v4 : Int := (mfind (keyEq (.str : Ty)) x1 m2).getD 0
    if (mfind (keyEq (.str : Ty)) x1 m2).isSome then
      if 0 ≤ v4 ∧ v4 < (l3.length : Int) then (
        some ((!(rdT (.bool : Ty) l3 v4), ()), (((), ()), ((), ()), m2, l3, ()))) else none
    else
      some ((false, ()), (((), ()), ((), ()), m2, l3, ()))
def sched_Order_1_1_H (n : Nat) : Hints := ⟨[], fun _ => [], fun _ => none, fun _ => none⟩
def sched_Order_1_1_O (n : Nat) : FuncId → List FSpec := asc []
def b26 : Code := bodyOf Tryd.f26
theorem sched_Order_1_1_ok {S : Nat → Addr} (ok : CfgOk P CC S) : ∀ n, SpecOk P CC S 26 ⟨sched_Order_1_1_ins, sched_Order_1_1_outs, sched_Order_1_1 n⟩ :=
  fn_all ok (O := sched_Order_1_1_O) (H := sched_Order_1_1_H) (fn := Tryd.f26) (body := b26) (by kernel_rfl) (by kernel_rfl) (by kernel_rfl) (by decide) (by kernel_rfl)
    (fun x => by kernel_rfl) (fun n => by
      rintro ⟨⟨x1, ⟨⟩, ⟨⟩, ⟨⟩⟩, ⟨⟨⟨⟩, ⟨⟩⟩, ⟨⟨⟩, ⟨⟩⟩, x2, x3, ⟨⟩⟩⟩
      kernel_rfl)
    (fun n => obl_of (by kernel_rfl) (by kernel_rfl) (lz) (cn (cn (cn (cz) (by kernel_rfl)) (by kernel_rfl)) (by kernel_rfl)))
    (fun n ih => asc_nil)
/-! ### slices.IndexFunc[[]string,string] -/
abbrev slices_IndexFunc_string_string_ins : Sh := ⟨[(.one (.val ty1)), (.one (.fn 26 [0, 1]))], [(.obj 58 [(.map 2)]), (.obj 61 [(.arr 3)]), (.map .str (.int .i64) false), (.arr 4 .bool)]⟩
abbrev slices_IndexFunc_string_string_outs : List Sh := [⟨[(.one (.val (.int .i64)))], [(.obj 58 [(.map 2)]), (.obj 61 [(.arr 3)]), (.map .str (.int .i64) false), (.arr 4 .bool)]⟩]
abbrev slices_IndexFunc_string_string_l2_h : Sh := ⟨[(.one (.val ty1)), (.one (.fn 26 [0, 1])), (.one (.val (.int .i64))), (.one (.val (.int .i64)))], [(.obj 58 [(.map 2)]), (.obj 61 [(.arr 3)]), (.map .str (.int .i64) false), (.arr 4 .bool)]⟩
abbrev slices_IndexFunc_string_string_l2_o : List Out := [⟨(.exit 0), [], ⟨[], [(.obj 58 [(.map 2)]), (.obj 61 [(.arr 3)]), (.map .str (.int .i64) false), (.arr 4 .bool)]⟩⟩, ⟨.ret, [4], ⟨[(.one (.val (.int .i64)))], [(.obj 58 [(.map 2)]), (.obj 61 [(.arr 3)]), (.map .str (.int .i64) false), (.arr 4 .bool)]⟩⟩]
def slices_IndexFunc_string_string_l2 (n : Nat) : Nat → slices_IndexFunc_string_string_l2_h.T → Option (OutT slices_IndexFunc_string_string_l2_o)
  | 0, _ => none
  | k + 1, ((x1, _, x2, x3, _), ((_, _), (_, _), m4, l5, _)) =>
    if decide (x3 < x2) then
      if 0 ≤ x3 ∧ x3 < (x1.length : Int) then (
        match sched_Order_1_1 n ((rdT (.str : Ty) x1 x3, (), (), ()), (((), ()), ((), ()), m4, l5, ())) with
        | some ((x6, _), ((_, _), (_, _), m7, l8, _)) => (
          if x6 then
            some (.inr (.inl ((x3, ()), (((), ()), ((), ()), m7, l8, ()))))
          else
            let v9 : Int := IntKind.i64.wrap (x3 + 1)
            slices_IndexFunc_string_string_l2 n k ((x1, (), x2, v9, ()), (((), ()), ((), ()), m7, l8, ())))
        | none => none) else none
    else
      some (.inl ((), (((), ()), ((), ()), m4, l5, ())))
def slices_IndexFunc_string_string : Nat → slices_IndexFunc_string_string_ins.T → Option (OutsT slices_IndexFunc_string_string_outs)
  | 0, _ => none
  | n + 1, ((x1, _, _), ((_, _), (_, _), m2, l3, _)) =>
    match slices_IndexFunc_string_string_l2 n n ((x1, (), (x1.length : Int), 0, ()), (((), ()), ((), ()), m2, l3, ())) with
    | some (.inl (_, ((_, _), (_, _), m4, l5, _))) => (
      some (((-1), ()), (((), ()), ((), ()), m4, l5, ())))
    | some (.inr (.inl ((x6, _), ((_, _), (_, _), m7, l8, _)))) => (
      some ((x6, ()), (((), ()), ((), ()), m7, l8, ())))
    | some (.inr (.inr (_))) => none
    | none => none
def slices_IndexFunc_string_string_H (n : Nat) : Hints := ⟨[], fun _ => [], fun k => match k with | 2 => some ⟨[0, 1, 7, 8], slices_IndexFunc_string_string_l2_h, slices_IndexFunc_string_string_l2_o, slices_IndexFunc_string_string_l2 n⟩ | _ => none, fun _ => none⟩
def slices_IndexFunc_string_string_O (n : Nat) : FuncId → List FSpec := asc [(26, ⟨sched_Order_1_1_ins, sched_Order_1_1_outs, sched_Order_1_1 n⟩)]
def b34 : Code := bodyOf Tryd.f34
theorem slices_IndexFunc_string_string_l2_k0 (n : Nat) : LoopOk P CC (slices_IndexFunc_string_string_O n) n 4 19 (slices_IndexFunc_string_string_H n) ⟨[0, 1, 7, 8], slices_IndexFunc_string_string_l2_h, slices_IndexFunc_string_string_l2_o, slices_IndexFunc_string_string_l2 n⟩ ((loopsOf b34).getD 0 .skip) := by
  refine ⟨fun _ => by kernel_rfl, ?_⟩
  rintro k ⟨⟨x1, ⟨⟩, x2, x3, ⟨⟩⟩, ⟨⟨⟨⟩, ⟨⟩⟩, ⟨⟨⟩, ⟨⟩⟩, x4, x5, ⟨⟩⟩⟩
  kernel_rfl
theorem slices_IndexFunc_string_string_ok {S : Nat → Addr} (ok : CfgOk P CC S) : ∀ n, SpecOk P CC S 34 ⟨slices_IndexFunc_string_string_ins, slices_IndexFunc_string_string_outs, slices_IndexFunc_string_string n⟩ :=
  fn_all ok (O := slices_IndexFunc_string_string_O) (H := slices_IndexFunc_string_string_H) (fn := Tryd.f34) (body := b34) (by kernel_rfl) (by kernel_rfl) (by kernel_rfl) (by decide) (by kernel_rfl)
    (fun x => by kernel_rfl) (fun n => by
      rintro ⟨⟨x1, ⟨⟩, ⟨⟩⟩, ⟨⟨⟨⟩, ⟨⟩⟩, ⟨⟨⟩, ⟨⟩⟩, x2, x3, ⟨⟩⟩⟩
      kernel_rfl)
    (fun n => obl_of (by kernel_rfl) (by kernel_rfl) (ls (lz) (by kernel_rfl) (slices_IndexFunc_string_string_l2_k0 n)) (cn (cn (cn (cn (cn (cn (cn (cn (cn (cn (cz) (by kernel_rfl)) (by kernel_rfl)) (by kernel_rfl)) (by kernel_rfl)) (by kernel_rfl)) (by kernel_rfl)) (by kernel_rfl)) (by kernel_rfl)) (by kernel_rfl)) (by kernel_rfl)))
    (fun n ih => asc_cons (sched_Order_1_1_ok ok n) <| asc_nil)
/-! ### slices.ContainsFunc[[]string,string] -/
abbrev slices_ContainsFunc_string_string_ins : Sh := ⟨[(.one (.val ty1)), (.one (.fn 26 [0, 1]))], [(.obj 58 [(.map 2)]), (.obj 61 [(.arr 3)]), (.map .str (.int .i64) false), (.arr 4 .bool)]⟩
abbrev slices_ContainsFunc_string_string_outs : List Sh := [⟨[(.one (.val .bool))], [(.obj 58 [(.map 2)]), (.obj 61 [(.arr 3)]), (.map .str (.int .i64) false), (.arr 4 .bool)]⟩]
def slices_ContainsFunc_string_string : Nat → slices_ContainsFunc_string_string_ins.T → Option (OutsT slices_ContainsFunc_string_string_outs)
  | 0, _ => none
  | n + 1, ((x1, _, _), ((_, _), (_, _), m2, l3, _)) =>
    match slices_IndexFunc_string_string n ((x1, (), ()), (((), ()), ((), ()), m2, l3, ())) with
    | some ((x4, _), ((_, _), (_, _), m5, l6, _)) => (
      some ((decide (x4 ≥ 0), ()), (((), ()), ((), ()), m5, l6, ())))
    | none => none
def slices_ContainsFunc_string_string_H (n : Nat) : Hints := ⟨[], fun _ => [], fun _ => none, fun _ => none⟩
def slices_ContainsFunc_string_string_O (n : Nat) : FuncId → List FSpec := asc [(34, ⟨slices_IndexFunc_string_string_ins, slices_IndexFunc_string_string_outs, slices_IndexFunc_string_string n⟩)]
def b25 : Code := bodyOf Tryd.f25
theorem slices_ContainsFunc_string_string_ok {S : Nat → Addr} (ok : CfgOk P CC S) : ∀ n, SpecOk P CC S 25 ⟨slices_ContainsFunc_string_string_ins, slices_ContainsFunc_string_string_outs, slices_ContainsFunc_string_string n⟩ :=
  fn_all ok (O := slices_ContainsFunc_string_string_O) (H := slices_ContainsFunc_string_string_H) (fn := Tryd.f25) (body := b25) (by kernel_rfl) (by kernel_rfl) (by kernel_rfl) (by decide) (by kernel_rfl)
    (fun x => by kernel_rfl) (fun n => by
      rintro ⟨⟨x1, ⟨⟩, ⟨⟩⟩, ⟨⟨⟨⟩, ⟨⟩⟩, ⟨⟨⟩, ⟨⟩⟩, x2, x3, ⟨⟩⟩⟩
      kernel_rfl)
    (fun n => obl_of (by kernel_rfl) (by kernel_rfl) (lz) (cn (cn (cz) (by kernel_rfl)) (by kernel_rfl)))
    (fun n ih => asc_cons (slices_IndexFunc_string_string_ok ok n) <| asc_nil)
/-! ### pendulum/sched.Order$1 -/
abbrev sched_Order_1_ins : Sh := ⟨[(.agg [(.val ty1), (.val (.int .i64)), (.val .str), (.val (.int .i64)), (.val ty6), (.val ty10), (.val .str), (.val .str), (.val .str)]), (.one (.ptr 0 0)), (.one (.ptr 1 0))], [(.obj 58 [(.map 2)]), (.obj 61 [(.arr 3)]), (.map .str (.int .i64) false), (.arr 4 .bool)]⟩
abbrev sched_Order_1_outs : List Sh := [⟨[(.one (.val .bool))], [(.obj 58 [(.map 2)]), (.obj 61 [(.arr 3)]), (.map .str (.int .i64) false), (.arr 4 .bool)]⟩]
def sched_Order_1 : Nat → sched_Order_1_ins.T → Option (OutsT sched_Order_1_outs)
  | 0, _ => none
  | n + 1, (((x1, x2, x3, x4, x5, x6, x7, x8, x9, _), _, _, _), ((_, _), (_, _), m10, l11, _)) =>
    match sched_Needs n (((x1, x2, x3, x4, x5, x6, x7, x8, x9, ()), ()), ()) with
    | some ((_, _), (l12, _)) => (
      match slices_ContainsFunc_string_string n ((l12, (), ()), (((), ()), ((), ()), m10, l11, ())) with
      | some ((x13, _), ((_, _), (_, _), m14, l15, _)) => (
        some ((!x13, ()), (((), ()), ((), ()), m14, l15, ())))
      | none => none)
    | none => none
def sched_Order_1_H (n : Nat) : Hints := ⟨[], fun _ => [], fun _ => none, fun _ => none⟩
def sched_Order_1_O (n : Nat) : FuncId → List FSpec := asc [(13, ⟨sched_Needs_ins, sched_Needs_outs, sched_Needs n⟩), (25, ⟨slices_ContainsFunc_string_string_ins, slices_ContainsFunc_string_string_outs, slices_ContainsFunc_string_string n⟩)]
def b24 : Code := bodyOf Tryd.f24
theorem sched_Order_1_ok {S : Nat → Addr} (ok : CfgOk P CC S) : ∀ n, SpecOk P CC S 24 ⟨sched_Order_1_ins, sched_Order_1_outs, sched_Order_1 n⟩ :=
  fn_all ok (O := sched_Order_1_O) (H := sched_Order_1_H) (fn := Tryd.f24) (body := b24) (by kernel_rfl) (by kernel_rfl) (by kernel_rfl) (by decide) (by kernel_rfl)
    (fun x => by kernel_rfl) (fun n => by
      rintro ⟨⟨⟨x1, x2, x3, x4, x5, x6, x7, x8, x9, ⟨⟩⟩, ⟨⟩, ⟨⟩, ⟨⟩⟩, ⟨⟨⟨⟩, ⟨⟩⟩, ⟨⟨⟩, ⟨⟩⟩, x10, x11, ⟨⟩⟩⟩
      kernel_rfl)
    (fun n => obl_of (by kernel_rfl) (by kernel_rfl) (lz) (cn (cn (cz) (by kernel_rfl)) (by kernel_rfl)))
    (fun n ih => asc_cons (sched_Needs_ok ok n) <| asc_cons (slices_ContainsFunc_string_string_ok ok n) <| asc_nil)
/-! ### slices.Index[[]bool,bool] -/
abbrev slices_Index_bool_bool_ins : Sh := ⟨[(.one (.val ty14)), (.one (.val .bool))], []⟩
abbrev slices_Index_bool_bool_outs : List Sh := [⟨[(.one (.val (.int .i64)))], []⟩]
abbrev slices_Index_bool_bool_l2_h : Sh := ⟨[(.one (.val ty14)), (.one (.val .bool)), (.one (.val (.int .i64))), (.one (.val (.int .i64)))], []⟩
abbrev slices_Index_bool_bool_l2_o : List Out := [⟨(.exit 0), [], ⟨[], []⟩⟩, ⟨.ret, [4], ⟨[(.one (.val (.int .i64)))], []⟩⟩]
def slices_Index_bool_bool_l2 (n : Nat) : Nat → slices_Index_bool_bool_l2_h.T → Option (OutT slices_Index_bool_bool_l2_o)
  | 0, _ => none
  | k + 1, ((x1, x2, x3, x4, _), _) =>
    if decide (x4 < x3) then
      if 0 ≤ x4 ∧ x4 < (x1.length : Int) then (
        if x2 == (rdT (.bool : Ty) x1 x4) then
          some (.inr (.inl ((x4, ()), ())))
        else
          let v5 : Int := IntKind.i64.wrap (x4 + 1)
          slices_Index_bool_bool_l2 n k ((x1, x2, x3, v5, ()), ())) else none
    else
      some (.inl ((), ()))
def slices_Index_bool_bool : Nat → slices_Index_bool_bool_ins.T → Option (OutsT slices_Index_bool_bool_outs)
  | 0, _ => none
  | n + 1, ((x1, x2, _), _) =>
    match slices_Index_bool_bool_l2 n n ((x1, x2, (x1.length : Int), 0, ()), ()) with
    | some (.inl (_, _)) => (
      some (((-1), ()), ()))
    | some (.inr (.inl ((x3, _), _))) => (
      some ((x3, ()), ()))
    | some (.inr (.inr (_))) => none
    | none => none
def slices_Index_bool_bool_H (n : Nat) : Hints := ⟨[], fun _ => [], fun k => match k with | 2 => some ⟨[0, 1, 7, 8], slices_Index_bool_bool_l2_h, slices_Index_bool_bool_l2_o, slices_Index_bool_bool_l2 n⟩ | _ => none, fun _ => none⟩
def slices_Index_bool_bool_O (n : Nat) : FuncId → List FSpec := asc []
def b27 : Code := bodyOf Tryd.f27
theorem slices_Index_bool_bool_l2_k0 (n : Nat) : LoopOk P CC (slices_Index_bool_bool_O n) n 0 19 (slices_Index_bool_bool_H n) ⟨[0, 1, 7, 8], slices_Index_bool_bool_l2_h, slices_Index_bool_bool_l2_o, slices_Index_bool_bool_l2 n⟩ ((loopsOf b27).getD 0 .skip) := by
  refine ⟨fun _ => by kernel_rfl, ?_⟩
  rintro k ⟨⟨x1, x2, x3, x4, ⟨⟩⟩, ⟨⟩⟩
  kernel_rfl
theorem slices_Index_bool_bool_ok {S : Nat → Addr} (ok : CfgOk P CC S) : ∀ n, SpecOk P CC S 27 ⟨slices_Index_bool_bool_ins, slices_Index_bool_bool_outs, slices_Index_bool_bool n⟩ :=
  fn_all ok (O := slices_Index_bool_bool_O) (H := slices_Index_bool_bool_H) (fn := Tryd.f27) (body := b27) (by kernel_rfl) (by kernel_rfl) (by kernel_rfl) (by decide) (by kernel_rfl)
    (fun x => by kernel_rfl) (fun n => by
      rintro ⟨⟨x1, x2, ⟨⟩⟩, ⟨⟩⟩
      kernel_rfl)
    (fun n => obl_of (by kernel_rfl) (by kernel_rfl) (ls (lz) (by kernel_rfl) (slices_Index_bool_bool_l2_k0 n)) (cn (cn (cn (cn (cn (cn (cn (cn (cn (cn (cz) (by kernel_rfl)) (by kernel_rfl)) (by kernel_rfl)) (by kernel_rfl)) (by kernel_rfl)) (by kernel_rfl)) (by kernel_rfl)) (by kernel_rfl)) (by kernel_rfl)) (by kernel_rfl)))
    (fun n ih => asc_nil)
/-! ### pendulum/sched.Order -/
abbrev sched_Order_ins : Sh := ⟨[(.one (.arr 0))], [(.arr 38 ty0)]⟩
abbrev sched_Order_outs : List Sh := [⟨[(.tup [(false, [(.arr 1)]), (false, [(.val .err)])])], [(.arr 38 ty0), (.arr 3 (.int .i64))]⟩]
abbrev sched_Order_l10_h : Sh := ⟨[(.one (.arr 0)), (.one (.ptr 1 0)), (.one (.fn 24 [2, 1])), (.one (.arr 3)), (.one (.val (.int .i64))), (.one (.arr 0)), (.one (.val (.int .i64))), (.one (.val (.int .i64)))], [(.arr 38 ty0), (.obj 61 [(.arr 4)]), (.obj 58 [(.map 5)]), (.arr 3 (.int .i64)), (.arr 4 .bool), (.map .str (.int .i64) false)]⟩
abbrev sched_Order_l10_o : List Out := [⟨(.exit 2), [0, 6, 7, 8, 9], ⟨[(.one (.arr 0)), (.one (.ptr 1 0)), (.one (.fn 24 [2, 1])), (.one (.arr 3)), (.one (.val (.int .i64)))], [(.arr 38 ty0), (.obj 61 [(.arr 4)]), (.obj 58 [(.map 5)]), (.arr 3 (.int .i64)), (.arr 4 .bool), (.map .str (.int .i64) false)]⟩⟩]
def sched_Order_l10 (n : Nat) : Nat → sched_Order_l10_h.T → Option (OutT sched_Order_l10_o)
  | 0, _ => none
  | k + 1, ((_, _, _, _, x1, _, x2, x3, _), (l4, (_, _), (_, _), l5, l6, m7, _)) =>
    if decide (x3 < x2) then
      if 0 ≤ x3 ∧ x3 < (l4.length : Int) then (
        if 0 ≤ x3 ∧ x3 < (l6.length : Int) then (
          if !(rdT (.bool : Ty) l6 x3) then
            match sched_Order_1 n ((((rdT ty0 l4 x3).1, ((rdT ty0 l4 x3).2).1, (((rdT ty0 l4 x3).2).2).1, ((((rdT ty0 l4 x3).2).2).2).1, (((((rdT ty0 l4 x3).2).2).2).2).1, ((((((rdT ty0 l4 x3).2).2).2).2).2).1, (((((((rdT ty0 l4 x3).2).2).2).2).2).2).1, ((((((((rdT ty0 l4 x3).2).2).2).2).2).2).2).1, ((((((((rdT ty0 l4 x3).2).2).2).2).2).2).2).2, ()), (), (), ()), (((), ()), ((), ()), m7, l6, ())) with
            | some ((x8, _), ((_, _), (_, _), m9, l10, _)) => (
              if x8 then
                some (.inl (((), (), (), (), x3, ()), (l4, ((), ()), ((), ()), l5, l10, m9, ())))
              else
                let v11 : Int := IntKind.i64.wrap (x3 + 1)
                sched_Order_l10 n k (((), (), (), (), x1, (), x2, v11, ()), (l4, ((), ()), ((), ()), l5, l10, m9, ())))
            | none => none
          else
            let v12 : Int := IntKind.i64.wrap (x3 + 1)
            sched_Order_l10 n k (((), (), (), (), x1, (), x2, v12, ()), (l4, ((), ()), ((), ()), l5, l6, m7, ()))) else none) else none
    else
      some (.inl (((), (), (), (), x1, ()), (l4, ((), ()), ((), ()), l5, l6, m7, ())))
abbrev sched_Order_l7_h : Sh := ⟨[(.one (.arr 0)), (.one (.ptr 1 0)), (.one (.fn 24 [2, 1])), (.one (.arr 3))], [(.arr 38 ty0), (.obj 61 [(.arr 4)]), (.obj 58 [(.map 5)]), (.arr 3 (.int .i64)), (.arr 4 .bool), (.map .str (.int .i64) false)]⟩
abbrev sched_Order_l7_o : List Out := [⟨(.exit 0), [8], ⟨[(.one (.arr 1))], [(.arr 38 ty0), (.arr 3 (.int .i64))]⟩⟩, ⟨.ret, [2, 3], ⟨[(.one (.emp true)), (.one (.val .err))], [(.arr 38 ty0)]⟩⟩]
def sched_Order_l7 (n : Nat) : Nat → sched_Order_l7_h.T → Option (OutT sched_Order_l7_o)
  | 0, _ => none
  | k + 1, ((_, _, _, _, _), (l1, (_, _), (_, _), l2, l3, m4, _)) =>
    if decide ((l2.length : Int) < (l1.length : Int)) then
      match sched_Order_l10 n n (((), (), (), (), (-1), (), (l1.length : Int), 0, ()), (l1, ((), ()), ((), ()), l2, l3, m4, ())) with
      | some (.inl ((_, _, _, _, x5, _), (l6, (_, _), (_, _), l7, l8, m9, _))) => (
        if decide (x5 < 0) then
          match slices_Index_bool_bool n ((l8, false, ()), ()) with
          | some ((x10, _), _) => (
            some (.inr (.inl (((), ErrV.at_ x10 (ErrV.sent 113), ()), (l6, ())))))
          | none => none
        else
          if 0 ≤ x5 ∧ x5 < (l8.length : Int) then (
            if (l7.length + ([x5] : List ((.int .i64) : Ty).T).length) * 8 ≤ 140737488355328 then (
              sched_Order_l7 n k (((), (), (), (), ()), (l6, ((), ()), ((), ()), l7 ++ [x5], List.set l8 (x5 : Int).toNat true, m9, ()))) else none) else none)
      | some (.inr (_)) => none
      | none => none
    else
      some (.inl (((), ()), (l1, l2, ())))
def sched_Order : Nat → sched_Order_ins.T → Option (OutsT sched_Order_outs)
  | 0, _ => none
  | n + 1, ((_, _), (l1, _)) =>
    match sched_givers n (((), ()), (l1, ())) with
    | some (.inl ((((_, _), (x2, _), _), _), (l3, m4, _))) => (
      if !(errNil x2) then
        some (((((), ()), (x2, ()), ()), ()), (l3, [], ()))
      else
        if 0 ≤ (l3.length : Int) ∧ (l3.length : Int) ≤ (l3.length : Int) ∧ (l3.length : Int) * ((1 : Nat) : Int) ≤ 140737488355328 ∧ (l3.length : Int) ≤ 140737488355328 then (
          match sched_Order_l7 n n (((), (), (), (), ()), (l3, ((), ()), ((), ()), [], List.replicate ((l3.length : Int) : Int).toNat false, m4, ())) with
          | some (.inl ((_, _), (l7, l8, _))) => (
            some (((((), ()), (ErrV.nil, ()), ()), ()), (l7, l8, ())))
          | some (.inr (.inl ((_, x9, _), (l10, _)))) => (
            some (((((), ()), (x9, ()), ()), ()), (l10, [], ())))
          | some (.inr (.inr (_))) => none
          | none => none) else none)
    | some (.inr (((((_, _), (x5, _), _), _), (l6, _)))) => (
      if !(errNil x5) then
        some (((((), ()), (x5, ()), ()), ()), (l6, [], ()))
      else
        if 0 ≤ (l6.length : Int) ∧ (l6.length : Int) ≤ (l6.length : Int) ∧ (l6.length : Int) * ((1 : Nat) : Int) ≤ 140737488355328 ∧ (l6.length : Int) ≤ 140737488355328 then
          none
        else
          none)
    | none => none
def sched_Order_H (n : Nat) : Hints := ⟨[], fun _ => [], fun k => match k with | 10 => some ⟨[0, 6, 7, 8, 9, 29, 30, 31], sched_Order_l10_h, sched_Order_l10_o, sched_Order_l10 n⟩ | 7 => some ⟨[0, 6, 7, 8], sched_Order_l7_h, sched_Order_l7_o, sched_Order_l7 n⟩ | _ => none, fun _ => none⟩
def sched_Order_O (n : Nat) : FuncId → List FSpec := asc [(23, ⟨sched_givers_ins, sched_givers_outs, sched_givers n⟩), (24, ⟨sched_Order_1_ins, sched_Order_1_outs, sched_Order_1 n⟩), (27, ⟨slices_Index_bool_bool_ins, slices_Index_bool_bool_outs, slices_Index_bool_bool n⟩)]
def b9 : Code := bodyOf Tryd.f9
theorem sched_Order_l7_k0 (n : Nat) : LoopOk P CC (sched_Order_O n) n 1 64 (sched_Order_H n) ⟨[0, 6, 7, 8], sched_Order_l7_h, sched_Order_l7_o, sched_Order_l7 n⟩ ((loopsOf b9).getD 0 .skip) := by
  refine ⟨fun _ => by kernel_rfl, ?_⟩
  rintro k ⟨⟨⟨⟩, ⟨⟩, ⟨⟩, ⟨⟩, ⟨⟩⟩, ⟨x1, ⟨⟨⟩, ⟨⟩⟩, ⟨⟨⟩, ⟨⟩⟩, x2, x3, x4, ⟨⟩⟩⟩
  kernel_rfl
theorem sched_Order_l10_k1 (n : Nat) : LoopOk P CC (sched_Order_O n) n 1 64 (sched_Order_H n) ⟨[0, 6, 7, 8, 9, 29, 30, 31], sched_Order_l10_h, sched_Order_l10_o, sched_Order_l10 n⟩ ((loopsOf b9).getD 1 .skip) := by
  refine ⟨fun _ => by kernel_rfl, ?_⟩
  rintro k ⟨⟨⟨⟩, ⟨⟩, ⟨⟩, ⟨⟩, x1, ⟨⟩, x2, x3, ⟨⟩⟩, ⟨x4, ⟨⟨⟩, ⟨⟩⟩, ⟨⟨⟩, ⟨⟩⟩, x5, x6, x7, ⟨⟩⟩⟩
  kernel_rfl
theorem sched_Order_ok {S : Nat → Addr} (ok : CfgOk P CC S) : ∀ n, SpecOk P CC S 9 ⟨sched_Order_ins, sched_Order_outs, sched_Order n⟩ :=
  fn_all ok (O := sched_Order_O) (H := sched_Order_H) (fn := Tryd.f9) (body := b9) (by kernel_rfl) (by kernel_rfl) (by kernel_rfl) (by decide) (by kernel_rfl)
    (fun x => by kernel_rfl) (fun n => by
      rintro ⟨⟨⟨⟩, ⟨⟩⟩, ⟨x1, ⟨⟩⟩⟩
      kernel_rfl)
    (fun n => obl_of (by kernel_rfl) (by kernel_rfl) (ls (ls (lz) (by kernel_rfl) (sched_Order_l7_k0 n)) (by kernel_rfl) (sched_Order_l10_k1 n)) (cn (cn (cn (cn (cn (cn (cn (cn (cn (cn (cn (cn (cn (cn (cn (cn (cn (cn (cn (cn (cn (cn (cn (cn (cn (cz) (by kernel_rfl)) (by kernel_rfl)) (by kernel_rfl)) (by kernel_rfl)) (by kernel_rfl)) (by kernel_rfl)) (by kernel_rfl)) (by kernel_rfl)) (by kernel_rfl)) (by kernel_rfl)) (by kernel_rfl)) (by kernel_rfl)) (by kernel_rfl)) (by kernel_rfl)) (by kernel_rfl)) (by kernel_rfl)) (by kernel_rfl)) (by kernel_rfl)) (by kernel_rfl)) (by kernel_rfl)) (by kernel_rfl)) (by kernel_rfl)) (by kernel_rfl)) (by kernel_rfl)) (by kernel_rfl)))
    (fun n ih => asc_cons (sched_givers_ok ok n) <| asc_cons (sched_Order_1_ok ok n) <| asc_cons (slices_Index_bool_bool_ok ok n) <| asc_nil)
/-! ### pendulum/pendulumref.SameTexts -/
abbrev ref_SameTexts_ins : Sh := ⟨[(.one (.val ty1)), (.one (.val ty1))], []⟩
abbrev ref_SameTexts_outs : List Sh := [⟨[(.one (.val .bool))], []⟩]
abbrev ref_SameTexts_l4_h : Sh := ⟨[(.one (.val ty1)), (.one (.val ty1)), (.one (.val (.int .i64)))], []⟩
abbrev ref_SameTexts_l4_o : List Out := [⟨(.exit 0), [], ⟨[], []⟩⟩, ⟨.ret, [4], ⟨[(.one (.val .bool))], []⟩⟩]
def ref_SameTexts_l4 (n : Nat) : Nat → ref_SameTexts_l4_h.T → Option (OutT ref_SameTexts_l4_o)
  | 0, _ => none
  | k + 1, ((x1, x2, x3, _), _) =>
    if decide (x3 < (x1.length : Int)) then
      if 0 ≤ x3 ∧ x3 < (x1.length : Int) then (
        if 0 ≤ x3 ∧ x3 < (x2.length : Int) then (
          if !(strEq (rdT (.str : Ty) x1 x3) (rdT (.str : Ty) x2 x3)) then
            some (.inr (.inl ((false, ()), ())))
          else
            let v4 : Int := IntKind.i64.wrap (x3 + 1)
            ref_SameTexts_l4 n k ((x1, x2, v4, ()), ())) else none) else none
    else
      some (.inl ((), ()))
def ref_SameTexts : Nat → ref_SameTexts_ins.T → Option (OutsT ref_SameTexts_outs)
  | 0, _ => none
  | n + 1, ((x1, x2, _), _) =>
    if (x1.length : Int) != (x2.length : Int) then
      some ((false, ()), ())
    else
      match ref_SameTexts_l4 n n ((x1, x2, 0, ()), ()) with
      | some (.inl (_, _)) => (
        some ((true, ()), ()))
      | some (.inr (.inl ((x3, _), _))) => (
        some ((x3, ()), ()))
      | some (.inr (.inr (_))) => none
      | none => none
def ref_SameTexts_H (n : Nat) : Hints := ⟨[], fun _ => [], fun k => match k with | 4 => some ⟨[0, 1, 5], ref_SameTexts_l4_h, ref_SameTexts_l4_o, ref_SameTexts_l4 n⟩ | _ => none, fun _ => none⟩
def ref_SameTexts_O (n : Nat) : FuncId → List FSpec := asc []
def b21 : Code := bodyOf Tryd.f21
theorem ref_SameTexts_l4_k0 (n : Nat) : LoopOk P CC (ref_SameTexts_O n) n 0 29 (ref_SameTexts_H n) ⟨[0, 1, 5], ref_SameTexts_l4_h, ref_SameTexts_l4_o, ref_SameTexts_l4 n⟩ ((loopsOf b21).getD 0 .skip) := by
  refine ⟨fun _ => by kernel_rfl, ?_⟩
  rintro k ⟨⟨x1, x2, x3, ⟨⟩⟩, ⟨⟩⟩
  kernel_rfl
theorem ref_SameTexts_ok {S : Nat → Addr} (ok : CfgOk P CC S) : ∀ n, SpecOk P CC S 21 ⟨ref_SameTexts_ins, ref_SameTexts_outs, ref_SameTexts n⟩ :=
  fn_all ok (O := ref_SameTexts_O) (H := ref_SameTexts_H) (fn := Tryd.f21) (body := b21) (by kernel_rfl) (by kernel_rfl) (by kernel_rfl) (by decide) (by kernel_rfl)
    (fun x => by kernel_rfl) (fun n => by
      rintro ⟨⟨x1, x2, ⟨⟩⟩, ⟨⟩⟩
      kernel_rfl)
    (fun n => obl_of (by kernel_rfl) (by kernel_rfl) (ls (lz) (by kernel_rfl) (ref_SameTexts_l4_k0 n)) (cn (cn (cn (cn (cn (cn (cn (cn (cn (cn (cn (cn (cn (cz) (by kernel_rfl)) (by kernel_rfl)) (by kernel_rfl)) (by kernel_rfl)) (by kernel_rfl)) (by kernel_rfl)) (by kernel_rfl)) (by kernel_rfl)) (by kernel_rfl)) (by kernel_rfl)) (by kernel_rfl)) (by kernel_rfl)) (by kernel_rfl)))
    (fun n ih => asc_nil)
/-! ### pendulum/pendulumlaw18.first -/
abbrev law18_first_ins : Sh := ⟨[], []⟩
abbrev law18_first_outs : List Sh := [⟨[(.one (.val .bool))], []⟩]
def law18_first : Nat → law18_first_ins.T → Option (OutsT law18_first_outs)
  | 0, _ => none
  | n + 1, (_, _) =>
    match sched_Order n (((), ()), ([], ())) with
    | some ((((_, _), (x1, _), _), _), (l2, l3, _)) => (
      if (l3.length : Int) == 0 then
        if errNil x1 then
          match sched_Needs n ((([(⟨#[120]⟩ : ByteArray)], 21, (⟨#[]⟩ : ByteArray), 0, [((⟨#[97]⟩ : ByteArray), (0, 0)), ((⟨#[98]⟩ : ByteArray), (0, 0))], [], (⟨#[]⟩ : ByteArray), (⟨#[]⟩ : ByteArray), (⟨#[]⟩ : ByteArray), ()), ()), ()) with
          | some ((_, _), (l4, _)) => (
            match ref_SameTexts n ((l4, [(⟨#[97]⟩ : ByteArray)], ()), ()) with
            | some ((x5, _), _) => (
              some ((x5, ()), ()))
            | none => none)
          | none => none
        else
          some ((false, ()), ())
      else
        some ((false, ()), ()))
    | none => none
def law18_first_H (n : Nat) : Hints := ⟨[], fun _ => [], fun _ => none, fun _ => none⟩
def law18_first_O (n : Nat) : FuncId → List FSpec := asc [(9, ⟨sched_Order_ins, sched_Order_outs, sched_Order n⟩), (13, ⟨sched_Needs_ins, sched_Needs_outs, sched_Needs n⟩), (21, ⟨ref_SameTexts_ins, ref_SameTexts_outs, ref_SameTexts n⟩)]
def b7 : Code := bodyOf Tryd.f7
theorem law18_first_ok {S : Nat → Addr} (ok : CfgOk P CC S) : ∀ n, SpecOk P CC S 7 ⟨law18_first_ins, law18_first_outs, law18_first n⟩ :=
  fn_all ok (O := law18_first_O) (H := law18_first_H) (fn := Tryd.f7) (body := b7) (by kernel_rfl) (by kernel_rfl) (by kernel_rfl) (by decide) (by kernel_rfl)
    (fun x => by kernel_rfl) (fun n => by
      rintro ⟨⟨⟩, ⟨⟩⟩
      kernel_rfl)
    (fun n => obl_of (by kernel_rfl) (by kernel_rfl) (lz) (cn (cn (cn (cn (cz) (by kernel_rfl)) (by kernel_rfl)) (by kernel_rfl)) (by kernel_rfl)))
    (fun n ih => asc_cons (sched_Order_ok ok n) <| asc_cons (sched_Needs_ok ok n) <| asc_cons (ref_SameTexts_ok ok n) <| asc_nil)
/-! ### pendulum/pendulumworld.Number -/
abbrev world_Number_ins : Sh := ⟨[(.one (.val (.int .i64))), (.one (.val (.int .i64)))], []⟩
abbrev world_Number_outs : List Sh := [⟨[(.one (.val (.int .i64)))], []⟩]
def world_Number : Nat → world_Number_ins.T → Option (OutsT world_Number_outs)
  | 0, _ => none
  | n + 1, ((x1, x2, _), _) =>
    if x2 = 0 then
      none
    else
      if decide (Int.tmod x1 x2 < 0) then
        let v3 : Int := IntKind.i64.wrap ((Int.tmod x1 x2) + x2)
        some ((v3, ()), ())
      else
        some ((Int.tmod x1 x2, ()), ())
def world_Number_H (n : Nat) : Hints := ⟨[], fun _ => [], fun _ => none, fun _ => none⟩
def world_Number_O (n : Nat) : FuncId → List FSpec := asc []
def b11 : Code := bodyOf Tryd.f11
theorem world_Number_ok {S : Nat → Addr} (ok : CfgOk P CC S) : ∀ n, SpecOk P CC S 11 ⟨world_Number_ins, world_Number_outs, world_Number n⟩ :=
  fn_all ok (O := world_Number_O) (H := world_Number_H) (fn := Tryd.f11) (body := b11) (by kernel_rfl) (by kernel_rfl) (by kernel_rfl) (by decide) (by kernel_rfl)
    (fun x => by kernel_rfl) (fun n => by
      rintro ⟨⟨x1, x2, ⟨⟩⟩, ⟨⟩⟩
      kernel_rfl)
    (fun n => obl_of (by kernel_rfl) (by kernel_rfl) (lz) (cn (cn (cn (cn (cn (cz) (by kernel_rfl)) (by kernel_rfl)) (by kernel_rfl)) (by kernel_rfl)) (by kernel_rfl)))
    (fun n ih => asc_nil)
/-! ### strconv.Itoa (by hand) -/
abbrev strconv_Itoa_ins : Sh := ⟨[(.one (.val (.int .i64)))], []⟩
abbrev strconv_Itoa_outs : List Sh := [⟨[(.one (.val .str))], []⟩]
def strconv_Itoa : Nat → strconv_Itoa_ins.T → Option (OutsT strconv_Itoa_outs) := fun _ => itoaSem
theorem strconv_Itoa_ok {S : Nat → Addr} (ok : CfgOk P CC S) : ∀ n, SpecOk P CC S 31 ⟨strconv_Itoa_ins, strconv_Itoa_outs, strconv_Itoa n⟩ := fun n => itoa_spec ⟨Tryd.f31, by kernel_rfl, by kernel_rfl, by kernel_rfl⟩ (.head _) (by kernel_rfl) Tryd.strconv_Itoa
/-! ### pendulum/pendulumworld.Num -/
abbrev world_Num_ins : Sh := ⟨[(.one (.val (.int .i64)))], []⟩
abbrev world_Num_outs : List Sh := [⟨[(.one (.val .str))], []⟩]
def world_Num : Nat → world_Num_ins.T → Option (OutsT world_Num_outs)
  | 0, _ => none
  | n + 1, ((x1, _), _) =>
    match strconv_Itoa n ((x1, ()), ()) with
    | some ((x2, _), _) => (
      some ((x2, ()), ()))
    | none => none
def world_Num_H (n : Nat) : Hints := ⟨[], fun _ => [], fun _ => none, fun _ => none⟩
def world_Num_O (n : Nat) : FuncId → List FSpec := asc [(31, ⟨strconv_Itoa_ins, strconv_Itoa_outs, strconv_Itoa n⟩)]
def b15 : Code := bodyOf Tryd.f15
theorem world_Num_ok {S : Nat → Addr} (ok : CfgOk P CC S) : ∀ n, SpecOk P CC S 15 ⟨world_Num_ins, world_Num_outs, world_Num n⟩ :=
  fn_all ok (O := world_Num_O) (H := world_Num_H) (fn := Tryd.f15) (body := b15) (by kernel_rfl) (by kernel_rfl) (by kernel_rfl) (by decide) (by kernel_rfl)
    (fun x => by kernel_rfl) (fun n => by
      rintro ⟨⟨x1, ⟨⟩⟩, ⟨⟩⟩
      kernel_rfl)
    (fun n => obl_of (by kernel_rfl) (by kernel_rfl) (lz) (cn (cn (cz) (by kernel_rfl)) (by kernel_rfl)))
    (fun n ih => asc_cons (strconv_Itoa_ok ok n) <| asc_nil)
/-! ### pendulum/pendulumref.None -/
abbrev ref_None_ins : Sh := ⟨[], []⟩
abbrev ref_None_outs : List Sh := [⟨[(.agg [(.val (.int .i64)), (.val .bool), (.val .bool), (.val (.int .i64)), (.val (.int .i64))])], []⟩]
def ref_None : Nat → ref_None_ins.T → Option (OutsT ref_None_outs)
  | 0, _ => none
  | n + 1, (_, _) =>
    some (((0, false, false, 0, 0, ()), ()), ())
def ref_None_H (n : Nat) : Hints := ⟨[], fun _ => [], fun _ => none, fun _ => none⟩
def ref_None_O (n : Nat) : FuncId → List FSpec := asc []
def b33 : Code := bodyOf Tryd.f33
theorem ref_None_ok {S : Nat → Addr} (ok : CfgOk P CC S) : ∀ n, SpecOk P CC S 33 ⟨ref_None_ins, ref_None_outs, ref_None n⟩ :=
  fn_all ok (O := ref_None_O) (H := ref_None_H) (fn := Tryd.f33) (body := b33) (by kernel_rfl) (by kernel_rfl) (by kernel_rfl) (by decide) (by kernel_rfl)
    (fun x => by kernel_rfl) (fun n => by
      rintro ⟨⟨⟩, ⟨⟩⟩
      kernel_rfl)
    (fun n => obl_of (by kernel_rfl) (by kernel_rfl) (lz) (cn (cn (cz) (by kernel_rfl)) (by kernel_rfl)))
    (fun n ih => asc_nil)
/-! ### pendulum/pendulumref.Placed -/
abbrev ref_Placed_ins : Sh := ⟨[(.one (.val (.int .i64))), (.one (.val (.int .i64)))], []⟩
abbrev ref_Placed_outs : List Sh := [⟨[(.agg [(.val (.int .i64)), (.val .bool), (.val .bool), (.val (.int .i64)), (.val (.int .i64))])], []⟩]
def ref_Placed : Nat → ref_Placed_ins.T → Option (OutsT ref_Placed_outs)
  | 0, _ => none
  | n + 1, ((x1, x2, _), _) =>
    if x1 == 0 then
      match ref_None n ((), ()) with
      | some (((x3, x4, x5, x6, x7, _), _), _) => (
        some (((x3, x4, x5, x6, x7, ()), ()), ()))
      | none => none
    else
      some (((x1, true, false, x2, 0, ()), ()), ())
def ref_Placed_H (n : Nat) : Hints := ⟨[], fun _ => [], fun _ => none, fun _ => none⟩
def ref_Placed_O (n : Nat) : FuncId → List FSpec := asc [(33, ⟨ref_None_ins, ref_None_outs, ref_None n⟩)]
def b17 : Code := bodyOf Tryd.f17
theorem ref_Placed_ok {S : Nat → Addr} (ok : CfgOk P CC S) : ∀ n, SpecOk P CC S 17 ⟨ref_Placed_ins, ref_Placed_outs, ref_Placed n⟩ :=
  fn_all ok (O := ref_Placed_O) (H := ref_Placed_H) (fn := Tryd.f17) (body := b17) (by kernel_rfl) (by kernel_rfl) (by kernel_rfl) (by decide) (by kernel_rfl)
    (fun x => by kernel_rfl) (fun n => by
      rintro ⟨⟨x1, x2, ⟨⟩⟩, ⟨⟩⟩
      kernel_rfl)
    (fun n => obl_of (by kernel_rfl) (by kernel_rfl) (lz) (cn (cn (cn (cn (cn (cz) (by kernel_rfl)) (by kernel_rfl)) (by kernel_rfl)) (by kernel_rfl)) (by kernel_rfl)))
    (fun n ih => asc_cons (ref_None_ok ok n) <| asc_nil)
/-! ### pendulum/pendulumsee.sentinels -/
abbrev pendulumsee_sentinels_ins : Sh := ⟨[], []⟩
abbrev pendulumsee_sentinels_outs : List Sh := [⟨[(.one (.arr 0))], [(.arr 27 .err)]⟩]
def pendulumsee_sentinels : Nat → pendulumsee_sentinels_ins.T → Option (OutsT pendulumsee_sentinels_outs)
  | 0, _ => none
  | n + 1, (_, _) =>
    some (((), ()), ([ErrV.sent 101, ErrV.sent 102, ErrV.sent 103, ErrV.sent 104, ErrV.sent 105, ErrV.sent 106, ErrV.sent 107, ErrV.sent 108, ErrV.sent 109, ErrV.sent 110, ErrV.sent 111, ErrV.sent 112, ErrV.sent 113, ErrV.sent 114, ErrV.sent 115, ErrV.sent 116, ErrV.sent 117, ErrV.sent 118, ErrV.sent 119, ErrV.sent 120, ErrV.sent 121], ()))
def pendulumsee_sentinels_H (n : Nat) : Hints := ⟨[], fun _ => [], fun _ => none, fun _ => none⟩
def pendulumsee_sentinels_O (n : Nat) : FuncId → List FSpec := asc []
def b53 : Code := bodyOf Tryd.f53
theorem pendulumsee_sentinels_ok {S : Nat → Addr} (ok : CfgOk P CC S) : ∀ n, SpecOk P CC S 53 ⟨pendulumsee_sentinels_ins, pendulumsee_sentinels_outs, pendulumsee_sentinels n⟩ :=
  fn_all ok (O := pendulumsee_sentinels_O) (H := pendulumsee_sentinels_H) (fn := Tryd.f53) (body := b53) (by kernel_rfl) (by kernel_rfl) (by kernel_rfl) (by decide) (by kernel_rfl)
    (fun x => by kernel_rfl) (fun n => by
      rintro ⟨⟨⟩, ⟨⟩⟩
      kernel_rfl)
    (fun n => obl_of (by kernel_rfl) (by kernel_rfl) (lz) (cn (cn (cz) (by kernel_rfl)) (by kernel_rfl)))
    (fun n ih => asc_nil)
/-! ### pendulum/pendulumsee.Alike -/
abbrev pendulumsee_Alike_ins : Sh := ⟨[(.one (.val .err)), (.one (.val .err))], []⟩
abbrev pendulumsee_Alike_outs : List Sh := [⟨[(.one (.val .bool))], []⟩]
def pendulumsee_Alike : Nat → pendulumsee_Alike_ins.T → Option (OutsT pendulumsee_Alike_outs)
  | 0, _ => none
  | n + 1, ((x1, x2, _), _) =>
    if errNil x1 then
      if errNil x1 then
        some ((errNil x2, ()), ())
      else
        some ((false, ()), ())
    else
      if errNil x2 then
        if errNil x1 then
          some ((errNil x2, ()), ())
        else
          some ((false, ()), ())
      else
        match errEq x1 x2 with
        | some b3 => (
          some ((b3, ()), ()))
        | none => none
def pendulumsee_Alike_H (n : Nat) : Hints := ⟨[], fun _ => [], fun _ => none, fun _ => none⟩
def pendulumsee_Alike_O (n : Nat) : FuncId → List FSpec := asc []
def b54 : Code := bodyOf Tryd.f54
theorem pendulumsee_Alike_ok {S : Nat → Addr} (ok : CfgOk P CC S) : ∀ n, SpecOk P CC S 54 ⟨pendulumsee_Alike_ins, pendulumsee_Alike_outs, pendulumsee_Alike n⟩ :=
  fn_all ok (O := pendulumsee_Alike_O) (H := pendulumsee_Alike_H) (fn := Tryd.f54) (body := b54) (by kernel_rfl) (by kernel_rfl) (by kernel_rfl) (by decide) (by kernel_rfl)
    (fun x => by kernel_rfl) (fun n => by
      rintro ⟨⟨x1, x2, ⟨⟩⟩, ⟨⟩⟩
      kernel_rfl)
    (fun n => obl_of (by kernel_rfl) (by kernel_rfl) (lz) (cn (cn (cn (cn (cn (cz) (by kernel_rfl)) (by kernel_rfl)) (by kernel_rfl)) (by kernel_rfl)) (by kernel_rfl)))
    (fun n ih => asc_nil)
/-! ### pendulum/pendulumsee.sentinel -/
abbrev pendulumsee_sentinel_ins : Sh := ⟨[(.one (.val .err))], []⟩
abbrev pendulumsee_sentinel_outs : List Sh := [⟨[(.one (.val (.int .i64)))], []⟩]
abbrev pendulumsee_sentinel_l3_h : Sh := ⟨[(.one (.val .err)), (.one (.arr 0)), (.one (.val (.int .i64)))], [(.arr 27 .err)]⟩
abbrev pendulumsee_sentinel_l3_o : List Out := [⟨(.exit 0), [], ⟨[], []⟩⟩, ⟨.ret, [2], ⟨[(.one (.val (.int .i64)))], []⟩⟩]
def pendulumsee_sentinel_l3 (n : Nat) : Nat → pendulumsee_sentinel_l3_h.T → Option (OutT pendulumsee_sentinel_l3_o)
  | 0, _ => none
  | k + 1, ((x1, _, x2, _), (l3, _)) =>
    if decide (x2 < (l3.length : Int)) then
      if 0 ≤ x2 ∧ x2 < (l3.length : Int) then (
        match pendulumsee_Alike n ((x1, rdT (.err : Ty) l3 x2, ()), ()) with
        | some ((x4, _), _) => (
          if x4 then
            let v5 : Int := IntKind.i64.wrap (101 + x2)
            some (.inr (.inl ((v5, ()), ())))
          else
            let v6 : Int := IntKind.i64.wrap (x2 + 1)
            pendulumsee_sentinel_l3 n k ((x1, (), v6, ()), (l3, ())))
        | none => none) else none
    else
      some (.inl ((), ()))
def pendulumsee_sentinel : Nat → pendulumsee_sentinel_ins.T → Option (OutsT pendulumsee_sentinel_outs)
  | 0, _ => none
  | n + 1, ((x1, _), _) =>
    match pendulumsee_sentinels n ((), ()) with
    | some ((_, _), (l2, _)) => (
      match pendulumsee_sentinel_l3 n n ((x1, (), 0, ()), (l2, ())) with
      | some (.inl (_, _)) => (
        some (((-1), ()), ()))
      | some (.inr (.inl ((x3, _), _))) => (
        some ((x3, ()), ()))
      | some (.inr (.inr (_))) => none
      | none => none)
    | none => none
def pendulumsee_sentinel_H (n : Nat) : Hints := ⟨[], fun _ => [], fun k => match k with | 3 => some ⟨[0, 3, 4], pendulumsee_sentinel_l3_h, pendulumsee_sentinel_l3_o, pendulumsee_sentinel_l3 n⟩ | _ => none, fun _ => none⟩
def pendulumsee_sentinel_O (n : Nat) : FuncId → List FSpec := asc [(53, ⟨pendulumsee_sentinels_ins, pendulumsee_sentinels_outs, pendulumsee_sentinels n⟩), (54, ⟨pendulumsee_Alike_ins, pendulumsee_Alike_outs, pendulumsee_Alike n⟩)]
def b39 : Code := bodyOf Tryd.f39
theorem pendulumsee_sentinel_l3_k0 (n : Nat) : LoopOk P CC (pendulumsee_sentinel_O n) n 0 20 (pendulumsee_sentinel_H n) ⟨[0, 3, 4], pendulumsee_sentinel_l3_h, pendulumsee_sentinel_l3_o, pendulumsee_sentinel_l3 n⟩ ((loopsOf b39).getD 0 .skip) := by
  refine ⟨fun _ => by kernel_rfl, ?_⟩
  rintro k ⟨⟨x1, ⟨⟩, x2, ⟨⟩⟩, ⟨x3, ⟨⟩⟩⟩
  kernel_rfl
theorem pendulumsee_sentinel_ok {S : Nat → Addr} (ok : CfgOk P CC S) : ∀ n, SpecOk P CC S 39 ⟨pendulumsee_sentinel_ins, pendulumsee_sentinel_outs, pendulumsee_sentinel n⟩ :=
  fn_all ok (O := pendulumsee_sentinel_O) (H := pendulumsee_sentinel_H) (fn := Tryd.f39) (body := b39) (by kernel_rfl) (by kernel_rfl) (by kernel_rfl) (by decide) (by kernel_rfl)
    (fun x => by kernel_rfl) (fun n => by
      rintro ⟨⟨x1, ⟨⟩⟩, ⟨⟩⟩
      kernel_rfl)
    (fun n => obl_of (by kernel_rfl) (by kernel_rfl) (ls (lz) (by kernel_rfl) (pendulumsee_sentinel_l3_k0 n)) (cn (cn (cn (cn (cn (cn (cn (cn (cn (cn (cz) (by kernel_rfl)) (by kernel_rfl)) (by kernel_rfl)) (by kernel_rfl)) (by kernel_rfl)) (by kernel_rfl)) (by kernel_rfl)) (by kernel_rfl)) (by kernel_rfl)) (by kernel_rfl)))
    (fun n ih => asc_cons (pendulumsee_sentinels_ok ok n) <| asc_cons (pendulumsee_Alike_ok ok n) <| asc_nil)
/-! ### pendulum/pendulumref.Bare -/
abbrev ref_Bare_ins : Sh := ⟨[(.one (.val (.int .i64)))], []⟩
abbrev ref_Bare_outs : List Sh := [⟨[(.agg [(.val (.int .i64)), (.val .bool), (.val .bool), (.val (.int .i64)), (.val (.int .i64))])], []⟩]
def ref_Bare : Nat → ref_Bare_ins.T → Option (OutsT ref_Bare_outs)
  | 0, _ => none
  | n + 1, ((x1, _), _) =>
    some (((x1, false, false, 0, 0, ()), ()), ())
def ref_Bare_H (n : Nat) : Hints := ⟨[], fun _ => [], fun _ => none, fun _ => none⟩
def ref_Bare_O (n : Nat) : FuncId → List FSpec := asc []
def b38 : Code := bodyOf Tryd.f38
theorem ref_Bare_ok {S : Nat → Addr} (ok : CfgOk P CC S) : ∀ n, SpecOk P CC S 38 ⟨ref_Bare_ins, ref_Bare_outs, ref_Bare n⟩ :=
  fn_all ok (O := ref_Bare_O) (H := ref_Bare_H) (fn := Tryd.f38) (body := b38) (by kernel_rfl) (by kernel_rfl) (by kernel_rfl) (by decide) (by kernel_rfl)
    (fun x => by kernel_rfl) (fun n => by
      rintro ⟨⟨x1, ⟨⟩⟩, ⟨⟩⟩
      kernel_rfl)
    (fun n => obl_of (by kernel_rfl) (by kernel_rfl) (lz) (cn (cn (cz) (by kernel_rfl)) (by kernel_rfl)))
    (fun n ih => asc_nil)
/-! ### pendulum/pendulumref.Around -/
abbrev ref_Around_ins : Sh := ⟨[(.agg [(.val (.int .i64)), (.val .bool), (.val .bool), (.val (.int .i64)), (.val (.int .i64))]), (.one (.val (.int .i64)))], []⟩
abbrev ref_Around_outs : List Sh := [⟨[(.agg [(.val (.int .i64)), (.val .bool), (.val .bool), (.val (.int .i64)), (.val (.int .i64))])], []⟩]
def ref_Around : Nat → ref_Around_ins.T → Option (OutsT ref_Around_outs)
  | 0, _ => none
  | n + 1, (((x1, x2, x3, x4, x5, _), x6, _), _) =>
    if x1 == 0 then
      match ref_None n ((), ()) with
      | some (((x7, x8, x9, x10, x11, _), _), _) => (
        some (((x7, x8, x9, x10, x11, ()), ()), ()))
      | none => none
    else
      if x2 then
        some (((x1, true, true, x6, x4, ()), ()), ())
      else
        some (((x1, true, false, x6, 0, ()), ()), ())
def ref_Around_H (n : Nat) : Hints := ⟨[], fun _ => [], fun _ => none, fun _ => none⟩
def ref_Around_O (n : Nat) : FuncId → List FSpec := asc [(33, ⟨ref_None_ins, ref_None_outs, ref_None n⟩)]
def b40 : Code := bodyOf Tryd.f40
theorem ref_Around_ok {S : Nat → Addr} (ok : CfgOk P CC S) : ∀ n, SpecOk P CC S 40 ⟨ref_Around_ins, ref_Around_outs, ref_Around n⟩ :=
  fn_all ok (O := ref_Around_O) (H := ref_Around_H) (fn := Tryd.f40) (body := b40) (by kernel_rfl) (by kernel_rfl) (by kernel_rfl) (by decide) (by kernel_rfl)
    (fun x => by kernel_rfl) (fun n => by
      rintro ⟨⟨⟨x1, x2, x3, x4, x5, ⟨⟩⟩, x6, ⟨⟩⟩, ⟨⟩⟩
      kernel_rfl)
    (fun n => obl_of (by kernel_rfl) (by kernel_rfl) (lz) (cn (cn (cn (cn (cn (cn (cn (cn (cz) (by kernel_rfl)) (by kernel_rfl)) (by kernel_rfl)) (by kernel_rfl)) (by kernel_rfl)) (by kernel_rfl)) (by kernel_rfl)) (by kernel_rfl)))
    (fun n ih => asc_cons (ref_None_ok ok n) <| asc_nil)
/-! ### pendulum/pendulumsee.Fault -/
abbrev pendulumsee_Fault_ins : Sh := ⟨[(.one (.val .err))], []⟩
abbrev pendulumsee_Fault_outs : List Sh := [⟨[(.agg [(.val (.int .i64)), (.val .bool), (.val .bool), (.val (.int .i64)), (.val (.int .i64))])], []⟩]
def pendulumsee_Fault : Nat → pendulumsee_Fault_ins.T → Option (OutsT pendulumsee_Fault_outs)
  | 0, _ => none
  | n + 1, ((x1, _), _) =>
    if errNil x1 then
      match ref_None n ((), ()) with
      | some (((x2, x3, x4, x5, x6, _), _), _) => (
        some (((x2, x3, x4, x5, x6, ()), ()), ()))
      | none => none
    else
      if !(errIsAt x1) then
        match pendulumsee_sentinel n ((x1, ()), ()) with
        | some ((x7, _), _) => (
          match ref_Bare n ((x7, ()), ()) with
          | some (((x8, x9, x10, x11, x12, _), _), _) => (
            some (((x8, x9, x10, x11, x12, ()), ()), ()))
          | none => none)
        | none => none
      else
        if Option.isNone (errAt x1) then
          match ref_Bare n (((-1), ()), ()) with
          | some (((x14, x15, x16, x17, x18, _), _), _) => (
            some (((x14, x15, x16, x17, x18, ()), ()), ()))
          | none => none
        else
          match errAt x1 with
          | some x13 => (
            if errNil x13.2 then
              match ref_Bare n (((-1), ()), ()) with
              | some (((x19, x20, x21, x22, x23, _), _), _) => (
                some (((x19, x20, x21, x22, x23, ()), ()), ()))
              | none => none
            else
              match errAt x1 with
              | some x24 => (
                if errIsAt x24.2 then
                  if Option.isNone (errAt x24.2) then
                    match ref_Bare n (((-1), ()), ()) with
                    | some (((x26, x27, x28, x29, x30, _), _), _) => (
                      some (((x26, x27, x28, x29, x30, ()), ()), ()))
                    | none => none
                  else
                    match errAt x24.2 with
                    | some x25 => (
                      if errNil x25.2 then
                        match ref_Bare n (((-1), ()), ()) with
                        | some (((x31, x32, x33, x34, x35, _), _), _) => (
                          some (((x31, x32, x33, x34, x35, ()), ()), ()))
                        | none => none
                      else
                        match errAt x24.2 with
                        | some x36 => (
                          match pendulumsee_sentinel n ((x36.2, ()), ()) with
                          | some ((x37, _), _) => (
                            match errAt x24.2 with
                            | some x38 => (
                              match ref_Placed n ((x37, x38.1, ()), ()) with
                              | some (((x39, x40, x41, x42, x43, _), _), _) => (
                                match errAt x1 with
                                | some x44 => (
                                  match ref_Around n (((x39, x40, x41, x42, x43, ()), x44.1, ()), ()) with
                                  | some (((x45, x46, x47, x48, x49, _), _), _) => (
                                    some (((x45, x46, x47, x48, x49, ()), ()), ()))
                                  | none => none)
                                | none => none)
                              | none => none)
                            | none => none)
                          | none => none)
                        | none => none)
                    | none => none
                else
                  match errAt x1 with
                  | some x50 => (
                    match pendulumsee_sentinel n ((x50.2, ()), ()) with
                    | some ((x51, _), _) => (
                      match errAt x1 with
                      | some x52 => (
                        match ref_Placed n ((x51, x52.1, ()), ()) with
                        | some (((x53, x54, x55, x56, x57, _), _), _) => (
                          some (((x53, x54, x55, x56, x57, ()), ()), ()))
                        | none => none)
                      | none => none)
                    | none => none)
                  | none => none)
              | none => none)
          | none => none
def pendulumsee_Fault_H (n : Nat) : Hints := ⟨[], fun _ => [], fun _ => none, fun _ => none⟩
def pendulumsee_Fault_O (n : Nat) : FuncId → List FSpec := asc [(17, ⟨ref_Placed_ins, ref_Placed_outs, ref_Placed n⟩), (33, ⟨ref_None_ins, ref_None_outs, ref_None n⟩), (38, ⟨ref_Bare_ins, ref_Bare_outs, ref_Bare n⟩), (39, ⟨pendulumsee_sentinel_ins, pendulumsee_sentinel_outs, pendulumsee_sentinel n⟩), (40, ⟨ref_Around_ins, ref_Around_outs, ref_Around n⟩)]
def b32 : Code := bodyOf Tryd.f32
theorem pendulumsee_Fault_ok {S : Nat → Addr} (ok : CfgOk P CC S) : ∀ n, SpecOk P CC S 32 ⟨pendulumsee_Fault_ins, pendulumsee_Fault_outs, pendulumsee_Fault n⟩ :=
  fn_all ok (O := pendulumsee_Fault_O) (H := pendulumsee_Fault_H) (fn := Tryd.f32) (body := b32) (by kernel_rfl) (by kernel_rfl) (by kernel_rfl) (by decide) (by kernel_rfl)
    (fun x => by kernel_rfl) (fun n => by
      rintro ⟨⟨x1, ⟨⟩⟩, ⟨⟩⟩
      kernel_rfl)
    (fun n => obl_of (by kernel_rfl) (by kernel_rfl) (lz) (cn (cn (cn (cn (cn (cn (cn (cn (cn (cn (cn (cn (cn (cn (cn (cn (cn (cn (cn (cz) (by kernel_rfl)) (by kernel_rfl)) (by kernel_rfl)) (by kernel_rfl)) (by kernel_rfl)) (by kernel_rfl)) (by kernel_rfl)) (by kernel_rfl)) (by kernel_rfl)) (by kernel_rfl)) (by kernel_rfl)) (by kernel_rfl)) (by kernel_rfl)) (by kernel_rfl)) (by kernel_rfl)) (by kernel_rfl)) (by kernel_rfl)) (by kernel_rfl)) (by kernel_rfl)))
    (fun n ih => asc_cons (ref_Placed_ok ok n) <| asc_cons (ref_None_ok ok n) <| asc_cons (ref_Bare_ok ok n) <| asc_cons (pendulumsee_sentinel_ok ok n) <| asc_cons (ref_Around_ok ok n) <| asc_nil)
/-! ### pendulum/pendulumref.SameFault -/
abbrev ref_SameFault_ins : Sh := ⟨[(.agg [(.val (.int .i64)), (.val .bool), (.val .bool), (.val (.int .i64)), (.val (.int .i64))]), (.agg [(.val (.int .i64)), (.val .bool), (.val .bool), (.val (.int .i64)), (.val (.int .i64))])], []⟩
abbrev ref_SameFault_outs : List Sh := [⟨[(.one (.val .bool))], []⟩]
def ref_SameFault : Nat → ref_SameFault_ins.T → Option (OutsT ref_SameFault_outs)
  | 0, _ => none
  | n + 1, (((x1, x2, x3, x4, x5, _), (x6, x7, x8, x9, x10, _), _), _) =>
    if x1 == x6 then
      if x2 == x7 then
        if x4 == x9 then
          if x3 == x8 then
            some ((x5 == x10, ()), ())
          else
            some ((false, ()), ())
        else
          some ((false, ()), ())
      else
        some ((false, ()), ())
    else
      some ((false, ()), ())
def ref_SameFault_H (n : Nat) : Hints := ⟨[], fun _ => [], fun _ => none, fun _ => none⟩
def ref_SameFault_O (n : Nat) : FuncId → List FSpec := asc []
def b18 : Code := bodyOf Tryd.f18
theorem ref_SameFault_ok {S : Nat → Addr} (ok : CfgOk P CC S) : ∀ n, SpecOk P CC S 18 ⟨ref_SameFault_ins, ref_SameFault_outs, ref_SameFault n⟩ :=
  fn_all ok (O := ref_SameFault_O) (H := ref_SameFault_H) (fn := Tryd.f18) (body := b18) (by kernel_rfl) (by kernel_rfl) (by kernel_rfl) (by decide) (by kernel_rfl)
    (fun x => by kernel_rfl) (fun n => by
      rintro ⟨⟨⟨x1, x2, x3, x4, x5, ⟨⟩⟩, ⟨x6, x7, x8, x9, x10, ⟨⟩⟩, ⟨⟩⟩, ⟨⟩⟩
      kernel_rfl)
    (fun n => obl_of (by kernel_rfl) (by kernel_rfl) (lz) (cn (cn (cz) (by kernel_rfl)) (by kernel_rfl)))
    (fun n ih => asc_nil)
/-! ### pendulum/pendulumsee.Same -/
abbrev pendulumsee_Same_ins : Sh := ⟨[(.one (.val .err)), (.agg [(.val (.int .i64)), (.val .bool), (.val .bool), (.val (.int .i64)), (.val (.int .i64))])], []⟩
abbrev pendulumsee_Same_outs : List Sh := [⟨[(.one (.val .bool))], []⟩]
def pendulumsee_Same : Nat → pendulumsee_Same_ins.T → Option (OutsT pendulumsee_Same_outs)
  | 0, _ => none
  | n + 1, ((x1, (x2, x3, x4, x5, x6, _), _), _) =>
    match pendulumsee_Fault n ((x1, ()), ()) with
    | some (((x7, x8, x9, x10, x11, _), _), _) => (
      match ref_SameFault n (((x7, x8, x9, x10, x11, ()), (x2, x3, x4, x5, x6, ()), ()), ()) with
      | some ((x12, _), _) => (
        some ((x12, ()), ()))
      | none => none)
    | none => none
def pendulumsee_Same_H (n : Nat) : Hints := ⟨[], fun _ => [], fun _ => none, fun _ => none⟩
def pendulumsee_Same_O (n : Nat) : FuncId → List FSpec := asc [(18, ⟨ref_SameFault_ins, ref_SameFault_outs, ref_SameFault n⟩), (32, ⟨pendulumsee_Fault_ins, pendulumsee_Fault_outs, pendulumsee_Fault n⟩)]
def b16 : Code := bodyOf Tryd.f16
theorem pendulumsee_Same_ok {S : Nat → Addr} (ok : CfgOk P CC S) : ∀ n, SpecOk P CC S 16 ⟨pendulumsee_Same_ins, pendulumsee_Same_outs, pendulumsee_Same n⟩ :=
  fn_all ok (O := pendulumsee_Same_O) (H := pendulumsee_Same_H) (fn := Tryd.f16) (body := b16) (by kernel_rfl) (by kernel_rfl) (by kernel_rfl) (by decide) (by kernel_rfl)
    (fun x => by kernel_rfl) (fun n => by
      rintro ⟨⟨x1, ⟨x2, x3, x4, x5, x6, ⟨⟩⟩, ⟨⟩⟩, ⟨⟩⟩
      kernel_rfl)
    (fun n => obl_of (by kernel_rfl) (by kernel_rfl) (lz) (cn (cn (cz) (by kernel_rfl)) (by kernel_rfl)))
    (fun n ih => asc_cons (ref_SameFault_ok ok n) <| asc_cons (pendulumsee_Fault_ok ok n) <| asc_nil)
/-! ### pendulum/pendulumlaw18.SchedChains -/
abbrev law18_SchedChains_ins : Sh := ⟨[(.one (.val (.int .i64))), (.one (.val (.int .i64))), (.one (.val .bool)), (.one (.val .bool))], []⟩
abbrev law18_SchedChains_outs : List Sh := [⟨[(.one (.val .bool))], []⟩]
abbrev law18_SchedChains_c21_h : Sh := ⟨[(.one (.val (.int .i64))), (.one (.val (.int .i64))), (.one (.val .bool)), (.one (.val .bool)), (.one (.val .bool)), (.one (.val (.int .i64))), (.one (.arr 0)), (.one (.arr 1)), (.one (.val (.int .i64))), (.one (.val (.int .i64))), (.one (.ptr 2 0))], [(.arr 38 ty0), (.arr 3 (.int .i64)), (.obj 38 [(.arr 3), (.val (.int .i64)), (.val .str), (.val (.int .i64)), (.arr 4), (.emp true), (.val .str), (.val .str), (.val .str)]), (.arr 9 .str), (.arr 43 ty7)]⟩
abbrev law18_SchedChains_c21_o : List Out := [⟨.normal, [0, 1, 2, 3, 9, 10, 11, 12, 13, 14, 15], ⟨[(.one (.val (.int .i64))), (.one (.val (.int .i64))), (.one (.val .bool)), (.one (.val .bool)), (.one (.val .bool)), (.one (.val (.int .i64))), (.one (.arr 0)), (.one (.arr 1)), (.one (.val (.int .i64))), (.one (.val (.int .i64))), (.one (.ptr 2 0))], [(.arr 38 ty0), (.arr 3 (.int .i64)), (.obj 38 [(.arr 3), (.val (.int .i64)), (.val .str), (.val (.int .i64)), (.arr 4), (.emp true), (.val .str), (.val .str), (.val .str)]), (.arr 9 .str), (.arr 43 ty7)]⟩⟩]
def law18_SchedChains_c21 (n : Nat) : law18_SchedChains_c21_h.T → Option (OutT law18_SchedChains_c21_o)
  | ((x1, x2, x3, x4, x5, x6, _, _, x7, x8, _, _), (l9, l10, (_, x11, x12, x13, _, _, x14, x15, x16, _), l17, l18, _)) =>
    if x8 == 0 then
      if 0 ≤ (0 : Int) ∧ (0 : Int) < (l18.length : Int) then (
        if x3 then
          let v19 : Int := IntKind.i64.wrap (x1 - 1)
          match world_Num n ((v19, ()), ()) with
          | some ((x20, _), _) => (
            if (⟨#[120]⟩ : ByteArray).size + x20.size ≤ 9223372036854775807 then (
              if 0 ≤ (0 : Int) ∧ (0 : Int) < ((List.set l18 (0 : Int).toNat ((⟨#[105, 110]⟩ : ByteArray), ((rdT ty7 l18 0).2))).length : Int) then (
                if x4 then
                  some (.inl ((x1, x2, x3, x4, x5, x6, (), (), x7, x8, (), ()), (l9, l10, ((), 23, x12, x13, (), (), x14, x15, x16, ()), l17, List.set (List.set l18 (0 : Int).toNat ((⟨#[105, 110]⟩ : ByteArray), ((rdT ty7 l18 0).2))) (0 : Int).toNat ((⟨#[120]⟩ : ByteArray) ++ x20, ((rdT ty7 (List.set l18 (0 : Int).toNat ((⟨#[105, 110]⟩ : ByteArray), ((rdT ty7 l18 0).2))) 0).2)), ())))
                else
                  some (.inl ((x1, x2, x3, x4, x5, x6, (), (), x7, x8, (), ()), (l9, l10, ((), x11, x12, x13, (), (), x14, x15, x16, ()), l17, List.set (List.set l18 (0 : Int).toNat ((⟨#[105, 110]⟩ : ByteArray), ((rdT ty7 l18 0).2))) (0 : Int).toNat ((⟨#[120]⟩ : ByteArray) ++ x20, ((rdT ty7 (List.set l18 (0 : Int).toNat ((⟨#[105, 110]⟩ : ByteArray), ((rdT ty7 l18 0).2))) 0).2)), ())))) else none) else none)
          | none => none
        else
          if x4 then
            some (.inl ((x1, x2, x3, x4, x5, x6, (), (), x7, x8, (), ()), (l9, l10, ((), 23, x12, x13, (), (), x14, x15, x16, ()), l17, List.set l18 (0 : Int).toNat ((⟨#[105, 110]⟩ : ByteArray), ((rdT ty7 l18 0).2)), ())))
          else
            some (.inl ((x1, x2, x3, x4, x5, x6, (), (), x7, x8, (), ()), (l9, l10, ((), x11, x12, x13, (), (), x14, x15, x16, ()), l17, List.set l18 (0 : Int).toNat ((⟨#[105, 110]⟩ : ByteArray), ((rdT ty7 l18 0).2)), ())))) else none
    else
      some (.inl ((x1, x2, x3, x4, x5, x6, (), (), x7, x8, (), ()), (l9, l10, ((), x11, x12, x13, (), (), x14, x15, x16, ()), l17, l18, ())))
abbrev law18_SchedChains_l10_h : Sh := ⟨[(.one (.val (.int .i64))), (.one (.val (.int .i64))), (.one (.val .bool)), (.one (.val .bool)), (.one (.val .bool)), (.one (.val (.int .i64))), (.one (.arr 0)), (.one (.arr 1)), (.one (.val (.int .i64)))], [(.arr 38 ty0), (.arr 3 (.int .i64))]⟩
abbrev law18_SchedChains_l10_o : List Out := [⟨(.exit 0), [0, 2, 3, 9, 11, 12], ⟨[(.one (.val (.int .i64))), (.one (.val .bool)), (.one (.val .bool)), (.one (.val .bool)), (.one (.arr 0)), (.one (.arr 1))], [(.arr 38 ty0), (.arr 3 (.int .i64))]⟩⟩]
def law18_SchedChains_l10 (n : Nat) : Nat → law18_SchedChains_l10_h.T → Option (OutT law18_SchedChains_l10_o)
  | 0, _ => none
  | k + 1, ((x1, x2, x3, x4, x5, x6, _, _, x7, _), (l8, l9, _)) =>
    if decide (x7 < x6) then
      let v10 : Int := IntKind.i64.wrap (x7 * x2)
      if x6 = 0 then
        none
      else
        let v11 : Int := IntKind.i64.wrap ((Int.tmod v10 x6) - 1)
        if decide (v11 ≥ x1) then
          let v33 : Int := IntKind.i64.wrap (x7 + 1)
          law18_SchedChains_l10 n k ((x1, x2, x3, x4, x5, x6, (), (), v33, ()), (l8, l9, ()))
        else
          match world_Num n ((v11, ()), ()) with
          | some ((x12, _), _) => (
            if (⟨#[120]⟩ : ByteArray).size + x12.size ≤ 9223372036854775807 then (
              let v13 : Int := IntKind.i64.wrap (v11 - 1)
              match world_Num n ((v13, ()), ()) with
              | some ((x14, _), _) => (
                if (⟨#[120]⟩ : ByteArray).size + x14.size ≤ 9223372036854775807 then (
                  match law18_SchedChains_c21 n ((x1, x2, x3, x4, x5, x6, (), (), x7, v11, (), ()), (l8, l9, ((), 4, (⟨#[]⟩ : ByteArray), 0, (), (), (⟨#[]⟩ : ByteArray), (⟨#[]⟩ : ByteArray), (⟨#[]⟩ : ByteArray), ()), [(⟨#[120]⟩ : ByteArray) ++ x12], [((⟨#[120]⟩ : ByteArray) ++ x14, (0, 0))], ())) with
                  | some (.inl ((x15, x16, x17, x18, x19, x20, _, _, x21, x22, _, _), (l23, l24, (_, x25, x26, x27, _, _, x28, x29, x30, _), l31, l32, _))) => (
                    if (l23.length + ([(l31, (x25, (x26, (x27, (l32, ([], (x28, (x29, x30))))))))] : List ty0.T).length) * 152 ≤ 140737488355328 then (
                      if (l24.length + ([x22] : List ((.int .i64) : Ty).T).length) * 8 ≤ 140737488355328 then (
                        let v34 : Int := IntKind.i64.wrap (x21 + 1)
                        law18_SchedChains_l10 n k ((x15, x16, x17, x18, x19, x20, (), (), v34, ()), (l23 ++ [(l31, (x25, (x26, (x27, (l32, ([], (x28, (x29, x30))))))))], l24 ++ [x22], ()))) else none) else none)
                  | some (.inr (_)) => none
                  | none => none) else none)
              | none => none) else none)
          | none => none
    else
      some (.inl ((x1, x3, x4, x5, (), (), ()), (l8, l9, ())))
abbrev law18_SchedChains_c26_h : Sh := ⟨[(.one (.val (.int .i64))), (.one (.val .bool)), (.one (.val .bool)), (.one (.val .bool)), (.one (.arr 0)), (.one (.arr 1)), (.one (.val .err))], [(.arr 3 (.int .i64)), (.arr 3 (.int .i64))]⟩
abbrev law18_SchedChains_c26_o : List Out := [⟨.normal, [0, 9, 12, 16, 17], ⟨[(.one (.val (.int .i64))), (.one (.val .bool)), (.one (.arr 0)), (.one (.arr 1)), (.one (.val .err))], [(.arr 3 (.int .i64)), (.arr 3 (.int .i64))]⟩⟩, ⟨.ret, [8], ⟨[(.one (.val .bool))], []⟩⟩]
def law18_SchedChains_c26 (n : Nat) : law18_SchedChains_c26_h.T → Option (OutT law18_SchedChains_c26_o)
  | ((x1, x2, x3, x4, _, _, x5, _), (l6, l7, _)) =>
    if x2 then
      if !x3 then
        if x4 then
          if (l7.length : Int) == 0 then
            match ref_Placed n ((113, 0, ()), ()) with
            | some (((x8, x9, x10, x11, x12, _), _), _) => (
              match pendulumsee_Same n ((x5, (x8, x9, x10, x11, x12, ()), ()), ()) with
              | some ((x13, _), _) => (
                some (.inr (.inl ((x13, ()), ()))))
              | none => none)
            | none => none
          else
            some (.inr (.inl ((false, ()), ())))
        else
          some (.inr (.inl ((false, ()), ())))
      else
        some (.inl ((x1, x4, (), (), x5, ()), (l6, l7, ())))
    else
      some (.inl ((x1, x4, (), (), x5, ()), (l6, l7, ())))
abbrev law18_SchedChains_l29_h : Sh := ⟨[(.one (.val (.int .i64))), (.one (.val .bool)), (.one (.arr 0)), (.one (.arr 1)), (.one (.val (.int .i64)))], [(.arr 3 (.int .i64)), (.arr 3 (.int .i64))]⟩
abbrev law18_SchedChains_l29_o : List Out := [⟨(.exit 2), [9], ⟨[(.one (.val .bool))], []⟩⟩, ⟨.ret, [8], ⟨[(.one (.val .bool))], []⟩⟩]
def law18_SchedChains_l29 (n : Nat) : Nat → law18_SchedChains_l29_h.T → Option (OutT law18_SchedChains_l29_o)
  | 0, _ => none
  | k + 1, ((x1, x2, _, _, x3, _), (l4, l5, _)) =>
    if decide (x3 < x1) then
      if 0 ≤ x3 ∧ x3 < (l5.length : Int) then (
        let v6 : Int := rdT ((.int .i64) : Ty) l5 x3
        if 0 ≤ v6 ∧ v6 < (l4.length : Int) then (
          let v7 : Int := rdT ((.int .i64) : Ty) l4 v6
          if v7 != x3 then
            some (.inr (.inl ((false, ()), ())))
          else
            let v8 : Int := IntKind.i64.wrap (x3 + 1)
            law18_SchedChains_l29 n k ((x1, x2, (), (), v8, ()), (l4, l5, ()))) else none) else none
    else
      some (.inl ((x2, ()), ()))
def law18_SchedChains : Nat → law18_SchedChains_ins.T → Option (OutsT law18_SchedChains_outs)
  | 0, _ => none
  | n + 1, ((x1, x2, x3, x4, _), _) =>
    match law18_first n ((), ()) with
    | some ((x5, _), _) => (
      if !x5 then
        some ((false, ()), ())
      else
        match world_Number n ((x1, 20, ()), ()) with
        | some ((x6, _), _) => (
          let v7 : Int := IntKind.i64.wrap (x6 + 2)
          match world_Number n ((x2, 4, ()), ()) with
          | some ((x8, _), _) => (
            if 0 ≤ x8 ∧ x8 < ([1, 3, 7, 11].length : Int) then (
              let v9 : Int := rdT ((.int .i64) : Ty) [1, 3, 7, 11] x8
              match law18_SchedChains_l10 n n ((v7, v9, x3, x4, x5, 23, (), (), 1, ()), ([], [], ())) with
              | some (.inl ((x10, x11, x12, x13, _, _, _), (l14, l15, _))) => (
                match sched_Order n (((), ()), (l14, ())) with
                | some ((((_, _), (x16, _), _), _), (l17, l18, _)) => (
                  match law18_SchedChains_c26 n ((x10, x11, x12, x13, (), (), x16, ()), (l15, l18, ())) with
                  | some (.inl ((x19, x20, _, _, x21, _), (l22, l23, _))) => (
                    if !(errNil x21) then
                      some ((false, ()), ())
                    else
                      if (l23.length : Int) != x19 then
                        some ((false, ()), ())
                      else
                        match law18_SchedChains_l29 n n ((x19, x20, (), (), 0, ()), (l22, l23, ())) with
                        | some (.inl ((x25, _), _)) => (
                          some ((x25, ()), ()))
                        | some (.inr (.inl ((x26, _), _))) => (
                          some ((x26, ()), ()))
                        | some (.inr (.inr (_))) => none
                        | none => none)
                  | some (.inr (.inl ((x24, _), _))) => (
                    some ((x24, ()), ()))
                  | some (.inr (.inr (_))) => none
                  | none => none)
                | none => none)
              | some (.inr (_)) => none
              | none => none) else none)
          | none => none)
        | none => none)
    | none => none
def law18_SchedChains_H (n : Nat) : Hints := ⟨[], fun _ => [], fun k => match k with | 10 => some ⟨[0, 1, 2, 3, 9, 10, 11, 12, 13], law18_SchedChains_l10_h, law18_SchedChains_l10_o, law18_SchedChains_l10 n⟩ | 29 => some ⟨[0, 9, 12, 16, 18], law18_SchedChains_l29_h, law18_SchedChains_l29_o, law18_SchedChains_l29 n⟩ | _ => none, fun k => match k with | 21 => some ⟨[0, 1, 2, 3, 9, 10, 11, 12, 13, 14, 15], law18_SchedChains_c21_h, law18_SchedChains_c21_o, fun n => law18_SchedChains_c21 n⟩ | 26 => some ⟨[0, 2, 3, 9, 12, 16, 17], law18_SchedChains_c26_h, law18_SchedChains_c26_o, fun n => law18_SchedChains_c26 n⟩ | _ => none⟩
def law18_SchedChains_O (n : Nat) : FuncId → List FSpec := asc [(7, ⟨law18_first_ins, law18_first_outs, law18_first n⟩), (9, ⟨sched_Order_ins, sched_Order_outs, sched_Order n⟩), (11, ⟨world_Number_ins, world_Number_outs, world_Number n⟩), (15, ⟨world_Num_ins, world_Num_outs, world_Num n⟩), (16, ⟨pendulumsee_Same_ins, pendulumsee_Same_outs, pendulumsee_Same n⟩), (17, ⟨ref_Placed_ins, ref_Placed_outs, ref_Placed n⟩)]
def b4 : Code := bodyOf Tryd.f4
theorem law18_SchedChains_l10_k0 (n : Nat) : LoopOk P CC (law18_SchedChains_O n) n 0 124 (law18_SchedChains_H n) ⟨[0, 1, 2, 3, 9, 10, 11, 12, 13], law18_SchedChains_l10_h, law18_SchedChains_l10_o, law18_SchedChains_l10 n⟩ ((loopsOf b4).getD 0 .skip) := by
  refine ⟨fun _ => by kernel_rfl, ?_⟩
  rintro k ⟨⟨x1, x2, x3, x4, x5, x6, ⟨⟩, ⟨⟩, x7, ⟨⟩⟩, ⟨x8, x9, ⟨⟩⟩⟩
  kernel_rfl
theorem law18_SchedChains_l29_k1 (n : Nat) : LoopOk P CC (law18_SchedChains_O n) n 0 124 (law18_SchedChains_H n) ⟨[0, 9, 12, 16, 18], law18_SchedChains_l29_h, law18_SchedChains_l29_o, law18_SchedChains_l29 n⟩ ((loopsOf b4).getD 1 .skip) := by
  refine ⟨fun _ => by kernel_rfl, ?_⟩
  rintro k ⟨⟨x1, x2, ⟨⟩, ⟨⟩, x3, ⟨⟩⟩, ⟨x4, x5, ⟨⟩⟩⟩
  kernel_rfl
theorem law18_SchedChains_c21_k19 (n : Nat) : CutOk P CC (law18_SchedChains_O n) n 0 124 (law18_SchedChains_H n) ⟨[0, 1, 2, 3, 9, 10, 11, 12, 13, 14, 15], law18_SchedChains_c21_h, law18_SchedChains_c21_o, fun n => law18_SchedChains_c21 n⟩ ((cutsOf b4).getD 19 (0, .skip)).2 := by
  rintro ⟨⟨x1, x2, x3, x4, x5, x6, ⟨⟩, ⟨⟩, x7, x8, ⟨⟩, ⟨⟩⟩, ⟨x9, x10, ⟨⟨⟩, x11, x12, x13, ⟨⟩, ⟨⟩, x14, x15, x16, ⟨⟩⟩, x17, x18, ⟨⟩⟩⟩
  kernel_rfl
theorem law18_SchedChains_c26_k27 (n : Nat) : CutOk P CC (law18_SchedChains_O n) n 0 124 (law18_SchedChains_H n) ⟨[0, 2, 3, 9, 12, 16, 17], law18_SchedChains_c26_h, law18_SchedChains_c26_o, fun n => law18_SchedChains_c26 n⟩ ((cutsOf b4).getD 27 (0, .skip)).2 := by
  rintro ⟨⟨x1, x2, x3, x4, ⟨⟩, ⟨⟩, x5, ⟨⟩⟩, ⟨x6, x7, ⟨⟩⟩⟩
  kernel_rfl
theorem law18_SchedChains_ok {S : Nat → Addr} (ok : CfgOk P CC S) : ∀ n, SpecOk P CC S 4 ⟨law18_SchedChains_ins, law18_SchedChains_outs, law18_SchedChains n⟩ :=
  fn_all ok (O := law18_SchedChains_O) (H := law18_SchedChains_H) (fn := Tryd.f4) (body := b4) (by kernel_rfl) (by kernel_rfl) (by kernel_rfl) (by decide) (by kernel_rfl)
    (fun x => by kernel_rfl) (fun n => by
      rintro ⟨⟨x1, x2, x3, x4, ⟨⟩⟩, ⟨⟩⟩
      kernel_rfl)
    (fun n => obl_of (by kernel_rfl) (by kernel_rfl) (ls (ls (lz) (by kernel_rfl) (law18_SchedChains_l10_k0 n)) (by kernel_rfl) (law18_SchedChains_l29_k1 n)) (cn (cn (cn (cn (cn (cn (cn (cn (cn (cn (cn (cn (cn (cs (cn (cn (cn (cn (cn (cn (cn (cs (cn (cn (cn (cn (cn (cn (cn (cn (cn (cn (cn (cn (cn (cn (cn (cn (cn (cn (cn (cz) (by kernel_rfl)) (by kernel_rfl)) (by kernel_rfl)) (by kernel_rfl)) (by kernel_rfl)) (by kernel_rfl)) (by kernel_rfl)) (by kernel_rfl)) (by kernel_rfl)) (by kernel_rfl)) (by kernel_rfl)) (by kernel_rfl)) (by kernel_rfl)) (by kernel_rfl)) (by kernel_rfl)) (by kernel_rfl)) (by kernel_rfl)) (by kernel_rfl)) (by kernel_rfl)) (by kernel_rfl) (law18_SchedChains_c21_k19 n)) (by kernel_rfl)) (by kernel_rfl)) (by kernel_rfl)) (by kernel_rfl)) (by kernel_rfl)) (by kernel_rfl)) (by kernel_rfl)) (by kernel_rfl) (law18_SchedChains_c26_k27 n)) (by kernel_rfl)) (by kernel_rfl)) (by kernel_rfl)) (by kernel_rfl)) (by kernel_rfl)) (by kernel_rfl)) (by kernel_rfl)) (by kernel_rfl)) (by kernel_rfl)) (by kernel_rfl)) (by kernel_rfl)) (by kernel_rfl)) (by kernel_rfl)))
    (fun n ih => asc_cons (law18_first_ok ok n) <| asc_cons (sched_Order_ok ok n) <| asc_cons (world_Number_ok ok n) <| asc_cons (world_Num_ok ok n) <| asc_cons (pendulumsee_Same_ok ok n) <| asc_cons (ref_Placed_ok ok n) <| asc_nil)
end
end Go.Proofs.YtjnaicfflolmdaaDoor.Cm

/- Printed by cmtext.py: the code as plain functions. -/
import Derived.Test.YtnajjhjbkanigaaDoorCmFo
import Derived.Test.YtnajjhjbkanigaaDoorShelf
import Derived.Test.YtnajjhjbkanigaaDoorCmFs
import Derived.Test.YtnajjhjbkanigaaDoorCmMp
import Derived.Test.YtnajjhjbkanigaaDoorCmMq
namespace Go.Proofs.YtnajjhjbkanigaaDoor.Cm
open Go
noncomputable section
set_option linter.unusedVariables false
set_option maxRecDepth 100000
abbrev P := Tryd.prog
abbrev CC : Cfg := ⟨181, 99, 101, [(101, 5), (102, 6), (103, 0), (104, 7), (105, 8), (106, 9), (107, 10), (108, 11), (109, 12), (110, 1), (111, 13), (112, 14), (113, 2), (114, 15), (115, 16), (116, 3), (117, 17), (118, 18), (119, 19), (120, 20), (121, 21)], [], [], [], [41]⟩
abbrev ty7 : Ty := (.pair .str .bool)
abbrev ty6 : Ty := (.slice 87 ty7)
abbrev ty5 : Ty := (.pair (.int .i64) ty6)
abbrev ty4 : Ty := (.pair .str ty5)
abbrev ty3 : Ty := (.pair (.int .i64) ty4)
abbrev ty2 : Ty := (.slice 36 ty3)
abbrev ty13 : Ty := (.slice 9 .str)
abbrev ty18 : Ty := (.pair .str (.exs 41))
abbrev ty17 : Ty := (.pair (.int .i64) ty18)
abbrev ty16 : Ty := (.pair (.int .i64) ty17)
abbrev ty15 : Ty := (.pair (.int .i64) ty16)
abbrev ty20 : Ty := (.pair (.exs 41) .str)
abbrev ty19 : Ty := (.pair .str ty20)
abbrev ty14 : Ty := (.pair ty15 ty19)
abbrev ty12 : Ty := (.pair ty13 ty14)
abbrev ty11 : Ty := (.pair (.int .i64) ty12)
abbrev ty10 : Ty := (.slice 43 ty11)
abbrev ty9 : Ty := (.pair ty2 ty10)
abbrev ty8 : Ty := (.pair ty2 ty9)
abbrev ty1 : Ty := (.pair ty2 ty8)
abbrev ty0 : Ty := (.pair .str ty1)
abbrev ty21 : Ty := (.slice 41 ty15)
abbrev ty22 : Ty := (.slice 25 ty0)
/-! ### slices.Sort[[]string,string] (by hand) -/
abbrev slices_Sort_string_ins : Sh := ⟨[(.one (.arr 0))], [(.arr 9 .str)]⟩
abbrev slices_Sort_string_outs : List Sh := [⟨[(.tup [])], [(.arr 9 .str)]⟩]
def slices_Sort_string : Nat → slices_Sort_string_ins.T → Option (OutsT slices_Sort_string_outs) := fun _ => sortSem 9
theorem slices_Sort_string_ok {S : Nat → Addr} (ok : CfgOk P CC S) : ∀ n, SpecOk P CC S 91 ⟨slices_Sort_string_ins, slices_Sort_string_outs, slices_Sort_string n⟩ := fun n => sort_spec ⟨Tryd.f91, by kernel_rfl, by kernel_rfl, by kernel_rfl⟩ Tryd.slices_Sort_string_none Tryd.slices_Sort_string
/-! ### slices.Compact[[]string,string] (by hand) -/
abbrev slices_Compact_string_ins : Sh := ⟨[(.one (.arr 0))], [(.arr 9 .str)]⟩
abbrev slices_Compact_string_outs : List Sh := [⟨[(.one (.arr 1))], [.dead, (.arr 9 .str)]⟩]
def slices_Compact_string : Nat → slices_Compact_string_ins.T → Option (OutsT slices_Compact_string_outs) := fun _ => compSem 9
theorem slices_Compact_string_ok {S : Nat → Addr} (ok : CfgOk P CC S) : ∀ n, SpecOk P CC S 92 ⟨slices_Compact_string_ins, slices_Compact_string_outs, slices_Compact_string n⟩ := fun n => comp_spec ⟨Tryd.f92, by kernel_rfl, by kernel_rfl, by kernel_rfl⟩ Tryd.slices_Compact_string_empty Tryd.slices_Compact_string
/-! ### pendulum/scope.Calls -/
abbrev scope_Calls_ins : Sh := ⟨[(.agg [(.val .str), (.val ty2), (.val ty2), (.val ty2), (.val ty10)])], []⟩
abbrev scope_Calls_outs : List Sh := [⟨[(.one (.arr 0))], [(.arr 9 .str)]⟩]
abbrev scope_Calls_l3_h : Sh := ⟨[(.one (.arr 0)), (.one (.val ty10)), (.one (.val (.int .i64))), (.one (.val (.int .i64)))], [(.arr 9 .str)]⟩
abbrev scope_Calls_l3_o : List Out := [⟨(.exit 0), [3], ⟨[(.one (.arr 0))], [(.arr 9 .str)]⟩⟩]
def scope_Calls_l3 (n : Nat) : Nat → scope_Calls_l3_h.T → Option (OutT scope_Calls_l3_o)
  | 0, _ => none
  | k + 1, ((_, x1, x2, x3, _), (l4, _)) =>
    if decide (x3 < x2) then
      if 0 ≤ x3 ∧ x3 < (x1.length : Int) then (
        if !strEq (((((rdT ty11 x1 x3).2).2).2).1) (⟨#[]⟩ : ByteArray) then
          if (l4.length + ([((((rdT ty11 x1 x3).2).2).2).1] : List (.str : Ty).T).length) * 16 ≤ 140737488355328 then (
            let v5 : Int := IntKind.i64.wrap (x3 + 1)
            scope_Calls_l3 n k (((), x1, x2, v5, ()), (l4 ++ [((((rdT ty11 x1 x3).2).2).2).1], ()))) else none
        else
          let v6 : Int := IntKind.i64.wrap (x3 + 1)
          scope_Calls_l3 n k (((), x1, x2, v6, ()), (l4, ()))) else none
    else
      some (.inl (((), ()), (l4, ())))
def scope_Calls : Nat → scope_Calls_ins.T → Option (OutsT scope_Calls_outs)
  | 0, _ => none
  | n + 1, (((x1, x2, x3, x4, x5, _), _), _) =>
    match scope_Calls_l3 n n (((), x5, (x5.length : Int), 0, ()), ([], ())) with
    | some (.inl ((_, _), (l6, _))) => (
      match slices_Sort_string n (((), ()), (l6, ())) with
      | some ((_, _), (l7, _)) => (
        match slices_Compact_string n (((), ()), (l7, ())) with
        | some ((_, _), (_, l8, _)) => (
          some (((), ()), (l8, ())))
        | none => none)
      | none => none)
    | some (.inr (_)) => none
    | none => none
def scope_Calls_H (n : Nat) : Hints := ⟨[], fun _ => [], fun k => match k with | 3 => some ⟨[3, 7, 8, 9], scope_Calls_l3_h, scope_Calls_l3_o, scope_Calls_l3 n⟩ | _ => none, fun _ => none, fun _ => none, fun _ => 0, fun _ => none⟩
def scope_Calls_O (n : Nat) : FuncId → List FSpec := asc [(91, ⟨slices_Sort_string_ins, slices_Sort_string_outs, slices_Sort_string n⟩), (92, ⟨slices_Compact_string_ins, slices_Compact_string_outs, slices_Compact_string n⟩)]
def b65 : Code := bodyOf Tryd.f65
theorem scope_Calls_l3_k0 (n : Nat) : LoopOk P CC (scope_Calls_O n) n 0 26 (scope_Calls_H n) ⟨[3, 7, 8, 9], scope_Calls_l3_h, scope_Calls_l3_o, scope_Calls_l3 n⟩ ((loopsOf b65).getD 0 .skip) := by
  refine ⟨fun _ => by kernel_rfl, ?_⟩
  rintro k ⟨⟨⟨⟩, x1, x2, x3, ⟨⟩⟩, ⟨x4, ⟨⟩⟩⟩
  kernel_rfl
theorem scope_Calls_ok {S : Nat → Addr} (ok : CfgOk P CC S) : ∀ n, SpecOk P CC S 65 ⟨scope_Calls_ins, scope_Calls_outs, scope_Calls n⟩ :=
  fn_all ok (O := scope_Calls_O) (H := scope_Calls_H) (fn := Tryd.f65) (body := b65) (by kernel_rfl) (by kernel_rfl) (by kernel_rfl) (by decide) (by kernel_rfl)
    (fun x => by kernel_rfl) (fun n => by
      rintro ⟨⟨⟨x1, x2, x3, x4, x5, ⟨⟩⟩, ⟨⟩⟩, ⟨⟩⟩
      kernel_rfl)
    (fun n => obl_of (by kernel_rfl) (by kernel_rfl) (ls (lz) (by kernel_rfl) (by kernel_rfl) (scope_Calls_l3_k0 n)) (cn (cn (cn (cn (cn (cn (cn (cn (cn (cn (cn (cz) (by kernel_rfl)) (by kernel_rfl)) (by kernel_rfl)) (by kernel_rfl)) (by kernel_rfl)) (by kernel_rfl)) (by kernel_rfl)) (by kernel_rfl)) (by kernel_rfl)) (by kernel_rfl)) (by kernel_rfl)) (hn fun _ => rfl))
    (fun n ih => asc_cons (slices_Sort_string_ok ok n) <| asc_cons (slices_Compact_string_ok ok n) <| asc_nil)
/-! ### pendulum/deps.New -/
abbrev deps_New_ins : Sh := ⟨[(.one (.arr 0))], [(.arr 25 ty0)]⟩
abbrev deps_New_outs : List Sh := [⟨[(.tup [(false, [(.ptr 1 0)]), (false, [(.val .err)])])], [(.arr 25 ty0), (.obj 97 [(.map 2)]), (.map .str ty13 false)]⟩, ⟨[(.tup [(false, [.nilp]), (false, [(.val .err)])])], [(.arr 25 ty0)]⟩]
abbrev deps_New_l5_h : Sh := ⟨[(.one (.ptr 1 0)), (.one (.arr 0)), (.one (.val (.int .i64))), (.one (.val (.int .i64)))], [(.arr 25 ty0), (.obj 97 [(.map 2)]), (.map .str ty13 false)]⟩
abbrev deps_New_l5_o : List Out := [⟨(.exit 0), [4], ⟨[(.one (.ptr 1 0))], [(.arr 25 ty0), (.obj 97 [(.map 2)]), (.map .str ty13 false)]⟩⟩, ⟨.ret, [2, 3], ⟨[(.one .nilp), (.one (.val .err))], [(.arr 25 ty0)]⟩⟩]
def deps_New_l5 (n : Nat) : Nat → deps_New_l5_h.T → Option (OutT deps_New_l5_o)
  | 0, _ => none
  | k + 1, ((_, _, x1, x2, _), (l3, (_, _), m4, _)) =>
    if decide (x2 < x1) then
      if 0 ≤ x2 ∧ x2 < (l3.length : Int) then (
        let v5 : List ByteArray := (mfind (keyEq (.str : Ty)) ((rdT ty0 l3 x2).1) m4).getD []
        if (mfind (keyEq (.str : Ty)) ((rdT ty0 l3 x2).1) m4).isSome then
          some (.inr (.inl (((), ErrV.at_ x2 (ErrV.sent 110), ()), (l3, ()))))
        else
          match scope_Calls n ((((rdT ty0 l3 x2).1, ((rdT ty0 l3 x2).2).1, (((rdT ty0 l3 x2).2).2).1, ((((rdT ty0 l3 x2).2).2).2).1, ((((rdT ty0 l3 x2).2).2).2).2, ()), ()), ()) with
          | some ((_, _), (l6, _)) => (
            let v7 : Int := IntKind.i64.wrap (x2 + 1)
            deps_New_l5 n k (((), (), x1, v7, ()), (l3, ((), ()), mset (keyEq (.str : Ty)) ((rdT ty0 l3 x2).1) l6 m4, ())))
          | none => none) else none
    else
      some (.inl (((), ()), (l3, ((), ()), m4, ())))
def deps_New : Nat → deps_New_ins.T → Option (OutsT deps_New_outs)
  | 0, _ => none
  | n + 1, ((_, _), (l1, _)) =>
    if decide ((l1.length : Int) > 16) then
      some (.inr ((((((), ()), (ErrV.sent 103, ()), ()), ()), (l1, ()))))
    else
      match deps_New_l5 n n (((), (), (l1.length : Int), 0, ()), (l1, ((), ()), [], ())) with
      | some (.inl ((_, _), (l2, (_, _), m3, _))) => (
        some (.inl (((((), ()), (ErrV.nil, ()), ()), ()), (l2, ((), ()), m3, ()))))
      | some (.inr (.inl ((_, x4, _), (l5, _)))) => (
        some (.inr ((((((), ()), (x4, ()), ()), ()), (l5, ())))))
      | some (.inr (.inr (_))) => none
      | none => none
def deps_New_H (n : Nat) : Hints := ⟨[], fun _ => [], fun k => match k with | 5 => some ⟨[4, 16, 17, 18], deps_New_l5_h, deps_New_l5_o, deps_New_l5 n⟩ | _ => none, fun _ => none, fun _ => none, fun _ => 0, fun _ => none⟩
def deps_New_O (n : Nat) : FuncId → List FSpec := asc [(65, ⟨scope_Calls_ins, scope_Calls_outs, scope_Calls n⟩)]
def b21 : Code := bodyOf Tryd.f21
theorem deps_New_l5_k0 (n : Nat) : LoopOk P CC (deps_New_O n) n 1 49 (deps_New_H n) ⟨[4, 16, 17, 18], deps_New_l5_h, deps_New_l5_o, deps_New_l5 n⟩ ((loopsOf b21).getD 0 .skip) := by
  refine ⟨fun _ => by kernel_rfl, ?_⟩
  rintro k ⟨⟨⟨⟩, ⟨⟩, x1, x2, ⟨⟩⟩, ⟨x3, ⟨⟨⟩, ⟨⟩⟩, x4, ⟨⟩⟩⟩
  kernel_rfl
theorem deps_New_ok {S : Nat → Addr} (ok : CfgOk P CC S) : ∀ n, SpecOk P CC S 21 ⟨deps_New_ins, deps_New_outs, deps_New n⟩ :=
  fn_all ok (O := deps_New_O) (H := deps_New_H) (fn := Tryd.f21) (body := b21) (by kernel_rfl) (by kernel_rfl) (by kernel_rfl) (by decide) (by kernel_rfl)
    (fun x => by kernel_rfl) (fun n => by
      rintro ⟨⟨⟨⟩, ⟨⟩⟩, ⟨x1, ⟨⟩⟩⟩
      kernel_rfl)
    (fun n => obl_of (by kernel_rfl) (by kernel_rfl) (ls (lz) (by kernel_rfl) (by kernel_rfl) (deps_New_l5_k0 n)) (cn (cn (cn (cn (cn (cn (cn (cn (cn (cn (cn (cn (cn (cn (cn (cn (cz) (by kernel_rfl)) (by kernel_rfl)) (by kernel_rfl)) (by kernel_rfl)) (by kernel_rfl)) (by kernel_rfl)) (by kernel_rfl)) (by kernel_rfl)) (by kernel_rfl)) (by kernel_rfl)) (by kernel_rfl)) (by kernel_rfl)) (by kernel_rfl)) (by kernel_rfl)) (by kernel_rfl)) (by kernel_rfl)) (hn fun _ => rfl))
    (fun n ih => asc_cons (scope_Calls_ok ok n) <| asc_nil)
/-! ### maps.Keys[map[string]int,string,int] -/
abbrev maps_Keys_map_string_int_string_int_ins : Sh := ⟨[(.one (.map 0))], [(.map .str (.int .i64) false)]⟩
abbrev maps_Keys_map_string_int_string_int_outs : List Sh := [⟨[(.one (.fn 111 [1]))], [(.map .str (.int .i64) false), (.obj 105 [(.map 0)])]⟩]
def maps_Keys_map_string_int_string_int : Nat → maps_Keys_map_string_int_string_int_ins.T → Option (OutsT maps_Keys_map_string_int_string_int_outs)
  | 0, _ => none
  | n + 1, ((_, _), (m1, _)) =>
    some (((), ()), (m1, ((), ()), ()))
def maps_Keys_map_string_int_string_int_H (n : Nat) : Hints := ⟨[], fun _ => [], fun _ => none, fun _ => none, fun _ => none, fun _ => 0, fun _ => none⟩
def maps_Keys_map_string_int_string_int_O (n : Nat) : FuncId → List FSpec := asc []
def b93 : Code := bodyOf Tryd.f93
theorem maps_Keys_map_string_int_string_int_ok {S : Nat → Addr} (ok : CfgOk P CC S) : ∀ n, SpecOk P CC S 93 ⟨maps_Keys_map_string_int_string_int_ins, maps_Keys_map_string_int_string_int_outs, maps_Keys_map_string_int_string_int n⟩ :=
  fn_all ok (O := maps_Keys_map_string_int_string_int_O) (H := maps_Keys_map_string_int_string_int_H) (fn := Tryd.f93) (body := b93) (by kernel_rfl) (by kernel_rfl) (by kernel_rfl) (by decide) (by kernel_rfl)
    (fun x => by kernel_rfl) (fun n => by
      rintro ⟨⟨⟨⟩, ⟨⟩⟩, ⟨x1, ⟨⟩⟩⟩
      kernel_rfl)
    (fun n => obl_of (by kernel_rfl) (by kernel_rfl) (lz) (cn (cn (cz) (by kernel_rfl)) (by kernel_rfl)) (hn fun _ => rfl))
    (fun n ih => asc_nil)
/-! ### slices.Sorted[string] (by hand) -/
abbrev slices_Sorted_111_ins : Sh := ⟨[(.one (.fn 111 [0]))], [(.obj 105 [(.map 1)]), (.map .str (.int .i64) false)]⟩
abbrev slices_Sorted_111_outs : List Sh := [⟨[(.one (.arr 2))], [(.obj 105 [(.map 1)]), (.map .str (.int .i64) false), (.arr 9 .str)]⟩]
def slices_Sorted_111 : Nat → slices_Sorted_111_ins.T → Option (OutsT slices_Sorted_111_outs) := fun _ => sortedSSem 105 9 (.int .i64) false 111
theorem slices_Sorted_111_ok {S : Nat → Addr} (ok : CfgOk P CC S) : ∀ n, SpecOk P CC S 72 ⟨slices_Sorted_111_ins, slices_Sorted_111_outs, slices_Sorted_111 n⟩ := fun n => sortedS_spec (ty := 9) ⟨Tryd.f72, by kernel_rfl, by kernel_rfl, by kernel_rfl⟩ (by kernel_rfl) Sq.sorted_calls_111
/-! ### (*pendulum/deps.Graph).reach -/
abbrev deps_Graph_reach_ins : Sh := ⟨[(.one (.ptr 0 0)), (.one (.val .str))], [(.obj 97 [(.map 1)]), (.map .str ty13 false)]⟩
abbrev deps_Graph_reach_outs : List Sh := [⟨[(.tup [(false, [(.arr 2)]), (false, [(.val .err)])])], [(.obj 97 [(.map 1)]), (.map .str ty13 false), (.arr 9 .str)]⟩]
abbrev deps_Graph_reach_l3_h : Sh := ⟨[(.one (.ptr 0 0)), (.one (.map 2)), (.one (.arr 3))], [(.obj 97 [(.map 1)]), (.map .str ty13 false), (.map .str (.int .i64) false), (.arr 9 .str)]⟩
abbrev deps_Graph_reach_l3_o : List Out := [⟨(.exit 0), [6], ⟨[(.one (.map 2))], [(.obj 97 [(.map 1)]), (.map .str ty13 false), (.map .str (.int .i64) false)]⟩⟩, ⟨.ret, [4, 5], ⟨[(.one (.emp true)), (.one (.val .err))], [(.obj 97 [(.map 1)]), (.map .str ty13 false)]⟩⟩]
def deps_Graph_reach_l3 (n : Nat) : Nat → deps_Graph_reach_l3_h.T → Option (OutT deps_Graph_reach_l3_o)
  | 0, _ => none
  | k + 1, ((_, _, _, _), ((_, _), m1, m2, l3, _)) =>
    if decide ((l3.length : Int) > 0) then
      if 0 ≤ (0 : Int) ∧ (0 : Int) < (l3.length : Int) then (
        if 0 ≤ (1 : Int) ∧ (1 : Int) ≤ (l3.length : Int) then (
          let v4 : List ByteArray := (mfind (keyEq (.str : Ty)) (rdT (.str : Ty) l3 0) m1).getD []
          if !((mfind (keyEq (.str : Ty)) (rdT (.str : Ty) l3 0) m1).isSome) then
            some (.inr (.inl (((), ErrV.sent 116, ()), (((), ()), m1, ()))))
          else
            let v5 : Int := (mfind (keyEq (.str : Ty)) (rdT (.str : Ty) l3 0) m2).getD 0
            if decide (v5 > 0) then
              deps_Graph_reach_l3 n k (((), (), (), ()), (((), ()), m1, m2, cutL l3 1 (l3.length : Int), ()))
            else
              if ((cutL l3 1 (l3.length : Int)).length + v4.length) * 16 ≤ 140737488355328 then (
                deps_Graph_reach_l3 n k (((), (), (), ()), (((), ()), m1, mset (keyEq (.str : Ty)) (rdT (.str : Ty) l3 0) 1 m2, (cutL l3 1 (l3.length : Int)) ++ v4, ()))) else none) else none) else none
    else
      some (.inl (((), ()), (((), ()), m1, m2, ())))
def deps_Graph_reach : Nat → deps_Graph_reach_ins.T → Option (OutsT deps_Graph_reach_outs)
  | 0, _ => none
  | n + 1, ((_, x1, _), ((_, _), m2, _)) =>
    match deps_Graph_reach_l3 n n (((), (), (), ()), (((), ()), m2, [], [x1], ())) with
    | some (.inl ((_, _), ((_, _), m3, m4, _))) => (
      match maps_Keys_map_string_int_string_int n (((), ()), (m4, ())) with
      | some ((_, _), (m7, (_, _), _)) => (
        match slices_Sorted_111 n (((), ()), (((), ()), m7, ())) with
        | some ((_, _), ((_, _), m8, l9, _)) => (
          some (((((), ()), (ErrV.nil, ()), ()), ()), (((), ()), m3, l9, ())))
        | none => none)
      | none => none)
    | some (.inr (.inl ((_, x5, _), ((_, _), m6, _)))) => (
      some (((((), ()), (x5, ()), ()), ()), (((), ()), m6, [], ())))
    | some (.inr (.inr (_))) => none
    | none => none
def deps_Graph_reach_H (n : Nat) : Hints := ⟨[21], fun _ => [], fun k => match k with | 3 => some ⟨[0, 6, 7], deps_Graph_reach_l3_h, deps_Graph_reach_l3_o, deps_Graph_reach_l3 n⟩ | _ => none, fun _ => none, fun _ => none, fun _ => 0, fun _ => none⟩
def deps_Graph_reach_O (n : Nat) : FuncId → List FSpec := asc [(72, ⟨slices_Sorted_111_ins, slices_Sorted_111_outs, slices_Sorted_111 n⟩), (93, ⟨maps_Keys_map_string_int_string_int_ins, maps_Keys_map_string_int_string_int_outs, maps_Keys_map_string_int_string_int n⟩)]
def b66 : Code := bodyOf Tryd.f66
theorem deps_Graph_reach_l3_k0 (n : Nat) : LoopOk P CC (deps_Graph_reach_O n) n 2 48 (deps_Graph_reach_H n) ⟨[0, 6, 7], deps_Graph_reach_l3_h, deps_Graph_reach_l3_o, deps_Graph_reach_l3 n⟩ ((loopsOf b66).getD 0 .skip) := by
  refine ⟨fun _ => by kernel_rfl, ?_⟩
  rintro k ⟨⟨⟨⟩, ⟨⟩, ⟨⟩, ⟨⟩⟩, ⟨⟨⟨⟩, ⟨⟩⟩, x1, x2, x3, ⟨⟩⟩⟩
  kernel_rfl
theorem deps_Graph_reach_ok {S : Nat → Addr} (ok : CfgOk P CC S) : ∀ n, SpecOk P CC S 66 ⟨deps_Graph_reach_ins, deps_Graph_reach_outs, deps_Graph_reach n⟩ :=
  fn_all ok (O := deps_Graph_reach_O) (H := deps_Graph_reach_H) (fn := Tryd.f66) (body := b66) (by kernel_rfl) (by kernel_rfl) (by kernel_rfl) (by decide) (by kernel_rfl)
    (fun x => by kernel_rfl) (fun n => by
      rintro ⟨⟨⟨⟩, x1, ⟨⟩⟩, ⟨⟨⟨⟩, ⟨⟩⟩, x2, ⟨⟩⟩⟩
      kernel_rfl)
    (fun n => obl_of (by kernel_rfl) (by kernel_rfl) (ls (lz) (by kernel_rfl) (by kernel_rfl) (deps_Graph_reach_l3_k0 n)) (cn (cn (cn (cn (cn (cn (cn (cn (cn (cn (cn (cn (cn (cn (cn (cz) (by kernel_rfl)) (by kernel_rfl)) (by kernel_rfl)) (by kernel_rfl)) (by kernel_rfl)) (by kernel_rfl)) (by kernel_rfl)) (by kernel_rfl)) (by kernel_rfl)) (by kernel_rfl)) (by kernel_rfl)) (by kernel_rfl)) (by kernel_rfl)) (by kernel_rfl)) (by kernel_rfl)) (hn fun _ => rfl))
    (fun n ih => asc_cons (slices_Sorted_111_ok ok n) <| asc_cons (maps_Keys_map_string_int_string_int_ok ok n) <| asc_nil)
/-! ### slices.Index[[]string,string] -/
abbrev slices_Index_string_string_ins : Sh := ⟨[(.one (.arr 0)), (.one (.val .str))], [(.arr 9 .str)]⟩
abbrev slices_Index_string_string_outs : List Sh := [⟨[(.one (.val (.int .i64)))], [(.arr 9 .str)]⟩]
abbrev slices_Index_string_string_l2_h : Sh := ⟨[(.one (.arr 0)), (.one (.val .str)), (.one (.val (.int .i64))), (.one (.val (.int .i64)))], [(.arr 9 .str)]⟩
abbrev slices_Index_string_string_l2_o : List Out := [⟨(.exit 0), [], ⟨[], [(.arr 9 .str)]⟩⟩, ⟨.ret, [4], ⟨[(.one (.val (.int .i64)))], [(.arr 9 .str)]⟩⟩]
def slices_Index_string_string_l2 (n : Nat) : Nat → slices_Index_string_string_l2_h.T → Option (OutT slices_Index_string_string_l2_o)
  | 0, _ => none
  | k + 1, ((_, x1, x2, x3, _), (l4, _)) =>
    if decide (x3 < x2) then
      if 0 ≤ x3 ∧ x3 < (l4.length : Int) then (
        if strEq x1 (rdT (.str : Ty) l4 x3) then
          some (.inr (.inl ((x3, ()), (l4, ()))))
        else
          let v5 : Int := IntKind.i64.wrap (x3 + 1)
          slices_Index_string_string_l2 n k (((), x1, x2, v5, ()), (l4, ()))) else none
    else
      some (.inl ((), (l4, ())))
def slices_Index_string_string : Nat → slices_Index_string_string_ins.T → Option (OutsT slices_Index_string_string_outs)
  | 0, _ => none
  | n + 1, ((_, x1, _), (l2, _)) =>
    match slices_Index_string_string_l2 n n (((), x1, (l2.length : Int), 0, ()), (l2, ())) with
    | some (.inl (_, (l3, _))) => (
      some (((-1), ()), (l3, ())))
    | some (.inr (.inl ((x4, _), (l5, _)))) => (
      some ((x4, ()), (l5, ())))
    | some (.inr (.inr (_))) => none
    | none => none
def slices_Index_string_string_H (n : Nat) : Hints := ⟨[], fun _ => [], fun k => match k with | 2 => some ⟨[0, 1, 7, 8], slices_Index_string_string_l2_h, slices_Index_string_string_l2_o, slices_Index_string_string_l2 n⟩ | _ => none, fun _ => none, fun _ => none, fun _ => 0, fun _ => none⟩
def slices_Index_string_string_O (n : Nat) : FuncId → List FSpec := asc []
def b94 : Code := bodyOf Tryd.f94
theorem slices_Index_string_string_l2_k0 (n : Nat) : LoopOk P CC (slices_Index_string_string_O n) n 1 19 (slices_Index_string_string_H n) ⟨[0, 1, 7, 8], slices_Index_string_string_l2_h, slices_Index_string_string_l2_o, slices_Index_string_string_l2 n⟩ ((loopsOf b94).getD 0 .skip) := by
  refine ⟨fun _ => by kernel_rfl, ?_⟩
  rintro k ⟨⟨⟨⟩, x1, x2, x3, ⟨⟩⟩, ⟨x4, ⟨⟩⟩⟩
  kernel_rfl
theorem slices_Index_string_string_ok {S : Nat → Addr} (ok : CfgOk P CC S) : ∀ n, SpecOk P CC S 94 ⟨slices_Index_string_string_ins, slices_Index_string_string_outs, slices_Index_string_string n⟩ :=
  fn_all ok (O := slices_Index_string_string_O) (H := slices_Index_string_string_H) (fn := Tryd.f94) (body := b94) (by kernel_rfl) (by kernel_rfl) (by kernel_rfl) (by decide) (by kernel_rfl)
    (fun x => by kernel_rfl) (fun n => by
      rintro ⟨⟨⟨⟩, x1, ⟨⟩⟩, ⟨x2, ⟨⟩⟩⟩
      kernel_rfl)
    (fun n => obl_of (by kernel_rfl) (by kernel_rfl) (ls (lz) (by kernel_rfl) (by kernel_rfl) (slices_Index_string_string_l2_k0 n)) (cn (cn (cn (cn (cn (cn (cn (cn (cn (cn (cz) (by kernel_rfl)) (by kernel_rfl)) (by kernel_rfl)) (by kernel_rfl)) (by kernel_rfl)) (by kernel_rfl)) (by kernel_rfl)) (by kernel_rfl)) (by kernel_rfl)) (by kernel_rfl)) (hn fun _ => rfl))
    (fun n ih => asc_nil)
/-! ### slices.Contains[[]string,string] -/
abbrev slices_Contains_string_string_ins : Sh := ⟨[(.one (.arr 0)), (.one (.val .str))], [(.arr 9 .str)]⟩
abbrev slices_Contains_string_string_outs : List Sh := [⟨[(.one (.val .bool))], [(.arr 9 .str)]⟩]
def slices_Contains_string_string : Nat → slices_Contains_string_string_ins.T → Option (OutsT slices_Contains_string_string_outs)
  | 0, _ => none
  | n + 1, ((_, x1, _), (l2, _)) =>
    match slices_Index_string_string n (((), x1, ()), (l2, ())) with
    | some ((x3, _), (l4, _)) => (
      some ((decide (x3 ≥ 0), ()), (l4, ())))
    | none => none
def slices_Contains_string_string_H (n : Nat) : Hints := ⟨[], fun _ => [], fun _ => none, fun _ => none, fun _ => none, fun _ => 0, fun _ => none⟩
def slices_Contains_string_string_O (n : Nat) : FuncId → List FSpec := asc [(94, ⟨slices_Index_string_string_ins, slices_Index_string_string_outs, slices_Index_string_string n⟩)]
def b69 : Code := bodyOf Tryd.f69
theorem slices_Contains_string_string_ok {S : Nat → Addr} (ok : CfgOk P CC S) : ∀ n, SpecOk P CC S 69 ⟨slices_Contains_string_string_ins, slices_Contains_string_string_outs, slices_Contains_string_string n⟩ :=
  fn_all ok (O := slices_Contains_string_string_O) (H := slices_Contains_string_string_H) (fn := Tryd.f69) (body := b69) (by kernel_rfl) (by kernel_rfl) (by kernel_rfl) (by decide) (by kernel_rfl)
    (fun x => by kernel_rfl) (fun n => by
      rintro ⟨⟨⟨⟩, x1, ⟨⟩⟩, ⟨x2, ⟨⟩⟩⟩
      kernel_rfl)
    (fun n => obl_of (by kernel_rfl) (by kernel_rfl) (lz) (cn (cn (cz) (by kernel_rfl)) (by kernel_rfl)) (hn fun _ => rfl))
    (fun n ih => asc_cons (slices_Index_string_string_ok ok n) <| asc_nil)
/-! ### (*pendulum/deps.Graph).All$1$1 -/
abbrev deps_Graph_All_1_1_ins : Sh := ⟨[(.one (.val .str)), (.one (.ptr 0 0))], [(.obj 38 [(.emp true)])]⟩
abbrev deps_Graph_All_1_1_outs : List Sh := [⟨[(.one (.val .bool))], [(.obj 38 [(.emp true)])]⟩]
def deps_Graph_All_1_1 : Nat → deps_Graph_All_1_1_ins.T → Option (OutsT deps_Graph_All_1_1_outs)
  | 0, _ => none
  | n + 1, ((x1, _, _), ((_, _), _)) =>
    match slices_Contains_string_string n (((), x1, ()), ([], ())) with
    | some ((x2, _), (l3, _)) => (
      some ((!x2, ()), (((), ()), ())))
    | none => none
def deps_Graph_All_1_1_H (n : Nat) : Hints := ⟨[], fun _ => [], fun _ => none, fun _ => none, fun _ => none, fun _ => 0, fun _ => none⟩
def deps_Graph_All_1_1_O (n : Nat) : FuncId → List FSpec := asc [(69, ⟨slices_Contains_string_string_ins, slices_Contains_string_string_outs, slices_Contains_string_string n⟩)]
def b71 : Code := bodyOf Tryd.f71
theorem deps_Graph_All_1_1_ok {S : Nat → Addr} (ok : CfgOk P CC S) : ∀ n, SpecOk P CC S 71 ⟨deps_Graph_All_1_1_ins, deps_Graph_All_1_1_outs, deps_Graph_All_1_1 n⟩ :=
  fn_all ok (O := deps_Graph_All_1_1_O) (H := deps_Graph_All_1_1_H) (fn := Tryd.f71) (body := b71) (by kernel_rfl) (by kernel_rfl) (by kernel_rfl) (by decide) (by kernel_rfl)
    (fun x => by kernel_rfl) (fun n => by
      rintro ⟨⟨x1, ⟨⟩, ⟨⟩⟩, ⟨⟨⟨⟩, ⟨⟩⟩, ⟨⟩⟩⟩
      kernel_rfl)
    (fun n => obl_of (by kernel_rfl) (by kernel_rfl) (lz) (cn (cn (cz) (by kernel_rfl)) (by kernel_rfl)) (hn fun _ => rfl))
    (fun n ih => asc_cons (slices_Contains_string_string_ok ok n) <| asc_nil)
/-! ### slices.IndexFunc[[]string,string] -/
abbrev slices_IndexFunc_string_string_2_ins : Sh := ⟨[(.one (.val ty13)), (.one (.fn 71 [0]))], [(.obj 38 [(.emp true)])]⟩
abbrev slices_IndexFunc_string_string_2_outs : List Sh := [⟨[(.one (.val (.int .i64)))], [(.obj 38 [(.emp true)])]⟩]
abbrev slices_IndexFunc_string_string_2_l2_h : Sh := ⟨[(.one (.val ty13)), (.one (.fn 71 [0])), (.one (.val (.int .i64))), (.one (.val (.int .i64)))], [(.obj 38 [(.emp true)])]⟩
abbrev slices_IndexFunc_string_string_2_l2_o : List Out := [⟨(.exit 0), [], ⟨[], [(.obj 38 [(.emp true)])]⟩⟩, ⟨.ret, [4], ⟨[(.one (.val (.int .i64)))], [(.obj 38 [(.emp true)])]⟩⟩]
def slices_IndexFunc_string_string_2_l2 (n : Nat) : Nat → slices_IndexFunc_string_string_2_l2_h.T → Option (OutT slices_IndexFunc_string_string_2_l2_o)
  | 0, _ => none
  | k + 1, ((x1, _, x2, x3, _), ((_, _), _)) =>
    if decide (x3 < x2) then
      if 0 ≤ x3 ∧ x3 < (x1.length : Int) then (
        match deps_Graph_All_1_1 n ((rdT (.str : Ty) x1 x3, (), ()), (((), ()), ())) with
        | some ((x4, _), ((_, _), _)) => (
          if x4 then
            some (.inr (.inl ((x3, ()), (((), ()), ()))))
          else
            let v5 : Int := IntKind.i64.wrap (x3 + 1)
            slices_IndexFunc_string_string_2_l2 n k ((x1, (), x2, v5, ()), (((), ()), ())))
        | none => none) else none
    else
      some (.inl ((), (((), ()), ())))
def slices_IndexFunc_string_string_2 : Nat → slices_IndexFunc_string_string_2_ins.T → Option (OutsT slices_IndexFunc_string_string_2_outs)
  | 0, _ => none
  | n + 1, ((x1, _, _), ((_, _), _)) =>
    match slices_IndexFunc_string_string_2_l2 n n ((x1, (), (x1.length : Int), 0, ()), (((), ()), ())) with
    | some (.inl (_, ((_, _), _))) => (
      some (((-1), ()), (((), ()), ())))
    | some (.inr (.inl ((x2, _), ((_, _), _)))) => (
      some ((x2, ()), (((), ()), ())))
    | some (.inr (.inr (_))) => none
    | none => none
def slices_IndexFunc_string_string_2_H (n : Nat) : Hints := ⟨[], fun _ => [], fun k => match k with | 2 => some ⟨[0, 1, 7, 8], slices_IndexFunc_string_string_2_l2_h, slices_IndexFunc_string_string_2_l2_o, slices_IndexFunc_string_string_2_l2 n⟩ | _ => none, fun _ => none, fun _ => none, fun _ => 0, fun _ => none⟩
def slices_IndexFunc_string_string_2_O (n : Nat) : FuncId → List FSpec := asc [(71, ⟨deps_Graph_All_1_1_ins, deps_Graph_All_1_1_outs, deps_Graph_All_1_1 n⟩)]
def b67 : Code := bodyOf Tryd.f67
theorem slices_IndexFunc_string_string_2_l2_k0 (n : Nat) : LoopOk P CC (slices_IndexFunc_string_string_2_O n) n 1 19 (slices_IndexFunc_string_string_2_H n) ⟨[0, 1, 7, 8], slices_IndexFunc_string_string_2_l2_h, slices_IndexFunc_string_string_2_l2_o, slices_IndexFunc_string_string_2_l2 n⟩ ((loopsOf b67).getD 0 .skip) := by
  refine ⟨fun _ => by kernel_rfl, ?_⟩
  rintro k ⟨⟨x1, ⟨⟩, x2, x3, ⟨⟩⟩, ⟨⟨⟨⟩, ⟨⟩⟩, ⟨⟩⟩⟩
  kernel_rfl
theorem slices_IndexFunc_string_string_2_ok {S : Nat → Addr} (ok : CfgOk P CC S) : ∀ n, SpecOk P CC S 67 ⟨slices_IndexFunc_string_string_2_ins, slices_IndexFunc_string_string_2_outs, slices_IndexFunc_string_string_2 n⟩ :=
  fn_all ok (O := slices_IndexFunc_string_string_2_O) (H := slices_IndexFunc_string_string_2_H) (fn := Tryd.f67) (body := b67) (by kernel_rfl) (by kernel_rfl) (by kernel_rfl) (by decide) (by kernel_rfl)
    (fun x => by kernel_rfl) (fun n => by
      rintro ⟨⟨x1, ⟨⟩, ⟨⟩⟩, ⟨⟨⟨⟩, ⟨⟩⟩, ⟨⟩⟩⟩
      kernel_rfl)
    (fun n => obl_of (by kernel_rfl) (by kernel_rfl) (ls (lz) (by kernel_rfl) (by kernel_rfl) (slices_IndexFunc_string_string_2_l2_k0 n)) (cn (cn (cn (cn (cn (cn (cn (cn (cn (cn (cz) (by kernel_rfl)) (by kernel_rfl)) (by kernel_rfl)) (by kernel_rfl)) (by kernel_rfl)) (by kernel_rfl)) (by kernel_rfl)) (by kernel_rfl)) (by kernel_rfl)) (by kernel_rfl)) (hn fun _ => rfl))
    (fun n ih => asc_cons (deps_Graph_All_1_1_ok ok n) <| asc_nil)
/-! ### slices.ContainsFunc[[]string,string] -/
abbrev slices_ContainsFunc_string_string_ins : Sh := ⟨[(.one (.val ty13)), (.one (.fn 71 [0]))], [(.obj 38 [(.emp true)])]⟩
abbrev slices_ContainsFunc_string_string_outs : List Sh := [⟨[(.one (.val .bool))], [(.obj 38 [(.emp true)])]⟩]
def slices_ContainsFunc_string_string : Nat → slices_ContainsFunc_string_string_ins.T → Option (OutsT slices_ContainsFunc_string_string_outs)
  | 0, _ => none
  | n + 1, ((x1, _, _), ((_, _), _)) =>
    match slices_IndexFunc_string_string_2 n ((x1, (), ()), (((), ()), ())) with
    | some ((x2, _), ((_, _), _)) => (
      some ((decide (x2 ≥ 0), ()), (((), ()), ())))
    | none => none
def slices_ContainsFunc_string_string_H (n : Nat) : Hints := ⟨[], fun _ => [], fun _ => none, fun _ => none, fun _ => none, fun _ => 0, fun _ => none⟩
def slices_ContainsFunc_string_string_O (n : Nat) : FuncId → List FSpec := asc [(67, ⟨slices_IndexFunc_string_string_2_ins, slices_IndexFunc_string_string_2_outs, slices_IndexFunc_string_string_2 n⟩)]
def b70 : Code := bodyOf Tryd.f70
theorem slices_ContainsFunc_string_string_ok {S : Nat → Addr} (ok : CfgOk P CC S) : ∀ n, SpecOk P CC S 70 ⟨slices_ContainsFunc_string_string_ins, slices_ContainsFunc_string_string_outs, slices_ContainsFunc_string_string n⟩ :=
  fn_all ok (O := slices_ContainsFunc_string_string_O) (H := slices_ContainsFunc_string_string_H) (fn := Tryd.f70) (body := b70) (by kernel_rfl) (by kernel_rfl) (by kernel_rfl) (by decide) (by kernel_rfl)
    (fun x => by kernel_rfl) (fun n => by
      rintro ⟨⟨x1, ⟨⟩, ⟨⟩⟩, ⟨⟨⟨⟩, ⟨⟩⟩, ⟨⟩⟩⟩
      kernel_rfl)
    (fun n => obl_of (by kernel_rfl) (by kernel_rfl) (lz) (cn (cn (cz) (by kernel_rfl)) (by kernel_rfl)) (hn fun _ => rfl))
    (fun n ih => asc_cons (slices_IndexFunc_string_string_2_ok ok n) <| asc_nil)
/-! ### (*pendulum/deps.Graph).All$1 -/
abbrev deps_Graph_All_1_ins : Sh := ⟨[(.one (.val .str)), (.one (.ptr 0 0)), (.one (.ptr 1 0))], [(.obj 38 [(.emp true)]), (.obj 48 [(.ptr 2 0)]), (.obj 97 [(.map 3)]), (.map .str ty13 false)]⟩
abbrev deps_Graph_All_1_outs : List Sh := [⟨[(.one (.val .bool))], [(.obj 38 [(.emp true)]), (.obj 48 [(.ptr 2 0)]), (.obj 97 [(.map 3)]), (.map .str ty13 false)]⟩]
def deps_Graph_All_1 : Nat → deps_Graph_All_1_ins.T → Option (OutsT deps_Graph_All_1_outs)
  | 0, _ => none
  | n + 1, ((x1, _, _, _), ((_, _), (_, _), (_, _), m2, _)) =>
    match slices_Contains_string_string n (((), x1, ()), ([], ())) with
    | some ((x3, _), (l4, _)) => (
      if !x3 then
        let v5 : List ByteArray := (mfind (keyEq (.str : Ty)) x1 m2).getD []
        match slices_ContainsFunc_string_string n ((v5, (), ()), (((), ()), ())) with
        | some ((x6, _), ((_, _), _)) => (
          some ((!x6, ()), (((), ()), ((), ()), ((), ()), m2, ())))
        | none => none
      else
        some ((false, ()), (((), ()), ((), ()), ((), ()), m2, ())))
    | none => none
def deps_Graph_All_1_H (n : Nat) : Hints := ⟨[], fun _ => [], fun _ => none, fun _ => none, fun _ => none, fun _ => 0, fun _ => none⟩
def deps_Graph_All_1_O (n : Nat) : FuncId → List FSpec := asc [(69, ⟨slices_Contains_string_string_ins, slices_Contains_string_string_outs, slices_Contains_string_string n⟩), (70, ⟨slices_ContainsFunc_string_string_ins, slices_ContainsFunc_string_string_outs, slices_ContainsFunc_string_string n⟩)]
def b68 : Code := bodyOf Tryd.f68
theorem deps_Graph_All_1_ok {S : Nat → Addr} (ok : CfgOk P CC S) : ∀ n, SpecOk P CC S 68 ⟨deps_Graph_All_1_ins, deps_Graph_All_1_outs, deps_Graph_All_1 n⟩ :=
  fn_all ok (O := deps_Graph_All_1_O) (H := deps_Graph_All_1_H) (fn := Tryd.f68) (body := b68) (by kernel_rfl) (by kernel_rfl) (by kernel_rfl) (by decide) (by kernel_rfl)
    (fun x => by kernel_rfl) (fun n => by
      rintro ⟨⟨x1, ⟨⟩, ⟨⟩, ⟨⟩⟩, ⟨⟨⟨⟩, ⟨⟩⟩, ⟨⟨⟩, ⟨⟩⟩, ⟨⟨⟩, ⟨⟩⟩, x2, ⟨⟩⟩⟩
      kernel_rfl)
    (fun n => obl_of (by kernel_rfl) (by kernel_rfl) (lz) (cn (cn (cz) (by kernel_rfl)) (by kernel_rfl)) (hn fun _ => rfl))
    (fun n ih => asc_cons (slices_Contains_string_string_ok ok n) <| asc_cons (slices_ContainsFunc_string_string_ok ok n) <| asc_nil)
/-! ### slices.IndexFunc[[]string,string] -/
abbrev slices_IndexFunc_string_string_ins : Sh := ⟨[(.one (.val ty13)), (.one (.fn 68 [0, 1]))], [(.obj 38 [(.emp true)]), (.obj 48 [(.ptr 2 0)]), (.obj 97 [(.map 3)]), (.map .str ty13 false)]⟩
abbrev slices_IndexFunc_string_string_outs : List Sh := [⟨[(.one (.val (.int .i64)))], [(.obj 38 [(.emp true)]), (.obj 48 [(.ptr 2 0)]), (.obj 97 [(.map 3)]), (.map .str ty13 false)]⟩]
abbrev slices_IndexFunc_string_string_l2_h : Sh := ⟨[(.one (.val ty13)), (.one (.fn 68 [0, 1])), (.one (.val (.int .i64))), (.one (.val (.int .i64)))], [(.obj 38 [(.emp true)]), (.obj 48 [(.ptr 2 0)]), (.obj 97 [(.map 3)]), (.map .str ty13 false)]⟩
abbrev slices_IndexFunc_string_string_l2_o : List Out := [⟨(.exit 0), [], ⟨[], [(.obj 38 [(.emp true)]), (.obj 48 [(.ptr 2 0)]), (.obj 97 [(.map 3)]), (.map .str ty13 false)]⟩⟩, ⟨.ret, [4], ⟨[(.one (.val (.int .i64)))], [(.obj 38 [(.emp true)]), (.obj 48 [(.ptr 2 0)]), (.obj 97 [(.map 3)]), (.map .str ty13 false)]⟩⟩]
def slices_IndexFunc_string_string_l2 (n : Nat) : Nat → slices_IndexFunc_string_string_l2_h.T → Option (OutT slices_IndexFunc_string_string_l2_o)
  | 0, _ => none
  | k + 1, ((x1, _, x2, x3, _), ((_, _), (_, _), (_, _), m4, _)) =>
    if decide (x3 < x2) then
      if 0 ≤ x3 ∧ x3 < (x1.length : Int) then (
        match deps_Graph_All_1 n ((rdT (.str : Ty) x1 x3, (), (), ()), (((), ()), ((), ()), ((), ()), m4, ())) with
        | some ((x5, _), ((_, _), (_, _), (_, _), m6, _)) => (
          if x5 then
            some (.inr (.inl ((x3, ()), (((), ()), ((), ()), ((), ()), m6, ()))))
          else
            let v7 : Int := IntKind.i64.wrap (x3 + 1)
            slices_IndexFunc_string_string_l2 n k ((x1, (), x2, v7, ()), (((), ()), ((), ()), ((), ()), m6, ())))
        | none => none) else none
    else
      some (.inl ((), (((), ()), ((), ()), ((), ()), m4, ())))
def slices_IndexFunc_string_string : Nat → slices_IndexFunc_string_string_ins.T → Option (OutsT slices_IndexFunc_string_string_outs)
  | 0, _ => none
  | n + 1, ((x1, _, _), ((_, _), (_, _), (_, _), m2, _)) =>
    match slices_IndexFunc_string_string_l2 n n ((x1, (), (x1.length : Int), 0, ()), (((), ()), ((), ()), ((), ()), m2, ())) with
    | some (.inl (_, ((_, _), (_, _), (_, _), m3, _))) => (
      some (((-1), ()), (((), ()), ((), ()), ((), ()), m3, ())))
    | some (.inr (.inl ((x4, _), ((_, _), (_, _), (_, _), m5, _)))) => (
      some ((x4, ()), (((), ()), ((), ()), ((), ()), m5, ())))
    | some (.inr (.inr (_))) => none
    | none => none
def slices_IndexFunc_string_string_H (n : Nat) : Hints := ⟨[], fun _ => [], fun k => match k with | 2 => some ⟨[0, 1, 7, 8], slices_IndexFunc_string_string_l2_h, slices_IndexFunc_string_string_l2_o, slices_IndexFunc_string_string_l2 n⟩ | _ => none, fun _ => none, fun _ => none, fun _ => 0, fun _ => none⟩
def slices_IndexFunc_string_string_O (n : Nat) : FuncId → List FSpec := asc [(68, ⟨deps_Graph_All_1_ins, deps_Graph_All_1_outs, deps_Graph_All_1 n⟩)]
theorem slices_IndexFunc_string_string_l2_k0 (n : Nat) : LoopOk P CC (slices_IndexFunc_string_string_O n) n 4 19 (slices_IndexFunc_string_string_H n) ⟨[0, 1, 7, 8], slices_IndexFunc_string_string_l2_h, slices_IndexFunc_string_string_l2_o, slices_IndexFunc_string_string_l2 n⟩ ((loopsOf b67).getD 0 .skip) := by
  refine ⟨fun _ => by kernel_rfl, ?_⟩
  rintro k ⟨⟨x1, ⟨⟩, x2, x3, ⟨⟩⟩, ⟨⟨⟨⟩, ⟨⟩⟩, ⟨⟨⟩, ⟨⟩⟩, ⟨⟨⟩, ⟨⟩⟩, x4, ⟨⟩⟩⟩
  kernel_rfl
theorem slices_IndexFunc_string_string_ok {S : Nat → Addr} (ok : CfgOk P CC S) : ∀ n, SpecOk P CC S 67 ⟨slices_IndexFunc_string_string_ins, slices_IndexFunc_string_string_outs, slices_IndexFunc_string_string n⟩ :=
  fn_all ok (O := slices_IndexFunc_string_string_O) (H := slices_IndexFunc_string_string_H) (fn := Tryd.f67) (body := b67) (by kernel_rfl) (by kernel_rfl) (by kernel_rfl) (by decide) (by kernel_rfl)
    (fun x => by kernel_rfl) (fun n => by
      rintro ⟨⟨x1, ⟨⟩, ⟨⟩⟩, ⟨⟨⟨⟩, ⟨⟩⟩, ⟨⟨⟩, ⟨⟩⟩, ⟨⟨⟩, ⟨⟩⟩, x2, ⟨⟩⟩⟩
      kernel_rfl)
    (fun n => obl_of (by kernel_rfl) (by kernel_rfl) (ls (lz) (by kernel_rfl) (by kernel_rfl) (slices_IndexFunc_string_string_l2_k0 n)) (cn (cn (cn (cn (cn (cn (cn (cn (cn (cn (cz) (by kernel_rfl)) (by kernel_rfl)) (by kernel_rfl)) (by kernel_rfl)) (by kernel_rfl)) (by kernel_rfl)) (by kernel_rfl)) (by kernel_rfl)) (by kernel_rfl)) (by kernel_rfl)) (hn fun _ => rfl))
    (fun n ih => asc_cons (deps_Graph_All_1_ok ok n) <| asc_nil)
/-! ### (*pendulum/deps.Graph).All$1$1 -/
abbrev deps_Graph_All_1_1_2_ins : Sh := ⟨[(.one (.val .str)), (.one (.ptr 0 0))], [(.obj 38 [(.arr 1)]), (.arr 9 .str)]⟩
abbrev deps_Graph_All_1_1_2_outs : List Sh := [⟨[(.one (.val .bool))], [(.obj 38 [(.arr 1)]), (.arr 9 .str)]⟩]
def deps_Graph_All_1_1_2 : Nat → deps_Graph_All_1_1_2_ins.T → Option (OutsT deps_Graph_All_1_1_2_outs)
  | 0, _ => none
  | n + 1, ((x1, _, _), ((_, _), l2, _)) =>
    match slices_Contains_string_string n (((), x1, ()), (l2, ())) with
    | some ((x3, _), (l4, _)) => (
      some ((!x3, ()), (((), ()), l4, ())))
    | none => none
def deps_Graph_All_1_1_2_H (n : Nat) : Hints := ⟨[], fun _ => [], fun _ => none, fun _ => none, fun _ => none, fun _ => 0, fun _ => none⟩
def deps_Graph_All_1_1_2_O (n : Nat) : FuncId → List FSpec := asc [(69, ⟨slices_Contains_string_string_ins, slices_Contains_string_string_outs, slices_Contains_string_string n⟩)]
theorem deps_Graph_All_1_1_2_ok {S : Nat → Addr} (ok : CfgOk P CC S) : ∀ n, SpecOk P CC S 71 ⟨deps_Graph_All_1_1_2_ins, deps_Graph_All_1_1_2_outs, deps_Graph_All_1_1_2 n⟩ :=
  fn_all ok (O := deps_Graph_All_1_1_2_O) (H := deps_Graph_All_1_1_2_H) (fn := Tryd.f71) (body := b71) (by kernel_rfl) (by kernel_rfl) (by kernel_rfl) (by decide) (by kernel_rfl)
    (fun x => by kernel_rfl) (fun n => by
      rintro ⟨⟨x1, ⟨⟩, ⟨⟩⟩, ⟨⟨⟨⟩, ⟨⟩⟩, x2, ⟨⟩⟩⟩
      kernel_rfl)
    (fun n => obl_of (by kernel_rfl) (by kernel_rfl) (lz) (cn (cn (cz) (by kernel_rfl)) (by kernel_rfl)) (hn fun _ => rfl))
    (fun n ih => asc_cons (slices_Contains_string_string_ok ok n) <| asc_nil)
/-! ### slices.IndexFunc[[]string,string] -/
abbrev slices_IndexFunc_string_string_4_ins : Sh := ⟨[(.one (.val ty13)), (.one (.fn 71 [0]))], [(.obj 38 [(.arr 1)]), (.arr 9 .str)]⟩
abbrev slices_IndexFunc_string_string_4_outs : List Sh := [⟨[(.one (.val (.int .i64)))], [(.obj 38 [(.arr 1)]), (.arr 9 .str)]⟩]
abbrev slices_IndexFunc_string_string_4_l2_h : Sh := ⟨[(.one (.val ty13)), (.one (.fn 71 [0])), (.one (.val (.int .i64))), (.one (.val (.int .i64)))], [(.obj 38 [(.arr 1)]), (.arr 9 .str)]⟩
abbrev slices_IndexFunc_string_string_4_l2_o : List Out := [⟨(.exit 0), [], ⟨[], [(.obj 38 [(.arr 1)]), (.arr 9 .str)]⟩⟩, ⟨.ret, [4], ⟨[(.one (.val (.int .i64)))], [(.obj 38 [(.arr 1)]), (.arr 9 .str)]⟩⟩]
def slices_IndexFunc_string_string_4_l2 (n : Nat) : Nat → slices_IndexFunc_string_string_4_l2_h.T → Option (OutT slices_IndexFunc_string_string_4_l2_o)
  | 0, _ => none
  | k + 1, ((x1, _, x2, x3, _), ((_, _), l4, _)) =>
    if decide (x3 < x2) then
      if 0 ≤ x3 ∧ x3 < (x1.length : Int) then (
        match deps_Graph_All_1_1_2 n ((rdT (.str : Ty) x1 x3, (), ()), (((), ()), l4, ())) with
        | some ((x5, _), ((_, _), l6, _)) => (
          if x5 then
            some (.inr (.inl ((x3, ()), (((), ()), l6, ()))))
          else
            let v7 : Int := IntKind.i64.wrap (x3 + 1)
            slices_IndexFunc_string_string_4_l2 n k ((x1, (), x2, v7, ()), (((), ()), l6, ())))
        | none => none) else none
    else
      some (.inl ((), (((), ()), l4, ())))
def slices_IndexFunc_string_string_4 : Nat → slices_IndexFunc_string_string_4_ins.T → Option (OutsT slices_IndexFunc_string_string_4_outs)
  | 0, _ => none
  | n + 1, ((x1, _, _), ((_, _), l2, _)) =>
    match slices_IndexFunc_string_string_4_l2 n n ((x1, (), (x1.length : Int), 0, ()), (((), ()), l2, ())) with
    | some (.inl (_, ((_, _), l3, _))) => (
      some (((-1), ()), (((), ()), l3, ())))
    | some (.inr (.inl ((x4, _), ((_, _), l5, _)))) => (
      some ((x4, ()), (((), ()), l5, ())))
    | some (.inr (.inr (_))) => none
    | none => none
def slices_IndexFunc_string_string_4_H (n : Nat) : Hints := ⟨[], fun _ => [], fun k => match k with | 2 => some ⟨[0, 1, 7, 8], slices_IndexFunc_string_string_4_l2_h, slices_IndexFunc_string_string_4_l2_o, slices_IndexFunc_string_string_4_l2 n⟩ | _ => none, fun _ => none, fun _ => none, fun _ => 0, fun _ => none⟩
def slices_IndexFunc_string_string_4_O (n : Nat) : FuncId → List FSpec := asc [(71, ⟨deps_Graph_All_1_1_2_ins, deps_Graph_All_1_1_2_outs, deps_Graph_All_1_1_2 n⟩)]
theorem slices_IndexFunc_string_string_4_l2_k0 (n : Nat) : LoopOk P CC (slices_IndexFunc_string_string_4_O n) n 2 19 (slices_IndexFunc_string_string_4_H n) ⟨[0, 1, 7, 8], slices_IndexFunc_string_string_4_l2_h, slices_IndexFunc_string_string_4_l2_o, slices_IndexFunc_string_string_4_l2 n⟩ ((loopsOf b67).getD 0 .skip) := by
  refine ⟨fun _ => by kernel_rfl, ?_⟩
  rintro k ⟨⟨x1, ⟨⟩, x2, x3, ⟨⟩⟩, ⟨⟨⟨⟩, ⟨⟩⟩, x4, ⟨⟩⟩⟩
  kernel_rfl
theorem slices_IndexFunc_string_string_4_ok {S : Nat → Addr} (ok : CfgOk P CC S) : ∀ n, SpecOk P CC S 67 ⟨slices_IndexFunc_string_string_4_ins, slices_IndexFunc_string_string_4_outs, slices_IndexFunc_string_string_4 n⟩ :=
  fn_all ok (O := slices_IndexFunc_string_string_4_O) (H := slices_IndexFunc_string_string_4_H) (fn := Tryd.f67) (body := b67) (by kernel_rfl) (by kernel_rfl) (by kernel_rfl) (by decide) (by kernel_rfl)
    (fun x => by kernel_rfl) (fun n => by
      rintro ⟨⟨x1, ⟨⟩, ⟨⟩⟩, ⟨⟨⟨⟩, ⟨⟩⟩, x2, ⟨⟩⟩⟩
      kernel_rfl)
    (fun n => obl_of (by kernel_rfl) (by kernel_rfl) (ls (lz) (by kernel_rfl) (by kernel_rfl) (slices_IndexFunc_string_string_4_l2_k0 n)) (cn (cn (cn (cn (cn (cn (cn (cn (cn (cn (cz) (by kernel_rfl)) (by kernel_rfl)) (by kernel_rfl)) (by kernel_rfl)) (by kernel_rfl)) (by kernel_rfl)) (by kernel_rfl)) (by kernel_rfl)) (by kernel_rfl)) (by kernel_rfl)) (hn fun _ => rfl))
    (fun n ih => asc_cons (deps_Graph_All_1_1_2_ok ok n) <| asc_nil)
/-! ### slices.ContainsFunc[[]string,string] -/
abbrev slices_ContainsFunc_string_string_2_ins : Sh := ⟨[(.one (.val ty13)), (.one (.fn 71 [0]))], [(.obj 38 [(.arr 1)]), (.arr 9 .str)]⟩
abbrev slices_ContainsFunc_string_string_2_outs : List Sh := [⟨[(.one (.val .bool))], [(.obj 38 [(.arr 1)]), (.arr 9 .str)]⟩]
def slices_ContainsFunc_string_string_2 : Nat → slices_ContainsFunc_string_string_2_ins.T → Option (OutsT slices_ContainsFunc_string_string_2_outs)
  | 0, _ => none
  | n + 1, ((x1, _, _), ((_, _), l2, _)) =>
    match slices_IndexFunc_string_string_4 n ((x1, (), ()), (((), ()), l2, ())) with
    | some ((x3, _), ((_, _), l4, _)) => (
      some ((decide (x3 ≥ 0), ()), (((), ()), l4, ())))
    | none => none
def slices_ContainsFunc_string_string_2_H (n : Nat) : Hints := ⟨[], fun _ => [], fun _ => none, fun _ => none, fun _ => none, fun _ => 0, fun _ => none⟩
def slices_ContainsFunc_string_string_2_O (n : Nat) : FuncId → List FSpec := asc [(67, ⟨slices_IndexFunc_string_string_4_ins, slices_IndexFunc_string_string_4_outs, slices_IndexFunc_string_string_4 n⟩)]
theorem slices_ContainsFunc_string_string_2_ok {S : Nat → Addr} (ok : CfgOk P CC S) : ∀ n, SpecOk P CC S 70 ⟨slices_ContainsFunc_string_string_2_ins, slices_ContainsFunc_string_string_2_outs, slices_ContainsFunc_string_string_2 n⟩ :=
  fn_all ok (O := slices_ContainsFunc_string_string_2_O) (H := slices_ContainsFunc_string_string_2_H) (fn := Tryd.f70) (body := b70) (by kernel_rfl) (by kernel_rfl) (by kernel_rfl) (by decide) (by kernel_rfl)
    (fun x => by kernel_rfl) (fun n => by
      rintro ⟨⟨x1, ⟨⟩, ⟨⟩⟩, ⟨⟨⟨⟩, ⟨⟩⟩, x2, ⟨⟩⟩⟩
      kernel_rfl)
    (fun n => obl_of (by kernel_rfl) (by kernel_rfl) (lz) (cn (cn (cz) (by kernel_rfl)) (by kernel_rfl)) (hn fun _ => rfl))
    (fun n ih => asc_cons (slices_IndexFunc_string_string_4_ok ok n) <| asc_nil)
/-! ### (*pendulum/deps.Graph).All$1 -/
abbrev deps_Graph_All_1_2_ins : Sh := ⟨[(.one (.val .str)), (.one (.ptr 0 0)), (.one (.ptr 1 0))], [(.obj 38 [(.arr 2)]), (.obj 48 [(.ptr 3 0)]), (.arr 9 .str), (.obj 97 [(.map 4)]), (.map .str ty13 false)]⟩
abbrev deps_Graph_All_1_2_outs : List Sh := [⟨[(.one (.val .bool))], [(.obj 38 [(.arr 2)]), (.obj 48 [(.ptr 3 0)]), (.arr 9 .str), (.obj 97 [(.map 4)]), (.map .str ty13 false)]⟩]
def deps_Graph_All_1_2 : Nat → deps_Graph_All_1_2_ins.T → Option (OutsT deps_Graph_All_1_2_outs)
  | 0, _ => none
  | n + 1, ((x1, _, _, _), ((_, _), (_, _), l2, (_, _), m3, _)) =>
    match slices_Contains_string_string n (((), x1, ()), (l2, ())) with
    | some ((x4, _), (l5, _)) => (
      if !x4 then
        let v6 : List ByteArray := (mfind (keyEq (.str : Ty)) x1 m3).getD []
        match slices_ContainsFunc_string_string_2 n ((v6, (), ()), (((), ()), l5, ())) with
        | some ((x7, _), ((_, _), l8, _)) => (
          some ((!x7, ()), (((), ()), ((), ()), l8, ((), ()), m3, ())))
        | none => none
      else
        some ((false, ()), (((), ()), ((), ()), l5, ((), ()), m3, ())))
    | none => none
def deps_Graph_All_1_2_H (n : Nat) : Hints := ⟨[], fun _ => [], fun _ => none, fun _ => none, fun _ => none, fun _ => 0, fun _ => none⟩
def deps_Graph_All_1_2_O (n : Nat) : FuncId → List FSpec := asc [(69, ⟨slices_Contains_string_string_ins, slices_Contains_string_string_outs, slices_Contains_string_string n⟩), (70, ⟨slices_ContainsFunc_string_string_2_ins, slices_ContainsFunc_string_string_2_outs, slices_ContainsFunc_string_string_2 n⟩)]
theorem deps_Graph_All_1_2_ok {S : Nat → Addr} (ok : CfgOk P CC S) : ∀ n, SpecOk P CC S 68 ⟨deps_Graph_All_1_2_ins, deps_Graph_All_1_2_outs, deps_Graph_All_1_2 n⟩ :=
  fn_all ok (O := deps_Graph_All_1_2_O) (H := deps_Graph_All_1_2_H) (fn := Tryd.f68) (body := b68) (by kernel_rfl) (by kernel_rfl) (by kernel_rfl) (by decide) (by kernel_rfl)
    (fun x => by kernel_rfl) (fun n => by
      rintro ⟨⟨x1, ⟨⟩, ⟨⟩, ⟨⟩⟩, ⟨⟨⟨⟩, ⟨⟩⟩, ⟨⟨⟩, ⟨⟩⟩, x2, ⟨⟨⟩, ⟨⟩⟩, x3, ⟨⟩⟩⟩
      kernel_rfl)
    (fun n => obl_of (by kernel_rfl) (by kernel_rfl) (lz) (cn (cn (cz) (by kernel_rfl)) (by kernel_rfl)) (hn fun _ => rfl))
    (fun n ih => asc_cons (slices_Contains_string_string_ok ok n) <| asc_cons (slices_ContainsFunc_string_string_2_ok ok n) <| asc_nil)
/-! ### slices.IndexFunc[[]string,string] -/
abbrev slices_IndexFunc_string_string_3_ins : Sh := ⟨[(.one (.val ty13)), (.one (.fn 68 [0, 1]))], [(.obj 38 [(.arr 2)]), (.obj 48 [(.ptr 3 0)]), (.arr 9 .str), (.obj 97 [(.map 4)]), (.map .str ty13 false)]⟩
abbrev slices_IndexFunc_string_string_3_outs : List Sh := [⟨[(.one (.val (.int .i64)))], [(.obj 38 [(.arr 2)]), (.obj 48 [(.ptr 3 0)]), (.arr 9 .str), (.obj 97 [(.map 4)]), (.map .str ty13 false)]⟩]
abbrev slices_IndexFunc_string_string_3_l2_h : Sh := ⟨[(.one (.val ty13)), (.one (.fn 68 [0, 1])), (.one (.val (.int .i64))), (.one (.val (.int .i64)))], [(.obj 38 [(.arr 2)]), (.obj 48 [(.ptr 3 0)]), (.arr 9 .str), (.obj 97 [(.map 4)]), (.map .str ty13 false)]⟩
abbrev slices_IndexFunc_string_string_3_l2_o : List Out := [⟨(.exit 0), [], ⟨[], [(.obj 38 [(.arr 2)]), (.obj 48 [(.ptr 3 0)]), (.arr 9 .str), (.obj 97 [(.map 4)]), (.map .str ty13 false)]⟩⟩, ⟨.ret, [4], ⟨[(.one (.val (.int .i64)))], [(.obj 38 [(.arr 2)]), (.obj 48 [(.ptr 3 0)]), (.arr 9 .str), (.obj 97 [(.map 4)]), (.map .str ty13 false)]⟩⟩]
def slices_IndexFunc_string_string_3_l2 (n : Nat) : Nat → slices_IndexFunc_string_string_3_l2_h.T → Option (OutT slices_IndexFunc_string_string_3_l2_o)
  | 0, _ => none
  | k + 1, ((x1, _, x2, x3, _), ((_, _), (_, _), l4, (_, _), m5, _)) =>
    if decide (x3 < x2) then
      if 0 ≤ x3 ∧ x3 < (x1.length : Int) then (
        match deps_Graph_All_1_2 n ((rdT (.str : Ty) x1 x3, (), (), ()), (((), ()), ((), ()), l4, ((), ()), m5, ())) with
        | some ((x6, _), ((_, _), (_, _), l7, (_, _), m8, _)) => (
          if x6 then
            some (.inr (.inl ((x3, ()), (((), ()), ((), ()), l7, ((), ()), m8, ()))))
          else
            let v9 : Int := IntKind.i64.wrap (x3 + 1)
            slices_IndexFunc_string_string_3_l2 n k ((x1, (), x2, v9, ()), (((), ()), ((), ()), l7, ((), ()), m8, ())))
        | none => none) else none
    else
      some (.inl ((), (((), ()), ((), ()), l4, ((), ()), m5, ())))
def slices_IndexFunc_string_string_3 : Nat → slices_IndexFunc_string_string_3_ins.T → Option (OutsT slices_IndexFunc_string_string_3_outs)
  | 0, _ => none
  | n + 1, ((x1, _, _), ((_, _), (_, _), l2, (_, _), m3, _)) =>
    match slices_IndexFunc_string_string_3_l2 n n ((x1, (), (x1.length : Int), 0, ()), (((), ()), ((), ()), l2, ((), ()), m3, ())) with
    | some (.inl (_, ((_, _), (_, _), l4, (_, _), m5, _))) => (
      some (((-1), ()), (((), ()), ((), ()), l4, ((), ()), m5, ())))
    | some (.inr (.inl ((x6, _), ((_, _), (_, _), l7, (_, _), m8, _)))) => (
      some ((x6, ()), (((), ()), ((), ()), l7, ((), ()), m8, ())))
    | some (.inr (.inr (_))) => none
    | none => none
def slices_IndexFunc_string_string_3_H (n : Nat) : Hints := ⟨[], fun _ => [], fun k => match k with | 2 => some ⟨[0, 1, 7, 8], slices_IndexFunc_string_string_3_l2_h, slices_IndexFunc_string_string_3_l2_o, slices_IndexFunc_string_string_3_l2 n⟩ | _ => none, fun _ => none, fun _ => none, fun _ => 0, fun _ => none⟩
def slices_IndexFunc_string_string_3_O (n : Nat) : FuncId → List FSpec := asc [(68, ⟨deps_Graph_All_1_2_ins, deps_Graph_All_1_2_outs, deps_Graph_All_1_2 n⟩)]
theorem slices_IndexFunc_string_string_3_l2_k0 (n : Nat) : LoopOk P CC (slices_IndexFunc_string_string_3_O n) n 5 19 (slices_IndexFunc_string_string_3_H n) ⟨[0, 1, 7, 8], slices_IndexFunc_string_string_3_l2_h, slices_IndexFunc_string_string_3_l2_o, slices_IndexFunc_string_string_3_l2 n⟩ ((loopsOf b67).getD 0 .skip) := by
  refine ⟨fun _ => by kernel_rfl, ?_⟩
  rintro k ⟨⟨x1, ⟨⟩, x2, x3, ⟨⟩⟩, ⟨⟨⟨⟩, ⟨⟩⟩, ⟨⟨⟩, ⟨⟩⟩, x4, ⟨⟨⟩, ⟨⟩⟩, x5, ⟨⟩⟩⟩
  kernel_rfl
theorem slices_IndexFunc_string_string_3_ok {S : Nat → Addr} (ok : CfgOk P CC S) : ∀ n, SpecOk P CC S 67 ⟨slices_IndexFunc_string_string_3_ins, slices_IndexFunc_string_string_3_outs, slices_IndexFunc_string_string_3 n⟩ :=
  fn_all ok (O := slices_IndexFunc_string_string_3_O) (H := slices_IndexFunc_string_string_3_H) (fn := Tryd.f67) (body := b67) (by kernel_rfl) (by kernel_rfl) (by kernel_rfl) (by decide) (by kernel_rfl)
    (fun x => by kernel_rfl) (fun n => by
      rintro ⟨⟨x1, ⟨⟩, ⟨⟩⟩, ⟨⟨⟨⟩, ⟨⟩⟩, ⟨⟨⟩, ⟨⟩⟩, x2, ⟨⟨⟩, ⟨⟩⟩, x3, ⟨⟩⟩⟩
      kernel_rfl)
    (fun n => obl_of (by kernel_rfl) (by kernel_rfl) (ls (lz) (by kernel_rfl) (by kernel_rfl) (slices_IndexFunc_string_string_3_l2_k0 n)) (cn (cn (cn (cn (cn (cn (cn (cn (cn (cn (cz) (by kernel_rfl)) (by kernel_rfl)) (by kernel_rfl)) (by kernel_rfl)) (by kernel_rfl)) (by kernel_rfl)) (by kernel_rfl)) (by kernel_rfl)) (by kernel_rfl)) (by kernel_rfl)) (hn fun _ => rfl))
    (fun n ih => asc_cons (deps_Graph_All_1_2_ok ok n) <| asc_nil)
/-! ### (*pendulum/deps.Graph).All -/
abbrev deps_Graph_All_ins : Sh := ⟨[(.one (.ptr 0 0)), (.one (.val .str))], [(.obj 97 [(.map 1)]), (.map .str ty13 false)]⟩
abbrev deps_Graph_All_outs : List Sh := [⟨[(.tup [(false, [(.arr 2)]), (false, [(.val .err)])])], [(.obj 97 [(.map 1)]), (.map .str ty13 false), (.arr 9 .str)]⟩]
abbrev deps_Graph_All_l5_h : Sh := ⟨[(.one (.ptr 2 0)), (.one (.val ty13)), (.one (.ptr 3 0))], [(.obj 97 [(.map 1)]), (.map .str ty13 false), (.obj 48 [(.ptr 0 0)]), (.obj 38 [(.arr 4)]), (.arr 9 .str)]⟩
abbrev deps_Graph_All_l5_o : List Out := [⟨(.exit 0), [8], ⟨[(.one (.ptr 2 0))], [(.obj 97 [(.map 1)]), (.map .str ty13 false), (.obj 38 [(.arr 3)]), (.arr 9 .str)]⟩⟩, ⟨.ret, [4, 5], ⟨[(.one (.emp true)), (.one (.val .err))], [(.obj 97 [(.map 1)]), (.map .str ty13 false)]⟩⟩]
def deps_Graph_All_l5 (n : Nat) : Nat → deps_Graph_All_l5_h.T → Option (OutT deps_Graph_All_l5_o)
  | 0, _ => none
  | k + 1, ((_, x1, _, _), ((_, _), m2, (_, _), (_, _), l3, _)) =>
    if decide ((l3.length : Int) < (x1.length : Int)) then
      match slices_IndexFunc_string_string_3 n ((x1, (), ()), (((), ()), ((), ()), l3, ((), ()), m2, ())) with
      | some ((x4, _), ((_, _), (_, _), l5, (_, _), m6, _)) => (
        if decide (x4 < 0) then
          some (.inr (.inl (((), ErrV.sent 113, ()), (((), ()), m6, ()))))
        else
          if 0 ≤ x4 ∧ x4 < (x1.length : Int) then (
            if (l5.length + ([rdT (.str : Ty) x1 x4] : List (.str : Ty).T).length) * 16 ≤ 140737488355328 then (
              deps_Graph_All_l5 n k (((), x1, (), ()), (((), ()), m6, ((), ()), ((), ()), l5 ++ [rdT (.str : Ty) x1 x4], ()))) else none) else none)
      | none => none
    else
      some (.inl (((), ()), (((), ()), m2, ((), ()), l3, ())))
def deps_Graph_All : Nat → deps_Graph_All_ins.T → Option (OutsT deps_Graph_All_outs)
  | 0, _ => none
  | n + 1, ((_, x1, _), ((_, _), m2, _)) =>
    match deps_Graph_reach n (((), x1, ()), (((), ()), m2, ())) with
    | some ((((_, _), (x3, _), _), _), ((_, _), m4, l5, _)) => (
      if !(errNil x3) then
        some (((((), ()), (x3, ()), ()), ()), (((), ()), m4, [], ()))
      else
        match deps_Graph_All_l5 n n (((), l5, (), ()), (((), ()), m4, ((), ()), ((), ()), [], ())) with
        | some (.inl ((_, _), ((_, _), m6, (_, _), l7, _))) => (
          some (((((), ()), (ErrV.nil, ()), ()), ()), (((), ()), m6, l7, ())))
        | some (.inr (.inl ((_, x8, _), ((_, _), m9, _)))) => (
          some (((((), ()), (x8, ()), ()), ()), (((), ()), m9, [], ())))
        | some (.inr (.inr (_))) => none
        | none => none)
    | none => none
def deps_Graph_All_H (n : Nat) : Hints := ⟨[], fun _ => [], fun k => match k with | 5 => some ⟨[2, 6, 8], deps_Graph_All_l5_h, deps_Graph_All_l5_o, deps_Graph_All_l5 n⟩ | _ => none, fun _ => none, fun _ => none, fun _ => 0, fun _ => none⟩
def deps_Graph_All_O (n : Nat) : FuncId → List FSpec := asc [(66, ⟨deps_Graph_reach_ins, deps_Graph_reach_outs, deps_Graph_reach n⟩), (67, ⟨slices_IndexFunc_string_string_3_ins, slices_IndexFunc_string_string_3_outs, slices_IndexFunc_string_string_3 n⟩)]
def b23 : Code := bodyOf Tryd.f23
theorem deps_Graph_All_l5_k0 (n : Nat) : LoopOk P CC (deps_Graph_All_O n) n 2 38 (deps_Graph_All_H n) ⟨[2, 6, 8], deps_Graph_All_l5_h, deps_Graph_All_l5_o, deps_Graph_All_l5 n⟩ ((loopsOf b23).getD 0 .skip) := by
  refine ⟨fun _ => by kernel_rfl, ?_⟩
  rintro k ⟨⟨⟨⟩, x1, ⟨⟩, ⟨⟩⟩, ⟨⟨⟨⟩, ⟨⟩⟩, x2, ⟨⟨⟩, ⟨⟩⟩, ⟨⟨⟩, ⟨⟩⟩, x3, ⟨⟩⟩⟩
  kernel_rfl
theorem deps_Graph_All_ok {S : Nat → Addr} (ok : CfgOk P CC S) : ∀ n, SpecOk P CC S 23 ⟨deps_Graph_All_ins, deps_Graph_All_outs, deps_Graph_All n⟩ :=
  fn_all ok (O := deps_Graph_All_O) (H := deps_Graph_All_H) (fn := Tryd.f23) (body := b23) (by kernel_rfl) (by kernel_rfl) (by kernel_rfl) (by decide) (by kernel_rfl)
    (fun x => by kernel_rfl) (fun n => by
      rintro ⟨⟨⟨⟩, x1, ⟨⟩⟩, ⟨⟨⟨⟩, ⟨⟩⟩, x2, ⟨⟩⟩⟩
      kernel_rfl)
    (fun n => obl_of (by kernel_rfl) (by kernel_rfl) (ls (lz) (by kernel_rfl) (by kernel_rfl) (deps_Graph_All_l5_k0 n)) (cn (cn (cn (cn (cn (cn (cn (cn (cn (cn (cn (cn (cn (cn (cz) (by kernel_rfl)) (by kernel_rfl)) (by kernel_rfl)) (by kernel_rfl)) (by kernel_rfl)) (by kernel_rfl)) (by kernel_rfl)) (by kernel_rfl)) (by kernel_rfl)) (by kernel_rfl)) (by kernel_rfl)) (by kernel_rfl)) (by kernel_rfl)) (by kernel_rfl)) (hn fun _ => rfl))
    (fun n ih => asc_cons (deps_Graph_reach_ok ok n) <| asc_cons (slices_IndexFunc_string_string_3_ok ok n) <| asc_nil)
/-! ### pendulum/pendulumref.SameTexts -/
abbrev ref_SameTexts_ins : Sh := ⟨[(.one (.val ty13)), (.one (.val ty13))], []⟩
abbrev ref_SameTexts_outs : List Sh := [⟨[(.one (.val .bool))], []⟩]
abbrev ref_SameTexts_l4_h : Sh := ⟨[(.one (.val ty13)), (.one (.val ty13)), (.one (.val (.int .i64)))], []⟩
abbrev ref_SameTexts_l4_o : List Out := [⟨(.exit 0), [], ⟨[], []⟩⟩, ⟨.ret, [4], ⟨[(.one (.val .bool))], []⟩⟩]
def ref_SameTexts_l4 (n : Nat) : Nat → ref_SameTexts_l4_h.T → Option (OutT ref_SameTexts_l4_o)
  | 0, _ => none
  | k + 1, ((x1, x2, x3, _), _) =>
    if decide (x3 < (x1.length : Int)) then
      if 0 ≤ x3 ∧ x3 < (x1.length : Int) then (
        if 0 ≤ x3 ∧ x3 < (x2.length : Int) then (
          if !(strEq (rdT (.str : Ty) x1 x3) (rdT (.str : Ty) x2 x3)) then
            some (.inr (.inl ((false, ()), ())))
          else
            let v4 : Int := IntKind.i64.wrap (x3 + 1)
            ref_SameTexts_l4 n k ((x1, x2, v4, ()), ())) else none) else none
    else
      some (.inl ((), ()))
def ref_SameTexts : Nat → ref_SameTexts_ins.T → Option (OutsT ref_SameTexts_outs)
  | 0, _ => none
  | n + 1, ((x1, x2, _), _) =>
    if (x1.length : Int) != (x2.length : Int) then
      some ((false, ()), ())
    else
      match ref_SameTexts_l4 n n ((x1, x2, 0, ()), ()) with
      | some (.inl (_, _)) => (
        some ((true, ()), ()))
      | some (.inr (.inl ((x3, _), _))) => (
        some ((x3, ()), ()))
      | some (.inr (.inr (_))) => none
      | none => none
def ref_SameTexts_H (n : Nat) : Hints := ⟨[], fun _ => [], fun k => match k with | 4 => some ⟨[0, 1, 5], ref_SameTexts_l4_h, ref_SameTexts_l4_o, ref_SameTexts_l4 n⟩ | _ => none, fun _ => none, fun _ => none, fun _ => 0, fun _ => none⟩
def ref_SameTexts_O (n : Nat) : FuncId → List FSpec := asc []
def b24 : Code := bodyOf Tryd.f24
theorem ref_SameTexts_l4_k0 (n : Nat) : LoopOk P CC (ref_SameTexts_O n) n 0 29 (ref_SameTexts_H n) ⟨[0, 1, 5], ref_SameTexts_l4_h, ref_SameTexts_l4_o, ref_SameTexts_l4 n⟩ ((loopsOf b24).getD 0 .skip) := by
  refine ⟨fun _ => by kernel_rfl, ?_⟩
  rintro k ⟨⟨x1, x2, x3, ⟨⟩⟩, ⟨⟩⟩
  kernel_rfl
theorem ref_SameTexts_ok {S : Nat → Addr} (ok : CfgOk P CC S) : ∀ n, SpecOk P CC S 24 ⟨ref_SameTexts_ins, ref_SameTexts_outs, ref_SameTexts n⟩ :=
  fn_all ok (O := ref_SameTexts_O) (H := ref_SameTexts_H) (fn := Tryd.f24) (body := b24) (by kernel_rfl) (by kernel_rfl) (by kernel_rfl) (by decide) (by kernel_rfl)
    (fun x => by kernel_rfl) (fun n => by
      rintro ⟨⟨x1, x2, ⟨⟩⟩, ⟨⟩⟩
      kernel_rfl)
    (fun n => obl_of (by kernel_rfl) (by kernel_rfl) (ls (lz) (by kernel_rfl) (by kernel_rfl) (ref_SameTexts_l4_k0 n)) (cn (cn (cn (cn (cn (cn (cn (cn (cn (cn (cn (cn (cn (cz) (by kernel_rfl)) (by kernel_rfl)) (by kernel_rfl)) (by kernel_rfl)) (by kernel_rfl)) (by kernel_rfl)) (by kernel_rfl)) (by kernel_rfl)) (by kernel_rfl)) (by kernel_rfl)) (by kernel_rfl)) (by kernel_rfl)) (by kernel_rfl)) (hn fun _ => rfl))
    (fun n ih => asc_nil)
/-! ### pendulum/pendulumlaw24.first -/
abbrev law24_first_ins : Sh := ⟨[], []⟩
abbrev law24_first_outs : List Sh := [⟨[(.one (.val .bool))], []⟩]
def law24_first : Nat → law24_first_ins.T → Option (OutsT law24_first_outs)
  | 0, _ => none
  | n + 1, (_, _) =>
    match deps_New n (((), ()), ([((⟨#[102]⟩ : ByteArray), ([], ([], ([], []))))], ())) with
    | some (.inl ((((_, _), (x1, _), _), _), (l2, (_, _), m3, _))) => (
      if !(errNil x1) then
        some ((false, ()), ())
      else
        match deps_Graph_All n (((), (⟨#[102]⟩ : ByteArray), ()), (((), ()), m3, ())) with
        | some ((((_, _), (x6, _), _), _), ((_, _), m7, l8, _)) => (
          if errNil x6 then
            match ref_SameTexts n ((l8, [(⟨#[102]⟩ : ByteArray)], ()), ()) with
            | some ((x9, _), _) => (
              some ((x9, ()), ()))
            | none => none
          else
            some ((false, ()), ()))
        | none => none)
    | some (.inr (((((_, _), (x4, _), _), _), (l5, _)))) => (
      some ((false, ()), ()))
    | none => none
def law24_first_H (n : Nat) : Hints := ⟨[], fun _ => [], fun _ => none, fun _ => none, fun _ => none, fun _ => 0, fun _ => none⟩
def law24_first_O (n : Nat) : FuncId → List FSpec := asc [(21, ⟨deps_New_ins, deps_New_outs, deps_New n⟩), (23, ⟨deps_Graph_All_ins, deps_Graph_All_outs, deps_Graph_All n⟩), (24, ⟨ref_SameTexts_ins, ref_SameTexts_outs, ref_SameTexts n⟩)]
def b19 : Code := bodyOf Tryd.f19
theorem law24_first_ok {S : Nat → Addr} (ok : CfgOk P CC S) : ∀ n, SpecOk P CC S 19 ⟨law24_first_ins, law24_first_outs, law24_first n⟩ :=
  fn_all ok (O := law24_first_O) (H := law24_first_H) (fn := Tryd.f19) (body := b19) (by kernel_rfl) (by kernel_rfl) (by kernel_rfl) (by decide) (by kernel_rfl)
    (fun x => by kernel_rfl) (fun n => by
      rintro ⟨⟨⟩, ⟨⟩⟩
      kernel_rfl)
    (fun n => obl_of (by kernel_rfl) (by kernel_rfl) (lz) (cn (cn (cn (cn (cn (cn (cn (cz) (by kernel_rfl)) (by kernel_rfl)) (by kernel_rfl)) (by kernel_rfl)) (by kernel_rfl)) (by kernel_rfl)) (by kernel_rfl)) (hn fun _ => rfl))
    (fun n ih => asc_cons (deps_New_ok ok n) <| asc_cons (deps_Graph_All_ok ok n) <| asc_cons (ref_SameTexts_ok ok n) <| asc_nil)
/-! ### pendulum/pendulumworld.decls -/
abbrev world_decls_ins : Sh := ⟨[(.one (.val ty2))], []⟩
abbrev world_decls_outs : List Sh := [⟨[(.one (.val .bool))], []⟩]
abbrev world_decls_l7_h : Sh := ⟨[(.one (.val ty2)), (.one (.val (.int .i64))), (.one (.val (.int .i64)))], []⟩
abbrev world_decls_l7_o : List Out := [⟨(.exit 2), [0, 3], ⟨[(.one (.val ty2)), (.one (.val (.int .i64)))], []⟩⟩, ⟨.ret, [2], ⟨[(.one (.val .bool))], []⟩⟩]
def world_decls_l7 (n : Nat) : Nat → world_decls_l7_h.T → Option (OutT world_decls_l7_o)
  | 0, _ => none
  | k + 1, ((x1, x2, x3, _), _) =>
    if 0 ≤ x2 ∧ x2 < (x1.length : Int) then (
      if decide (x3 < (((((rdT ty3 x1 x2).2).2).2).length : Int)) then
        if 0 ≤ x2 ∧ x2 < (x1.length : Int) then (
          if 0 ≤ x3 ∧ x3 < (((((rdT ty3 x1 x2).2).2).2).length : Int) then (
            let v4 : ty7.T := rdT ty7 ((((rdT ty3 x1 x2).2).2).2) x3
            if decide ((v4.1.size : Int) > 60) then
              some (.inr (.inl ((false, ()), ())))
            else
              let v5 : Int := IntKind.i64.wrap (x3 + 1)
              world_decls_l7 n k ((x1, x2, v5, ()), ())) else none) else none
      else
        some (.inl ((x1, x2, ()), ()))) else none
abbrev world_decls_l2_h : Sh := ⟨[(.one (.val ty2)), (.one (.val (.int .i64)))], []⟩
abbrev world_decls_l2_o : List Out := [⟨(.exit 0), [0], ⟨[(.one (.val ty2))], []⟩⟩, ⟨.ret, [2], ⟨[(.one (.val .bool))], []⟩⟩]
def world_decls_l2 (n : Nat) : Nat → world_decls_l2_h.T → Option (OutT world_decls_l2_o)
  | 0, _ => none
  | k + 1, ((x1, x2, _), _) =>
    if decide (x2 < (x1.length : Int)) then
      if 0 ≤ x2 ∧ x2 < (x1.length : Int) then (
        if decide (((((rdT ty3 x1 x2).2).1).size : Int) > 60) then
          some (.inr (.inl ((false, ()), ())))
        else
          if 0 ≤ x2 ∧ x2 < (x1.length : Int) then (
            if decide ((((((rdT ty3 x1 x2).2).2).2).length : Int) > 8) then
              some (.inr (.inl ((false, ()), ())))
            else
              match world_decls_l7 n n ((x1, x2, 0, ()), ()) with
              | some (.inl ((x3, x4, _), _)) => (
                let v6 : Int := IntKind.i64.wrap (x4 + 1)
                world_decls_l2 n k ((x3, v6, ()), ()))
              | some (.inr (.inl ((x5, _), _))) => (
                some (.inr (.inl ((x5, ()), ()))))
              | some (.inr (.inr (_))) => none
              | none => none) else none) else none
    else
      some (.inl ((x1, ()), ()))
def world_decls : Nat → world_decls_ins.T → Option (OutsT world_decls_outs)
  | 0, _ => none
  | n + 1, ((x1, _), _) =>
    match world_decls_l2 n n ((x1, 0, ()), ()) with
    | some (.inl ((x2, _), _)) => (
      some ((decide ((x2.length : Int) ≤ 40), ()), ()))
    | some (.inr (.inl ((x3, _), _))) => (
      some ((x3, ()), ()))
    | some (.inr (.inr (_))) => none
    | none => none
def world_decls_H (n : Nat) : Hints := ⟨[], fun _ => [], fun k => match k with | 7 => some ⟨[0, 3, 4], world_decls_l7_h, world_decls_l7_o, world_decls_l7 n⟩ | 2 => some ⟨[0, 3], world_decls_l2_h, world_decls_l2_o, world_decls_l2 n⟩ | _ => none, fun _ => none, fun _ => none, fun _ => 0, fun _ => none⟩
def world_decls_O (n : Nat) : FuncId → List FSpec := asc []
def b40 : Code := bodyOf Tryd.f40
theorem world_decls_l2_k0 (n : Nat) : LoopOk P CC (world_decls_O n) n 0 51 (world_decls_H n) ⟨[0, 3], world_decls_l2_h, world_decls_l2_o, world_decls_l2 n⟩ ((loopsOf b40).getD 0 .skip) := by
  refine ⟨fun _ => by kernel_rfl, ?_⟩
  rintro k ⟨⟨x1, x2, ⟨⟩⟩, ⟨⟩⟩
  kernel_rfl
theorem world_decls_l7_k1 (n : Nat) : LoopOk P CC (world_decls_O n) n 0 51 (world_decls_H n) ⟨[0, 3, 4], world_decls_l7_h, world_decls_l7_o, world_decls_l7 n⟩ ((loopsOf b40).getD 1 .skip) := by
  refine ⟨fun _ => by kernel_rfl, ?_⟩
  rintro k ⟨⟨x1, x2, x3, ⟨⟩⟩, ⟨⟩⟩
  kernel_rfl
theorem world_decls_ok {S : Nat → Addr} (ok : CfgOk P CC S) : ∀ n, SpecOk P CC S 40 ⟨world_decls_ins, world_decls_outs, world_decls n⟩ :=
  fn_all ok (O := world_decls_O) (H := world_decls_H) (fn := Tryd.f40) (body := b40) (by kernel_rfl) (by kernel_rfl) (by kernel_rfl) (by decide) (by kernel_rfl)
    (fun x => by kernel_rfl) (fun n => by
      rintro ⟨⟨x1, ⟨⟩⟩, ⟨⟩⟩
      kernel_rfl)
    (fun n => obl_of (by kernel_rfl) (by kernel_rfl) (ls (ls (lz) (by kernel_rfl) (by kernel_rfl) (world_decls_l2_k0 n)) (by kernel_rfl) (by kernel_rfl) (world_decls_l7_k1 n)) (cn (cn (cn (cn (cn (cn (cn (cn (cn (cn (cn (cn (cn (cn (cn (cn (cz) (by kernel_rfl)) (by kernel_rfl)) (by kernel_rfl)) (by kernel_rfl)) (by kernel_rfl)) (by kernel_rfl)) (by kernel_rfl)) (by kernel_rfl)) (by kernel_rfl)) (by kernel_rfl)) (by kernel_rfl)) (by kernel_rfl)) (by kernel_rfl)) (by kernel_rfl)) (by kernel_rfl)) (by kernel_rfl)) (hn fun _ => rfl))
    (fun n ih => asc_nil)
/-! ### pendulum/pendulumworld.texts -/
abbrev world_texts_ins : Sh := ⟨[(.one (.val ty13))], []⟩
abbrev world_texts_outs : List Sh := [⟨[(.one (.val .bool))], []⟩]
abbrev world_texts_l2_h : Sh := ⟨[(.one (.val ty13)), (.one (.val (.int .i64)))], []⟩
abbrev world_texts_l2_o : List Out := [⟨(.exit 0), [0], ⟨[(.one (.val ty13))], []⟩⟩, ⟨.ret, [2], ⟨[(.one (.val .bool))], []⟩⟩]
def world_texts_l2 (n : Nat) : Nat → world_texts_l2_h.T → Option (OutT world_texts_l2_o)
  | 0, _ => none
  | k + 1, ((x1, x2, _), _) =>
    if decide (x2 < (x1.length : Int)) then
      if 0 ≤ x2 ∧ x2 < (x1.length : Int) then (
        if decide (((rdT (.str : Ty) x1 x2).size : Int) > 60) then
          some (.inr (.inl ((false, ()), ())))
        else
          let v3 : Int := IntKind.i64.wrap (x2 + 1)
          world_texts_l2 n k ((x1, v3, ()), ())) else none
    else
      some (.inl ((x1, ()), ()))
def world_texts : Nat → world_texts_ins.T → Option (OutsT world_texts_outs)
  | 0, _ => none
  | n + 1, ((x1, _), _) =>
    match world_texts_l2 n n ((x1, 0, ()), ()) with
    | some (.inl ((x2, _), _)) => (
      some ((decide ((x2.length : Int) ≤ 20), ()), ()))
    | some (.inr (.inl ((x3, _), _))) => (
      some ((x3, ()), ()))
    | some (.inr (.inr (_))) => none
    | none => none
def world_texts_H (n : Nat) : Hints := ⟨[], fun _ => [], fun k => match k with | 2 => some ⟨[0, 3], world_texts_l2_h, world_texts_l2_o, world_texts_l2 n⟩ | _ => none, fun _ => none, fun _ => none, fun _ => 0, fun _ => none⟩
def world_texts_O (n : Nat) : FuncId → List FSpec := asc []
def b41 : Code := bodyOf Tryd.f41
theorem world_texts_l2_k0 (n : Nat) : LoopOk P CC (world_texts_O n) n 0 19 (world_texts_H n) ⟨[0, 3], world_texts_l2_h, world_texts_l2_o, world_texts_l2 n⟩ ((loopsOf b41).getD 0 .skip) := by
  refine ⟨fun _ => by kernel_rfl, ?_⟩
  rintro k ⟨⟨x1, x2, ⟨⟩⟩, ⟨⟩⟩
  kernel_rfl
theorem world_texts_ok {S : Nat → Addr} (ok : CfgOk P CC S) : ∀ n, SpecOk P CC S 41 ⟨world_texts_ins, world_texts_outs, world_texts n⟩ :=
  fn_all ok (O := world_texts_O) (H := world_texts_H) (fn := Tryd.f41) (body := b41) (by kernel_rfl) (by kernel_rfl) (by kernel_rfl) (by decide) (by kernel_rfl)
    (fun x => by kernel_rfl) (fun n => by
      rintro ⟨⟨x1, ⟨⟩⟩, ⟨⟩⟩
      kernel_rfl)
    (fun n => obl_of (by kernel_rfl) (by kernel_rfl) (ls (lz) (by kernel_rfl) (by kernel_rfl) (world_texts_l2_k0 n)) (cn (cn (cn (cn (cn (cn (cn (cn (cn (cz) (by kernel_rfl)) (by kernel_rfl)) (by kernel_rfl)) (by kernel_rfl)) (by kernel_rfl)) (by kernel_rfl)) (by kernel_rfl)) (by kernel_rfl)) (by kernel_rfl)) (hn fun _ => rfl))
    (fun n ih => asc_nil)
/-! ### pendulum/pendulumworld.few -/
abbrev world_few_ins : Sh := ⟨[(.agg [(.val (.int .i64)), (.val (.int .i64)), (.val (.int .i64)), (.val .str), (.val ty21)]), (.one (.val (.int .i64)))], []⟩
abbrev world_few_outs : List Sh := [⟨[(.one (.val .bool))], []⟩]
abbrev world_few_l4_h : Sh := ⟨[(.one (.val (.int .i64))), (.one (.ptr 0 0)), (.one (.val (.int .i64)))], [(.obj 41 [(.val (.int .i64)), (.val (.int .i64)), (.val (.int .i64)), (.val .str), (.val ty21)])]⟩
abbrev world_few_l4_o : List Out := [⟨(.exit 0), [], ⟨[], []⟩⟩, ⟨.ret, [4], ⟨[(.one (.val .bool))], []⟩⟩]
def world_few_l4 (n : Nat) (rc : world_few_ins.T → Option (OutsT world_few_outs)) : Nat → world_few_l4_h.T → Option (OutT world_few_l4_o)
  | 0, _ => none
  | k + 1, ((x1, _, x2, _), ((x3, x4, x5, x6, x7, _), _)) =>
    if decide (x2 < (x7.length : Int)) then
      if 0 ≤ x2 ∧ x2 < (x7.length : Int) then (
        let v8 : Int := IntKind.i64.wrap (x1 - 1)
        match rc ((((rdT ty15 x7 x2).1, ((rdT ty15 x7 x2).2).1, (((rdT ty15 x7 x2).2).2).1, ((((rdT ty15 x7 x2).2).2).2).1, (((((rdT ty15 x7 x2).2).2).2).2).map Rx.un, ()), v8, ()), ()) with
        | some ((x9, _), _) => (
          if !x9 then
            some (.inr (.inl ((false, ()), ())))
          else
            let v10 : Int := IntKind.i64.wrap (x2 + 1)
            world_few_l4 n rc k ((x1, (), v10, ()), ((x3, x4, x5, x6, x7, ()), ())))
        | none => none) else none
    else
      some (.inl ((), ()))
def world_few : Nat → world_few_ins.T → Option (OutsT world_few_outs)
  | 0, _ => none
  | n + 1, (((x1, x2, x3, x4, x5, _), x6, _), _) =>
    if x6 == 0 then
      some ((false, ()), ())
    else
      if decide ((x4.size : Int) > 60) then
        some ((false, ()), ())
      else
        if decide ((x5.length : Int) > 8) then
          some ((false, ()), ())
        else
          match world_few_l4 n (world_few n) n ((x6, (), 0, ()), ((x1, x2, x3, x4, x5, ()), ())) with
          | some (.inl (_, _)) => (
            some ((true, ()), ()))
          | some (.inr (.inl ((x7, _), _))) => (
            some ((x7, ()), ()))
          | some (.inr (.inr (_))) => none
          | none => none
def world_few_H (n : Nat) : Hints := ⟨[], fun _ => [], fun k => match k with | 4 => some ⟨[1, 2, 5], world_few_l4_h, world_few_l4_o, world_few_l4 n (world_few n)⟩ | _ => none, fun _ => none, fun _ => none, fun _ => 0, fun _ => none⟩
def world_few_O (n : Nat) : FuncId → List FSpec := asc [(42, ⟨world_few_ins, world_few_outs, world_few n⟩)]
def b42 : Code := bodyOf Tryd.f42
theorem world_few_l4_k0 (n : Nat) : LoopOk P CC (world_few_O n) n 0 36 (world_few_H n) ⟨[1, 2, 5], world_few_l4_h, world_few_l4_o, world_few_l4 n (world_few n)⟩ ((loopsOf b42).getD 0 .skip) := by
  refine ⟨fun _ => by kernel_rfl, ?_⟩
  rintro k ⟨⟨x1, ⟨⟩, x2, ⟨⟩⟩, ⟨⟨x3, x4, x5, x6, x7, ⟨⟩⟩, ⟨⟩⟩⟩
  kernel_rfl
theorem world_few_ok {S : Nat → Addr} (ok : CfgOk P CC S) : ∀ n, SpecOk P CC S 42 ⟨world_few_ins, world_few_outs, world_few n⟩ :=
  fn_all ok (O := world_few_O) (H := world_few_H) (fn := Tryd.f42) (body := b42) (by kernel_rfl) (by kernel_rfl) (by kernel_rfl) (by decide) (by kernel_rfl)
    (fun x => by kernel_rfl) (fun n => by
      rintro ⟨⟨⟨x1, x2, x3, x4, x5, ⟨⟩⟩, x6, ⟨⟩⟩, ⟨⟩⟩
      kernel_rfl)
    (fun n => obl_of (by kernel_rfl) (by kernel_rfl) (ls (lz) (by kernel_rfl) (by kernel_rfl) (world_few_l4_k0 n)) (cn (cn (cn (cn (cn (cn (cn (cn (cn (cn (cn (cn (cz) (by kernel_rfl)) (by kernel_rfl)) (by kernel_rfl)) (by kernel_rfl)) (by kernel_rfl)) (by kernel_rfl)) (by kernel_rfl)) (by kernel_rfl)) (by kernel_rfl)) (by kernel_rfl)) (by kernel_rfl)) (by kernel_rfl)) (hn fun _ => rfl))
    (fun n ih => asc_cons (ih) <| asc_nil)
/-! ### pendulum/pendulumworld.many -/
abbrev world_many_ins : Sh := ⟨[(.agg [(.val (.int .i64)), (.val (.int .i64)), (.val (.int .i64)), (.val .str), (.val ty21)])], []⟩
abbrev world_many_outs : List Sh := [⟨[(.one (.val (.int .i64)))], []⟩]
abbrev world_many_l3_h : Sh := ⟨[(.one (.ptr 0 0)), (.one (.val (.int .i64))), (.one (.val (.int .i64)))], [(.obj 41 [(.val (.int .i64)), (.val (.int .i64)), (.val (.int .i64)), (.val .str), (.val ty21)])]⟩
abbrev world_many_l3_o : List Out := [⟨(.exit 0), [3], ⟨[(.one (.val (.int .i64)))], []⟩⟩]
def world_many_l3 (n : Nat) (rc : world_many_ins.T → Option (OutsT world_many_outs)) : Nat → world_many_l3_h.T → Option (OutT world_many_l3_o)
  | 0, _ => none
  | k + 1, ((_, x1, x2, _), ((x3, x4, x5, x6, x7, _), _)) =>
    if decide (x2 < (x7.length : Int)) then
      if 0 ≤ x2 ∧ x2 < (x7.length : Int) then (
        match rc ((((rdT ty15 x7 x2).1, ((rdT ty15 x7 x2).2).1, (((rdT ty15 x7 x2).2).2).1, ((((rdT ty15 x7 x2).2).2).2).1, (((((rdT ty15 x7 x2).2).2).2).2).map Rx.un, ()), ()), ()) with
        | some ((x8, _), _) => (
          let v9 : Int := IntKind.i64.wrap (x1 + x8)
          let v10 : Int := IntKind.i64.wrap (x2 + 1)
          world_many_l3 n rc k (((), v9, v10, ()), ((x3, x4, x5, x6, x7, ()), ())))
        | none => none) else none
    else
      some (.inl ((x1, ()), ()))
def world_many : Nat → world_many_ins.T → Option (OutsT world_many_outs)
  | 0, _ => none
  | n + 1, (((x1, x2, x3, x4, x5, _), _), _) =>
    match world_many_l3 n (world_many n) n (((), 1, 0, ()), ((x1, x2, x3, x4, x5, ()), ())) with
    | some (.inl ((x6, _), _)) => (
      some ((x6, ()), ()))
    | some (.inr (_)) => none
    | none => none
def world_many_H (n : Nat) : Hints := ⟨[], fun _ => [], fun k => match k with | 3 => some ⟨[1, 3, 4], world_many_l3_h, world_many_l3_o, world_many_l3 n (world_many n)⟩ | _ => none, fun _ => none, fun _ => none, fun _ => 0, fun _ => none⟩
def world_many_O (n : Nat) : FuncId → List FSpec := asc [(43, ⟨world_many_ins, world_many_outs, world_many n⟩)]
def b43 : Code := bodyOf Tryd.f43
theorem world_many_l3_k0 (n : Nat) : LoopOk P CC (world_many_O n) n 0 21 (world_many_H n) ⟨[1, 3, 4], world_many_l3_h, world_many_l3_o, world_many_l3 n (world_many n)⟩ ((loopsOf b43).getD 0 .skip) := by
  refine ⟨fun _ => by kernel_rfl, ?_⟩
  rintro k ⟨⟨⟨⟩, x1, x2, ⟨⟩⟩, ⟨⟨x3, x4, x5, x6, x7, ⟨⟩⟩, ⟨⟩⟩⟩
  kernel_rfl
theorem world_many_ok {S : Nat → Addr} (ok : CfgOk P CC S) : ∀ n, SpecOk P CC S 43 ⟨world_many_ins, world_many_outs, world_many n⟩ :=
  fn_all ok (O := world_many_O) (H := world_many_H) (fn := Tryd.f43) (body := b43) (by kernel_rfl) (by kernel_rfl) (by kernel_rfl) (by decide) (by kernel_rfl)
    (fun x => by kernel_rfl) (fun n => by
      rintro ⟨⟨⟨x1, x2, x3, x4, x5, ⟨⟩⟩, ⟨⟩⟩, ⟨⟩⟩
      kernel_rfl)
    (fun n => obl_of (by kernel_rfl) (by kernel_rfl) (ls (lz) (by kernel_rfl) (by kernel_rfl) (world_many_l3_k0 n)) (cn (cn (cn (cn (cn (cn (cn (cn (cz) (by kernel_rfl)) (by kernel_rfl)) (by kernel_rfl)) (by kernel_rfl)) (by kernel_rfl)) (by kernel_rfl)) (by kernel_rfl)) (by kernel_rfl)) (hn fun _ => rfl))
    (fun n ih => asc_cons (ih) <| asc_nil)
/-! ### pendulum/pendulumworld.Node -/
abbrev world_Node_ins : Sh := ⟨[(.agg [(.val .str), (.val ty2), (.val ty2), (.val ty2), (.val ty10)])], []⟩
abbrev world_Node_outs : List Sh := [⟨[(.one (.val .bool))], []⟩]
abbrev world_Node_c12_h : Sh := ⟨[(.one (.ptr 0 0)), (.one (.val (.int .i64))), (.one (.val (.int .i64))), (.one (.ptr 1 0))], [(.obj 25 [(.val .str), (.val ty2), (.val ty2), (.val ty2), (.val ty10)]), (.obj 43 [(.val (.int .i64)), (.val ty13), (.val (.int .i64)), (.val (.int .i64)), (.val (.int .i64)), (.val .str), (.val ty21), (.val .str), (.val ty21), (.val .str)])]⟩
abbrev world_Node_c12_o : List Out := [⟨.normal, [1, 3, 4, 5], ⟨[(.one (.ptr 0 0)), (.one (.val (.int .i64))), (.one (.val (.int .i64))), (.one (.ptr 1 0))], [(.obj 25 [(.val .str), (.val ty2), (.val ty2), (.val ty2), (.val ty10)]), (.obj 43 [(.val (.int .i64)), (.val ty13), (.val (.int .i64)), (.val (.int .i64)), (.val (.int .i64)), (.val .str), (.val ty21), (.val .str), (.val ty21), (.val .str)])]⟩⟩, ⟨.ret, [2], ⟨[(.one (.val .bool))], []⟩⟩]
def world_Node_c12 (n : Nat) : world_Node_c12_h.T → Option (OutT world_Node_c12_o)
  | ((_, x1, x2, _, _), ((x3, x4, x5, x6, x7, _), (x8, x9, x10, x11, x12, x13, x14, x15, x16, x17, _), _)) =>
    if !strEq x15 (⟨#[]⟩ : ByteArray) then
      if x10 == 0 then
        if x12 != 0 then
          some (.inr (.inl ((false, ()), ())))
        else
          if !strEq x13 (⟨#[]⟩ : ByteArray) then
            some (.inr (.inl ((false, ()), ())))
          else
            if decide ((x14.length : Int) > 0) then
              some (.inr (.inl ((false, ()), ())))
            else
              some (.inl (((), x1, x2, (), ()), ((x3, x4, x5, x6, x7, ()), (x8, x9, x10, x11, x12, x13, x14, x15, x16, x17, ()), ())))
      else
        some (.inl (((), x1, x2, (), ()), ((x3, x4, x5, x6, x7, ()), (x8, x9, x10, x11, x12, x13, x14, x15, x16, x17, ()), ())))
    else
      some (.inl (((), x1, x2, (), ()), ((x3, x4, x5, x6, x7, ()), (x8, x9, x10, x11, x12, x13, x14, x15, x16, x17, ()), ())))
abbrev world_Node_l14_h : Sh := ⟨[(.one (.ptr 0 0)), (.one (.val (.int .i64))), (.one (.val (.int .i64))), (.one (.ptr 1 0)), (.one (.val (.int .i64)))], [(.obj 25 [(.val .str), (.val ty2), (.val ty2), (.val ty2), (.val ty10)]), (.obj 43 [(.val (.int .i64)), (.val ty13), (.val (.int .i64)), (.val (.int .i64)), (.val (.int .i64)), (.val .str), (.val ty21), (.val .str), (.val ty21), (.val .str)])]⟩
abbrev world_Node_l14_o : List Out := [⟨(.exit 2), [1, 3, 4], ⟨[(.one (.ptr 0 0)), (.one (.val (.int .i64))), (.one (.val (.int .i64)))], [(.obj 25 [(.val .str), (.val ty2), (.val ty2), (.val ty2), (.val ty10)])]⟩⟩, ⟨.ret, [2], ⟨[(.one (.val .bool))], []⟩⟩]
def world_Node_l14 (n : Nat) : Nat → world_Node_l14_h.T → Option (OutT world_Node_l14_o)
  | 0, _ => none
  | k + 1, ((_, x1, x2, _, x3, _), ((x4, x5, x6, x7, x8, _), (x9, x10, x11, x12, x13, x14, x15, x16, x17, x18, _), _)) =>
    if decide (x3 < (x17.length : Int)) then
      if 0 ≤ x3 ∧ x3 < (x17.length : Int) then (
        match world_few n ((((rdT ty15 x17 x3).1, ((rdT ty15 x17 x3).2).1, (((rdT ty15 x17 x3).2).2).1, ((((rdT ty15 x17 x3).2).2).2).1, (((((rdT ty15 x17 x3).2).2).2).2).map Rx.un, ()), 60, ()), ()) with
        | some ((x19, _), _) => (
          if !x19 then
            some (.inr (.inl ((false, ()), ())))
          else
            if 0 ≤ x3 ∧ x3 < (x17.length : Int) then (
              match world_many n ((((rdT ty15 x17 x3).1, ((rdT ty15 x17 x3).2).1, (((rdT ty15 x17 x3).2).2).1, ((((rdT ty15 x17 x3).2).2).2).1, (((((rdT ty15 x17 x3).2).2).2).2).map Rx.un, ()), ()), ()) with
              | some ((x20, _), _) => (
                let v21 : Int := IntKind.i64.wrap (x1 + x20)
                let v22 : Int := IntKind.i64.wrap (x3 + 1)
                world_Node_l14 n k (((), v21, x2, (), v22, ()), ((x4, x5, x6, x7, x8, ()), (x9, x10, x11, x12, x13, x14, x15, x16, x17, x18, ()), ())))
              | none => none) else none)
        | none => none) else none
    else
      some (.inl (((), x1, x2, ()), ((x4, x5, x6, x7, x8, ()), ())))
abbrev world_Node_l5_h : Sh := ⟨[(.one (.ptr 0 0)), (.one (.val (.int .i64))), (.one (.val (.int .i64)))], [(.obj 25 [(.val .str), (.val ty2), (.val ty2), (.val ty2), (.val ty10)])]⟩
abbrev world_Node_l5_o : List Out := [⟨(.exit 0), [3], ⟨[(.one (.val (.int .i64)))], []⟩⟩, ⟨.ret, [2], ⟨[(.one (.val .bool))], []⟩⟩]
def world_Node_l5 (n : Nat) : Nat → world_Node_l5_h.T → Option (OutT world_Node_l5_o)
  | 0, _ => none
  | k + 1, ((_, x1, x2, _), ((x3, x4, x5, x6, x7, _), _)) =>
    if decide (x2 < (x7.length : Int)) then
      if 0 ≤ x2 ∧ x2 < (x7.length : Int) then (
        match world_texts n ((((rdT ty11 x7 x2).2).1, ()), ()) with
        | some ((x8, _), _) => (
          if !x8 then
            some (.inr (.inl ((false, ()), ())))
          else
            if decide (((((((rdT ty11 x7 x2).2).2).2).1).size : Int) > 60) then
              some (.inr (.inl ((false, ()), ())))
            else
              if decide ((((((((rdT ty11 x7 x2).2).2).2).2).2).size : Int) > 60) then
                some (.inr (.inl ((false, ()), ())))
              else
                if decide (((((((((rdT ty11 x7 x2).2).2).2).2).1).map Rx.un).length : Int) > 20) then
                  some (.inr (.inl ((false, ()), ())))
                else
                  match world_few n (((((((rdT ty11 x7 x2).2).2).1).1, (((((rdT ty11 x7 x2).2).2).1).2).1, ((((((rdT ty11 x7 x2).2).2).1).2).2).1, (((((((rdT ty11 x7 x2).2).2).1).2).2).2).1, ((((((((rdT ty11 x7 x2).2).2).1).2).2).2).2).map Rx.un, ()), 60, ()), ()) with
                  | some ((x9, _), _) => (
                    if !x9 then
                      some (.inr (.inl ((false, ()), ())))
                    else
                      match world_Node_c12 n (((), x1, x2, (), ()), ((x3, x4, x5, x6, x7, ()), ((rdT ty11 x7 x2).1, ((rdT ty11 x7 x2).2).1, ((((rdT ty11 x7 x2).2).2).1).1, (((((rdT ty11 x7 x2).2).2).1).2).1, ((((((rdT ty11 x7 x2).2).2).1).2).2).1, (((((((rdT ty11 x7 x2).2).2).1).2).2).2).1, ((((((((rdT ty11 x7 x2).2).2).1).2).2).2).2).map Rx.un, ((((rdT ty11 x7 x2).2).2).2).1, ((((((rdT ty11 x7 x2).2).2).2).2).1).map Rx.un, (((((rdT ty11 x7 x2).2).2).2).2).2, ()), ())) with
                      | some (.inl ((_, x10, x11, _, _), ((x12, x13, x14, x15, x16, _), (x17, x18, x19, x20, x21, x22, x23, x24, x25, x26, _), _))) => (
                        match world_many n (((x19, x20, x21, x22, x23, ()), ()), ()) with
                        | some ((x28, _), _) => (
                          let v29 : Int := IntKind.i64.wrap (x10 + x28)
                          match world_Node_l14 n n (((), v29, x11, (), 0, ()), ((x12, x13, x14, x15, x16, ()), (x17, x18, x19, x20, x21, x22, x23, x24, x25, x26, ()), ())) with
                          | some (.inl ((_, x30, x31, _), ((x32, x33, x34, x35, x36, _), _))) => (
                            let v38 : Int := IntKind.i64.wrap (x31 + 1)
                            world_Node_l5 n k (((), x30, v38, ()), ((x32, x33, x34, x35, x36, ()), ())))
                          | some (.inr (.inl ((x37, _), _))) => (
                            some (.inr (.inl ((x37, ()), ()))))
                          | some (.inr (.inr (_))) => none
                          | none => none)
                        | none => none)
                      | some (.inr (.inl ((x27, _), _))) => (
                        some (.inr (.inl ((x27, ()), ()))))
                      | some (.inr (.inr (_))) => none
                      | none => none)
                  | none => none)
        | none => none) else none
    else
      some (.inl ((x1, ()), ()))
def world_Node : Nat → world_Node_ins.T → Option (OutsT world_Node_outs)
  | 0, _ => none
  | n + 1, (((x1, x2, x3, x4, x5, _), _), _) =>
    if decide ((x1.size : Int) > 60) then
      some ((false, ()), ())
    else
      match world_decls n ((x2, ()), ()) with
      | some ((x6, _), _) => (
        if !x6 then
          some ((false, ()), ())
        else
          match world_decls n ((x3, ()), ()) with
          | some ((x7, _), _) => (
            if !x7 then
              some ((false, ()), ())
            else
              match world_decls n ((x4, ()), ()) with
              | some ((x8, _), _) => (
                if !x8 then
                  some ((false, ()), ())
                else
                  if decide ((x5.length : Int) > 30) then
                    some ((false, ()), ())
                  else
                    match world_Node_l5 n n (((), 0, 0, ()), ((x1, x2, x3, x4, x5, ()), ())) with
                    | some (.inl ((x9, _), _)) => (
                      some ((decide (x9 ≤ 400), ()), ()))
                    | some (.inr (.inl ((x10, _), _))) => (
                      some ((x10, ()), ()))
                    | some (.inr (.inr (_))) => none
                    | none => none)
              | none => none)
          | none => none)
      | none => none
def world_Node_H (n : Nat) : Hints := ⟨[], fun _ => [], fun k => match k with | 14 => some ⟨[1, 3, 4, 5, 6], world_Node_l14_h, world_Node_l14_o, world_Node_l14 n⟩ | 5 => some ⟨[1, 3, 4], world_Node_l5_h, world_Node_l5_o, world_Node_l5 n⟩ | _ => none, fun k => match k with | 12 => some ⟨[1, 3, 4, 5], world_Node_c12_h, world_Node_c12_o, fun n => world_Node_c12 n⟩ | _ => none, fun _ => none, fun _ => 0, fun _ => none⟩
def world_Node_O (n : Nat) : FuncId → List FSpec := asc [(40, ⟨world_decls_ins, world_decls_outs, world_decls n⟩), (41, ⟨world_texts_ins, world_texts_outs, world_texts n⟩), (42, ⟨world_few_ins, world_few_outs, world_few n⟩), (43, ⟨world_many_ins, world_many_outs, world_many n⟩)]
def b7 : Code := bodyOf Tryd.f7
theorem world_Node_l5_k0 (n : Nat) : LoopOk P CC (world_Node_O n) n 0 132 (world_Node_H n) ⟨[1, 3, 4], world_Node_l5_h, world_Node_l5_o, world_Node_l5 n⟩ ((loopsOf b7).getD 0 .skip) := by
  refine ⟨fun _ => by kernel_rfl, ?_⟩
  rintro k ⟨⟨⟨⟩, x1, x2, ⟨⟩⟩, ⟨⟨x3, x4, x5, x6, x7, ⟨⟩⟩, ⟨⟩⟩⟩
  kernel_rfl
theorem world_Node_l14_k1 (n : Nat) : LoopOk P CC (world_Node_O n) n 0 132 (world_Node_H n) ⟨[1, 3, 4, 5, 6], world_Node_l14_h, world_Node_l14_o, world_Node_l14 n⟩ ((loopsOf b7).getD 1 .skip) := by
  refine ⟨fun _ => by kernel_rfl, ?_⟩
  rintro k ⟨⟨⟨⟩, x1, x2, ⟨⟩, x3, ⟨⟩⟩, ⟨⟨x4, x5, x6, x7, x8, ⟨⟩⟩, ⟨x9, x10, x11, x12, x13, x14, x15, x16, x17, x18, ⟨⟩⟩, ⟨⟩⟩⟩
  kernel_rfl
theorem world_Node_c12_k14 (n : Nat) : CutOk P CC (world_Node_O n) n 0 132 (world_Node_H n) ⟨[1, 3, 4, 5], world_Node_c12_h, world_Node_c12_o, fun n => world_Node_c12 n⟩ ((cutsOf b7).getD 14 (0, .skip)).2 := by
  rintro ⟨⟨⟨⟩, x1, x2, ⟨⟩, ⟨⟩⟩, ⟨⟨x3, x4, x5, x6, x7, ⟨⟩⟩, ⟨x8, x9, x10, x11, x12, x13, x14, x15, x16, x17, ⟨⟩⟩, ⟨⟩⟩⟩
  kernel_rfl
theorem world_Node_ok {S : Nat → Addr} (ok : CfgOk P CC S) : ∀ n, SpecOk P CC S 7 ⟨world_Node_ins, world_Node_outs, world_Node n⟩ :=
  fn_all ok (O := world_Node_O) (H := world_Node_H) (fn := Tryd.f7) (body := b7) (by kernel_rfl) (by kernel_rfl) (by kernel_rfl) (by decide) (by kernel_rfl)
    (fun x => by kernel_rfl) (fun n => by
      rintro ⟨⟨⟨x1, x2, x3, x4, x5, ⟨⟩⟩, ⟨⟩⟩, ⟨⟩⟩
      kernel_rfl)
    (fun n => obl_of (by kernel_rfl) (by kernel_rfl) (ls (ls (lz) (by kernel_rfl) (by kernel_rfl) (world_Node_l5_k0 n)) (by kernel_rfl) (by kernel_rfl) (world_Node_l14_k1 n)) (cn (cn (cn (cn (cn (cn (cn (cn (cn (cn (cn (cs (cn (cn (cn (cn (cn (cn (cn (cn (cn (cn (cn (cn (cn (cn (cz) (by kernel_rfl)) (by kernel_rfl)) (by kernel_rfl)) (by kernel_rfl)) (by kernel_rfl)) (by kernel_rfl)) (by kernel_rfl)) (by kernel_rfl)) (by kernel_rfl)) (by kernel_rfl)) (by kernel_rfl)) (by kernel_rfl)) (by kernel_rfl)) (by kernel_rfl)) (by kernel_rfl) (world_Node_c12_k14 n)) (by kernel_rfl)) (by kernel_rfl)) (by kernel_rfl)) (by kernel_rfl)) (by kernel_rfl)) (by kernel_rfl)) (by kernel_rfl)) (by kernel_rfl)) (by kernel_rfl)) (by kernel_rfl)) (by kernel_rfl)) (hn fun _ => rfl))
    (fun n ih => asc_cons (world_decls_ok ok n) <| asc_cons (world_texts_ok ok n) <| asc_cons (world_few_ok ok n) <| asc_cons (world_many_ok ok n) <| asc_nil)
/-! ### pendulum/pendulumworld.Nodes -/
abbrev world_Nodes_ins : Sh := ⟨[(.one (.val ty22)), (.one (.val (.int .i64)))], []⟩
abbrev world_Nodes_outs : List Sh := [⟨[(.one (.val .bool))], []⟩]
abbrev world_Nodes_l4_h : Sh := ⟨[(.one (.val ty22)), (.one (.val (.int .i64)))], []⟩
abbrev world_Nodes_l4_o : List Out := [⟨(.exit 0), [], ⟨[], []⟩⟩, ⟨.ret, [4], ⟨[(.one (.val .bool))], []⟩⟩]
def world_Nodes_l4 (n : Nat) : Nat → world_Nodes_l4_h.T → Option (OutT world_Nodes_l4_o)
  | 0, _ => none
  | k + 1, ((x1, x2, _), _) =>
    if decide (x2 < (x1.length : Int)) then
      if 0 ≤ x2 ∧ x2 < (x1.length : Int) then (
        match world_Node n ((((rdT ty0 x1 x2).1, ((rdT ty0 x1 x2).2).1, (((rdT ty0 x1 x2).2).2).1, ((((rdT ty0 x1 x2).2).2).2).1, ((((rdT ty0 x1 x2).2).2).2).2, ()), ()), ()) with
        | some ((x3, _), _) => (
          if !x3 then
            some (.inr (.inl ((false, ()), ())))
          else
            let v4 : Int := IntKind.i64.wrap (x2 + 1)
            world_Nodes_l4 n k ((x1, v4, ()), ()))
        | none => none) else none
    else
      some (.inl ((), ()))
def world_Nodes : Nat → world_Nodes_ins.T → Option (OutsT world_Nodes_outs)
  | 0, _ => none
  | n + 1, ((x1, x2, _), _) =>
    if decide ((x1.length : Int) > x2) then
      some ((false, ()), ())
    else
      match world_Nodes_l4 n n ((x1, 0, ()), ()) with
      | some (.inl (_, _)) => (
        some ((true, ()), ()))
      | some (.inr (.inl ((x3, _), _))) => (
        some ((x3, ()), ()))
      | some (.inr (.inr (_))) => none
      | none => none
def world_Nodes_H (n : Nat) : Hints := ⟨[], fun _ => [], fun k => match k with | 4 => some ⟨[0, 5], world_Nodes_l4_h, world_Nodes_l4_o, world_Nodes_l4 n⟩ | _ => none, fun _ => none, fun _ => none, fun _ => 0, fun _ => none⟩
def world_Nodes_O (n : Nat) : FuncId → List FSpec := asc [(7, ⟨world_Node_ins, world_Node_outs, world_Node n⟩)]
def b20 : Code := bodyOf Tryd.f20
theorem world_Nodes_l4_k0 (n : Nat) : LoopOk P CC (world_Nodes_O n) n 0 22 (world_Nodes_H n) ⟨[0, 5], world_Nodes_l4_h, world_Nodes_l4_o, world_Nodes_l4 n⟩ ((loopsOf b20).getD 0 .skip) := by
  refine ⟨fun _ => by kernel_rfl, ?_⟩
  rintro k ⟨⟨x1, x2, ⟨⟩⟩, ⟨⟩⟩
  kernel_rfl
theorem world_Nodes_ok {S : Nat → Addr} (ok : CfgOk P CC S) : ∀ n, SpecOk P CC S 20 ⟨world_Nodes_ins, world_Nodes_outs, world_Nodes n⟩ :=
  fn_all ok (O := world_Nodes_O) (H := world_Nodes_H) (fn := Tryd.f20) (body := b20) (by kernel_rfl) (by kernel_rfl) (by kernel_rfl) (by decide) (by kernel_rfl)
    (fun x => by kernel_rfl) (fun n => by
      rintro ⟨⟨x1, x2, ⟨⟩⟩, ⟨⟩⟩
      kernel_rfl)
    (fun n => obl_of (by kernel_rfl) (by kernel_rfl) (ls (lz) (by kernel_rfl) (by kernel_rfl) (world_Nodes_l4_k0 n)) (cn (cn (cn (cn (cn (cn (cn (cn (cn (cn (cn (cn (cz) (by kernel_rfl)) (by kernel_rfl)) (by kernel_rfl)) (by kernel_rfl)) (by kernel_rfl)) (by kernel_rfl)) (by kernel_rfl)) (by kernel_rfl)) (by kernel_rfl)) (by kernel_rfl)) (by kernel_rfl)) (by kernel_rfl)) (hn fun _ => rfl))
    (fun n ih => asc_cons (world_Node_ok ok n) <| asc_nil)
/-! ### pendulum/deps.New -/
abbrev deps_New_2_ins : Sh := ⟨[(.one (.val ty22))], []⟩
abbrev deps_New_2_outs : List Sh := [⟨[(.tup [(false, [(.ptr 0 0)]), (false, [(.val .err)])])], [(.obj 97 [(.map 1)]), (.map .str ty13 false)]⟩, ⟨[(.tup [(false, [.nilp]), (false, [(.val .err)])])], []⟩]
abbrev deps_New_2_l5_h : Sh := ⟨[(.one (.ptr 0 0)), (.one (.val ty22)), (.one (.val (.int .i64))), (.one (.val (.int .i64)))], [(.obj 97 [(.map 1)]), (.map .str ty13 false)]⟩
abbrev deps_New_2_l5_o : List Out := [⟨(.exit 0), [4], ⟨[(.one (.ptr 0 0))], [(.obj 97 [(.map 1)]), (.map .str ty13 false)]⟩⟩, ⟨.ret, [2, 3], ⟨[(.one .nilp), (.one (.val .err))], []⟩⟩]
def deps_New_2_l5 (n : Nat) : Nat → deps_New_2_l5_h.T → Option (OutT deps_New_2_l5_o)
  | 0, _ => none
  | k + 1, ((_, x1, x2, x3, _), ((_, _), m4, _)) =>
    if decide (x3 < x2) then
      if 0 ≤ x3 ∧ x3 < (x1.length : Int) then (
        let v5 : List ByteArray := (mfind (keyEq (.str : Ty)) ((rdT ty0 x1 x3).1) m4).getD []
        if (mfind (keyEq (.str : Ty)) ((rdT ty0 x1 x3).1) m4).isSome then
          some (.inr (.inl (((), ErrV.at_ x3 (ErrV.sent 110), ()), ())))
        else
          match scope_Calls n ((((rdT ty0 x1 x3).1, ((rdT ty0 x1 x3).2).1, (((rdT ty0 x1 x3).2).2).1, ((((rdT ty0 x1 x3).2).2).2).1, ((((rdT ty0 x1 x3).2).2).2).2, ()), ()), ()) with
          | some ((_, _), (l6, _)) => (
            let v7 : Int := IntKind.i64.wrap (x3 + 1)
            deps_New_2_l5 n k (((), x1, x2, v7, ()), (((), ()), mset (keyEq (.str : Ty)) ((rdT ty0 x1 x3).1) l6 m4, ())))
          | none => none) else none
    else
      some (.inl (((), ()), (((), ()), m4, ())))
def deps_New_2 : Nat → deps_New_2_ins.T → Option (OutsT deps_New_2_outs)
  | 0, _ => none
  | n + 1, ((x1, _), _) =>
    if decide ((x1.length : Int) > 16) then
      some (.inr ((((((), ()), (ErrV.sent 103, ()), ()), ()), ())))
    else
      match deps_New_2_l5 n n (((), x1, (x1.length : Int), 0, ()), (((), ()), [], ())) with
      | some (.inl ((_, _), ((_, _), m2, _))) => (
        some (.inl (((((), ()), (ErrV.nil, ()), ()), ()), (((), ()), m2, ()))))
      | some (.inr (.inl ((_, x3, _), _))) => (
        some (.inr ((((((), ()), (x3, ()), ()), ()), ()))))
      | some (.inr (.inr (_))) => none
      | none => none
def deps_New_2_H (n : Nat) : Hints := ⟨[], fun _ => [], fun k => match k with | 5 => some ⟨[4, 16, 17, 18], deps_New_2_l5_h, deps_New_2_l5_o, deps_New_2_l5 n⟩ | _ => none, fun _ => none, fun _ => none, fun _ => 0, fun _ => none⟩
def deps_New_2_O (n : Nat) : FuncId → List FSpec := asc [(65, ⟨scope_Calls_ins, scope_Calls_outs, scope_Calls n⟩)]
theorem deps_New_2_l5_k0 (n : Nat) : LoopOk P CC (deps_New_2_O n) n 0 49 (deps_New_2_H n) ⟨[4, 16, 17, 18], deps_New_2_l5_h, deps_New_2_l5_o, deps_New_2_l5 n⟩ ((loopsOf b21).getD 0 .skip) := by
  refine ⟨fun _ => by kernel_rfl, ?_⟩
  rintro k ⟨⟨⟨⟩, x1, x2, x3, ⟨⟩⟩, ⟨⟨⟨⟩, ⟨⟩⟩, x4, ⟨⟩⟩⟩
  kernel_rfl
theorem deps_New_2_ok {S : Nat → Addr} (ok : CfgOk P CC S) : ∀ n, SpecOk P CC S 21 ⟨deps_New_2_ins, deps_New_2_outs, deps_New_2 n⟩ :=
  fn_all ok (O := deps_New_2_O) (H := deps_New_2_H) (fn := Tryd.f21) (body := b21) (by kernel_rfl) (by kernel_rfl) (by kernel_rfl) (by decide) (by kernel_rfl)
    (fun x => by kernel_rfl) (fun n => by
      rintro ⟨⟨x1, ⟨⟩⟩, ⟨⟩⟩
      kernel_rfl)
    (fun n => obl_of (by kernel_rfl) (by kernel_rfl) (ls (lz) (by kernel_rfl) (by kernel_rfl) (deps_New_2_l5_k0 n)) (cn (cn (cn (cn (cn (cn (cn (cn (cn (cn (cn (cn (cn (cn (cn (cn (cz) (by kernel_rfl)) (by kernel_rfl)) (by kernel_rfl)) (by kernel_rfl)) (by kernel_rfl)) (by kernel_rfl)) (by kernel_rfl)) (by kernel_rfl)) (by kernel_rfl)) (by kernel_rfl)) (by kernel_rfl)) (by kernel_rfl)) (by kernel_rfl)) (by kernel_rfl)) (by kernel_rfl)) (by kernel_rfl)) (hn fun _ => rfl))
    (fun n ih => asc_cons (scope_Calls_ok ok n) <| asc_nil)
/-! ### pendulum/pendulumref.None -/
abbrev ref_None_ins : Sh := ⟨[], []⟩
abbrev ref_None_outs : List Sh := [⟨[(.agg [(.val (.int .i64)), (.val .bool), (.val .bool), (.val (.int .i64)), (.val (.int .i64))])], []⟩]
def ref_None : Nat → ref_None_ins.T → Option (OutsT ref_None_outs)
  | 0, _ => none
  | n + 1, (_, _) =>
    some (((0, false, false, 0, 0, ()), ()), ())
def ref_None_H (n : Nat) : Hints := ⟨[], fun _ => [], fun _ => none, fun _ => none, fun _ => none, fun _ => 0, fun _ => none⟩
def ref_None_O (n : Nat) : FuncId → List FSpec := asc []
def b28 : Code := bodyOf Tryd.f28
theorem ref_None_ok {S : Nat → Addr} (ok : CfgOk P CC S) : ∀ n, SpecOk P CC S 28 ⟨ref_None_ins, ref_None_outs, ref_None n⟩ :=
  fn_all ok (O := ref_None_O) (H := ref_None_H) (fn := Tryd.f28) (body := b28) (by kernel_rfl) (by kernel_rfl) (by kernel_rfl) (by decide) (by kernel_rfl)
    (fun x => by kernel_rfl) (fun n => by
      rintro ⟨⟨⟩, ⟨⟩⟩
      kernel_rfl)
    (fun n => obl_of (by kernel_rfl) (by kernel_rfl) (lz) (cn (cn (cz) (by kernel_rfl)) (by kernel_rfl)) (hn fun _ => rfl))
    (fun n ih => asc_nil)
/-! ### pendulum/pendulumref.Placed -/
abbrev ref_Placed_ins : Sh := ⟨[(.one (.val (.int .i64))), (.one (.val (.int .i64)))], []⟩
abbrev ref_Placed_outs : List Sh := [⟨[(.agg [(.val (.int .i64)), (.val .bool), (.val .bool), (.val (.int .i64)), (.val (.int .i64))])], []⟩]
def ref_Placed : Nat → ref_Placed_ins.T → Option (OutsT ref_Placed_outs)
  | 0, _ => none
  | n + 1, ((x1, x2, _), _) =>
    if x1 == 0 then
      match ref_None n ((), ()) with
      | some (((x3, x4, x5, x6, x7, _), _), _) => (
        some (((x3, x4, x5, x6, x7, ()), ()), ()))
      | none => none
    else
      some (((x1, true, false, x2, 0, ()), ()), ())
def ref_Placed_H (n : Nat) : Hints := ⟨[], fun _ => [], fun _ => none, fun _ => none, fun _ => none, fun _ => 0, fun _ => none⟩
def ref_Placed_O (n : Nat) : FuncId → List FSpec := asc [(28, ⟨ref_None_ins, ref_None_outs, ref_None n⟩)]
def b29 : Code := bodyOf Tryd.f29
theorem ref_Placed_ok {S : Nat → Addr} (ok : CfgOk P CC S) : ∀ n, SpecOk P CC S 29 ⟨ref_Placed_ins, ref_Placed_outs, ref_Placed n⟩ :=
  fn_all ok (O := ref_Placed_O) (H := ref_Placed_H) (fn := Tryd.f29) (body := b29) (by kernel_rfl) (by kernel_rfl) (by kernel_rfl) (by decide) (by kernel_rfl)
    (fun x => by kernel_rfl) (fun n => by
      rintro ⟨⟨x1, x2, ⟨⟩⟩, ⟨⟩⟩
      kernel_rfl)
    (fun n => obl_of (by kernel_rfl) (by kernel_rfl) (lz) (cn (cn (cn (cn (cn (cz) (by kernel_rfl)) (by kernel_rfl)) (by kernel_rfl)) (by kernel_rfl)) (by kernel_rfl)) (hn fun _ => rfl))
    (fun n ih => asc_cons (ref_None_ok ok n) <| asc_nil)
/-! ### pendulum/pendulumref.Bare -/
abbrev ref_Bare_ins : Sh := ⟨[(.one (.val (.int .i64)))], []⟩
abbrev ref_Bare_outs : List Sh := [⟨[(.agg [(.val (.int .i64)), (.val .bool), (.val .bool), (.val (.int .i64)), (.val (.int .i64))])], []⟩]
def ref_Bare : Nat → ref_Bare_ins.T → Option (OutsT ref_Bare_outs)
  | 0, _ => none
  | n + 1, ((x1, _), _) =>
    some (((x1, false, false, 0, 0, ()), ()), ())
def ref_Bare_H (n : Nat) : Hints := ⟨[], fun _ => [], fun _ => none, fun _ => none, fun _ => none, fun _ => 0, fun _ => none⟩
def ref_Bare_O (n : Nat) : FuncId → List FSpec := asc []
def b30 : Code := bodyOf Tryd.f30
theorem ref_Bare_ok {S : Nat → Addr} (ok : CfgOk P CC S) : ∀ n, SpecOk P CC S 30 ⟨ref_Bare_ins, ref_Bare_outs, ref_Bare n⟩ :=
  fn_all ok (O := ref_Bare_O) (H := ref_Bare_H) (fn := Tryd.f30) (body := b30) (by kernel_rfl) (by kernel_rfl) (by kernel_rfl) (by decide) (by kernel_rfl)
    (fun x => by kernel_rfl) (fun n => by
      rintro ⟨⟨x1, ⟨⟩⟩, ⟨⟩⟩
      kernel_rfl)
    (fun n => obl_of (by kernel_rfl) (by kernel_rfl) (lz) (cn (cn (cz) (by kernel_rfl)) (by kernel_rfl)) (hn fun _ => rfl))
    (fun n ih => asc_nil)
/-! ### pendulum/pendulumsee.sentinels -/
abbrev pendulumsee_sentinels_ins : Sh := ⟨[], []⟩
abbrev pendulumsee_sentinels_outs : List Sh := [⟨[(.one (.arr 0))], [(.arr 50 .err)]⟩]
def pendulumsee_sentinels : Nat → pendulumsee_sentinels_ins.T → Option (OutsT pendulumsee_sentinels_outs)
  | 0, _ => none
  | n + 1, (_, _) =>
    some (((), ()), ([ErrV.sent 101, ErrV.sent 102, ErrV.sent 103, ErrV.sent 104, ErrV.sent 105, ErrV.sent 106, ErrV.sent 107, ErrV.sent 108, ErrV.sent 109, ErrV.sent 110, ErrV.sent 111, ErrV.sent 112, ErrV.sent 113, ErrV.sent 114, ErrV.sent 115, ErrV.sent 116, ErrV.sent 117, ErrV.sent 118, ErrV.sent 119, ErrV.sent 120, ErrV.sent 121], ()))
def pendulumsee_sentinels_H (n : Nat) : Hints := ⟨[], fun _ => [], fun _ => none, fun _ => none, fun _ => none, fun _ => 0, fun _ => none⟩
def pendulumsee_sentinels_O (n : Nat) : FuncId → List FSpec := asc []
def b113 : Code := bodyOf Tryd.f113
theorem pendulumsee_sentinels_ok {S : Nat → Addr} (ok : CfgOk P CC S) : ∀ n, SpecOk P CC S 113 ⟨pendulumsee_sentinels_ins, pendulumsee_sentinels_outs, pendulumsee_sentinels n⟩ :=
  fn_all ok (O := pendulumsee_sentinels_O) (H := pendulumsee_sentinels_H) (fn := Tryd.f113) (body := b113) (by kernel_rfl) (by kernel_rfl) (by kernel_rfl) (by decide) (by kernel_rfl)
    (fun x => by kernel_rfl) (fun n => by
      rintro ⟨⟨⟩, ⟨⟩⟩
      kernel_rfl)
    (fun n => obl_of (by kernel_rfl) (by kernel_rfl) (lz) (cn (cn (cz) (by kernel_rfl)) (by kernel_rfl)) (hn fun _ => rfl))
    (fun n ih => asc_nil)
/-! ### pendulum/pendulumsee.Alike -/
abbrev pendulumsee_Alike_ins : Sh := ⟨[(.one (.val .err)), (.one (.val .err))], []⟩
abbrev pendulumsee_Alike_outs : List Sh := [⟨[(.one (.val .bool))], []⟩]
def pendulumsee_Alike : Nat → pendulumsee_Alike_ins.T → Option (OutsT pendulumsee_Alike_outs)
  | 0, _ => none
  | n + 1, ((x1, x2, _), _) =>
    if errNil x1 then
      if errNil x1 then
        some ((errNil x2, ()), ())
      else
        some ((false, ()), ())
    else
      if errNil x2 then
        if errNil x1 then
          some ((errNil x2, ()), ())
        else
          some ((false, ()), ())
      else
        match errEq x1 x2 with
        | some b3 => (
          some ((b3, ()), ()))
        | none => none
def pendulumsee_Alike_H (n : Nat) : Hints := ⟨[], fun _ => [], fun _ => none, fun _ => none, fun _ => none, fun _ => 0, fun _ => none⟩
def pendulumsee_Alike_O (n : Nat) : FuncId → List FSpec := asc []
def b114 : Code := bodyOf Tryd.f114
theorem pendulumsee_Alike_ok {S : Nat → Addr} (ok : CfgOk P CC S) : ∀ n, SpecOk P CC S 114 ⟨pendulumsee_Alike_ins, pendulumsee_Alike_outs, pendulumsee_Alike n⟩ :=
  fn_all ok (O := pendulumsee_Alike_O) (H := pendulumsee_Alike_H) (fn := Tryd.f114) (body := b114) (by kernel_rfl) (by kernel_rfl) (by kernel_rfl) (by decide) (by kernel_rfl)
    (fun x => by kernel_rfl) (fun n => by
      rintro ⟨⟨x1, x2, ⟨⟩⟩, ⟨⟩⟩
      kernel_rfl)
    (fun n => obl_of (by kernel_rfl) (by kernel_rfl) (lz) (cn (cn (cn (cn (cn (cz) (by kernel_rfl)) (by kernel_rfl)) (by kernel_rfl)) (by kernel_rfl)) (by kernel_rfl)) (hn fun _ => rfl))
    (fun n ih => asc_nil)
/-! ### pendulum/pendulumsee.sentinel -/
abbrev pendulumsee_sentinel_ins : Sh := ⟨[(.one (.val .err))], []⟩
abbrev pendulumsee_sentinel_outs : List Sh := [⟨[(.one (.val (.int .i64)))], []⟩]
abbrev pendulumsee_sentinel_l3_h : Sh := ⟨[(.one (.val .err)), (.one (.arr 0)), (.one (.val (.int .i64)))], [(.arr 50 .err)]⟩
abbrev pendulumsee_sentinel_l3_o : List Out := [⟨(.exit 0), [], ⟨[], []⟩⟩, ⟨.ret, [2], ⟨[(.one (.val (.int .i64)))], []⟩⟩]
def pendulumsee_sentinel_l3 (n : Nat) : Nat → pendulumsee_sentinel_l3_h.T → Option (OutT pendulumsee_sentinel_l3_o)
  | 0, _ => none
  | k + 1, ((x1, _, x2, _), (l3, _)) =>
    if decide (x2 < (l3.length : Int)) then
      if 0 ≤ x2 ∧ x2 < (l3.length : Int) then (
        match pendulumsee_Alike n ((x1, rdT (.err : Ty) l3 x2, ()), ()) with
        | some ((x4, _), _) => (
          if x4 then
            let v5 : Int := IntKind.i64.wrap (101 + x2)
            some (.inr (.inl ((v5, ()), ())))
          else
            let v6 : Int := IntKind.i64.wrap (x2 + 1)
            pendulumsee_sentinel_l3 n k ((x1, (), v6, ()), (l3, ())))
        | none => none) else none
    else
      some (.inl ((), ()))
def pendulumsee_sentinel : Nat → pendulumsee_sentinel_ins.T → Option (OutsT pendulumsee_sentinel_outs)
  | 0, _ => none
  | n + 1, ((x1, _), _) =>
    match pendulumsee_sentinels n ((), ()) with
    | some ((_, _), (l2, _)) => (
      match pendulumsee_sentinel_l3 n n ((x1, (), 0, ()), (l2, ())) with
      | some (.inl (_, _)) => (
        some (((-1), ()), ()))
      | some (.inr (.inl ((x3, _), _))) => (
        some ((x3, ()), ()))
      | some (.inr (.inr (_))) => none
      | none => none)
    | none => none
def pendulumsee_sentinel_H (n : Nat) : Hints := ⟨[], fun _ => [], fun k => match k with | 3 => some ⟨[0, 3, 4], pendulumsee_sentinel_l3_h, pendulumsee_sentinel_l3_o, pendulumsee_sentinel_l3 n⟩ | _ => none, fun _ => none, fun _ => none, fun _ => 0, fun _ => none⟩
def pendulumsee_sentinel_O (n : Nat) : FuncId → List FSpec := asc [(113, ⟨pendulumsee_sentinels_ins, pendulumsee_sentinels_outs, pendulumsee_sentinels n⟩), (114, ⟨pendulumsee_Alike_ins, pendulumsee_Alike_outs, pendulumsee_Alike n⟩)]
def b97 : Code := bodyOf Tryd.f97
theorem pendulumsee_sentinel_l3_k0 (n : Nat) : LoopOk P CC (pendulumsee_sentinel_O n) n 0 20 (pendulumsee_sentinel_H n) ⟨[0, 3, 4], pendulumsee_sentinel_l3_h, pendulumsee_sentinel_l3_o, pendulumsee_sentinel_l3 n⟩ ((loopsOf b97).getD 0 .skip) := by
  refine ⟨fun _ => by kernel_rfl, ?_⟩
  rintro k ⟨⟨x1, ⟨⟩, x2, ⟨⟩⟩, ⟨x3, ⟨⟩⟩⟩
  kernel_rfl
theorem pendulumsee_sentinel_ok {S : Nat → Addr} (ok : CfgOk P CC S) : ∀ n, SpecOk P CC S 97 ⟨pendulumsee_sentinel_ins, pendulumsee_sentinel_outs, pendulumsee_sentinel n⟩ :=
  fn_all ok (O := pendulumsee_sentinel_O) (H := pendulumsee_sentinel_H) (fn := Tryd.f97) (body := b97) (by kernel_rfl) (by kernel_rfl) (by kernel_rfl) (by decide) (by kernel_rfl)
    (fun x => by kernel_rfl) (fun n => by
      rintro ⟨⟨x1, ⟨⟩⟩, ⟨⟩⟩
      kernel_rfl)
    (fun n => obl_of (by kernel_rfl) (by kernel_rfl) (ls (lz) (by kernel_rfl) (by kernel_rfl) (pendulumsee_sentinel_l3_k0 n)) (cn (cn (cn (cn (cn (cn (cn (cn (cn (cn (cz) (by kernel_rfl)) (by kernel_rfl)) (by kernel_rfl)) (by kernel_rfl)) (by kernel_rfl)) (by kernel_rfl)) (by kernel_rfl)) (by kernel_rfl)) (by kernel_rfl)) (by kernel_rfl)) (hn fun _ => rfl))
    (fun n ih => asc_cons (pendulumsee_sentinels_ok ok n) <| asc_cons (pendulumsee_Alike_ok ok n) <| asc_nil)
/-! ### pendulum/pendulumref.Around -/
abbrev ref_Around_ins : Sh := ⟨[(.agg [(.val (.int .i64)), (.val .bool), (.val .bool), (.val (.int .i64)), (.val (.int .i64))]), (.one (.val (.int .i64)))], []⟩
abbrev ref_Around_outs : List Sh := [⟨[(.agg [(.val (.int .i64)), (.val .bool), (.val .bool), (.val (.int .i64)), (.val (.int .i64))])], []⟩]
def ref_Around : Nat → ref_Around_ins.T → Option (OutsT ref_Around_outs)
  | 0, _ => none
  | n + 1, (((x1, x2, x3, x4, x5, _), x6, _), _) =>
    if x1 == 0 then
      match ref_None n ((), ()) with
      | some (((x7, x8, x9, x10, x11, _), _), _) => (
        some (((x7, x8, x9, x10, x11, ()), ()), ()))
      | none => none
    else
      if x2 then
        some (((x1, true, true, x6, x4, ()), ()), ())
      else
        some (((x1, true, false, x6, 0, ()), ()), ())
def ref_Around_H (n : Nat) : Hints := ⟨[], fun _ => [], fun _ => none, fun _ => none, fun _ => none, fun _ => 0, fun _ => none⟩
def ref_Around_O (n : Nat) : FuncId → List FSpec := asc [(28, ⟨ref_None_ins, ref_None_outs, ref_None n⟩)]
def b98 : Code := bodyOf Tryd.f98
theorem ref_Around_ok {S : Nat → Addr} (ok : CfgOk P CC S) : ∀ n, SpecOk P CC S 98 ⟨ref_Around_ins, ref_Around_outs, ref_Around n⟩ :=
  fn_all ok (O := ref_Around_O) (H := ref_Around_H) (fn := Tryd.f98) (body := b98) (by kernel_rfl) (by kernel_rfl) (by kernel_rfl) (by decide) (by kernel_rfl)
    (fun x => by kernel_rfl) (fun n => by
      rintro ⟨⟨⟨x1, x2, x3, x4, x5, ⟨⟩⟩, x6, ⟨⟩⟩, ⟨⟩⟩
      kernel_rfl)
    (fun n => obl_of (by kernel_rfl) (by kernel_rfl) (lz) (cn (cn (cn (cn (cn (cn (cn (cn (cz) (by kernel_rfl)) (by kernel_rfl)) (by kernel_rfl)) (by kernel_rfl)) (by kernel_rfl)) (by kernel_rfl)) (by kernel_rfl)) (by kernel_rfl)) (hn fun _ => rfl))
    (fun n ih => asc_cons (ref_None_ok ok n) <| asc_nil)
/-! ### pendulum/pendulumsee.Fault -/
abbrev pendulumsee_Fault_ins : Sh := ⟨[(.one (.val .err))], []⟩
abbrev pendulumsee_Fault_outs : List Sh := [⟨[(.agg [(.val (.int .i64)), (.val .bool), (.val .bool), (.val (.int .i64)), (.val (.int .i64))])], []⟩]
def pendulumsee_Fault : Nat → pendulumsee_Fault_ins.T → Option (OutsT pendulumsee_Fault_outs)
  | 0, _ => none
  | n + 1, ((x1, _), _) =>
    if errNil x1 then
      match ref_None n ((), ()) with
      | some (((x2, x3, x4, x5, x6, _), _), _) => (
        some (((x2, x3, x4, x5, x6, ()), ()), ()))
      | none => none
    else
      if !(errIsAt x1) then
        match pendulumsee_sentinel n ((x1, ()), ()) with
        | some ((x7, _), _) => (
          match ref_Bare n ((x7, ()), ()) with
          | some (((x8, x9, x10, x11, x12, _), _), _) => (
            some (((x8, x9, x10, x11, x12, ()), ()), ()))
          | none => none)
        | none => none
      else
        if Option.isNone (errAt x1) then
          match ref_Bare n (((-1), ()), ()) with
          | some (((x14, x15, x16, x17, x18, _), _), _) => (
            some (((x14, x15, x16, x17, x18, ()), ()), ()))
          | none => none
        else
          match errAt x1 with
          | some x13 => (
            if errNil x13.2 then
              match ref_Bare n (((-1), ()), ()) with
              | some (((x19, x20, x21, x22, x23, _), _), _) => (
                some (((x19, x20, x21, x22, x23, ()), ()), ()))
              | none => none
            else
              match errAt x1 with
              | some x24 => (
                if errIsAt x24.2 then
                  if Option.isNone (errAt x24.2) then
                    match ref_Bare n (((-1), ()), ()) with
                    | some (((x26, x27, x28, x29, x30, _), _), _) => (
                      some (((x26, x27, x28, x29, x30, ()), ()), ()))
                    | none => none
                  else
                    match errAt x24.2 with
                    | some x25 => (
                      if errNil x25.2 then
                        match ref_Bare n (((-1), ()), ()) with
                        | some (((x31, x32, x33, x34, x35, _), _), _) => (
                          some (((x31, x32, x33, x34, x35, ()), ()), ()))
                        | none => none
                      else
                        match errAt x24.2 with
                        | some x36 => (
                          match pendulumsee_sentinel n ((x36.2, ()), ()) with
                          | some ((x37, _), _) => (
                            match errAt x24.2 with
                            | some x38 => (
                              match ref_Placed n ((x37, x38.1, ()), ()) with
                              | some (((x39, x40, x41, x42, x43, _), _), _) => (
                                match errAt x1 with
                                | some x44 => (
                                  match ref_Around n (((x39, x40, x41, x42, x43, ()), x44.1, ()), ()) with
                                  | some (((x45, x46, x47, x48, x49, _), _), _) => (
                                    some (((x45, x46, x47, x48, x49, ()), ()), ()))
                                  | none => none)
                                | none => none)
                              | none => none)
                            | none => none)
                          | none => none)
                        | none => none)
                    | none => none
                else
                  match errAt x1 with
                  | some x50 => (
                    match pendulumsee_sentinel n ((x50.2, ()), ()) with
                    | some ((x51, _), _) => (
                      match errAt x1 with
                      | some x52 => (
                        match ref_Placed n ((x51, x52.1, ()), ()) with
                        | some (((x53, x54, x55, x56, x57, _), _), _) => (
                          some (((x53, x54, x55, x56, x57, ()), ()), ()))
                        | none => none)
                      | none => none)
                    | none => none)
                  | none => none)
              | none => none)
          | none => none
def pendulumsee_Fault_H (n : Nat) : Hints := ⟨[], fun _ => [], fun _ => none, fun _ => none, fun _ => none, fun _ => 0, fun _ => none⟩
def pendulumsee_Fault_O (n : Nat) : FuncId → List FSpec := asc [(28, ⟨ref_None_ins, ref_None_outs, ref_None n⟩), (29, ⟨ref_Placed_ins, ref_Placed_outs, ref_Placed n⟩), (30, ⟨ref_Bare_ins, ref_Bare_outs, ref_Bare n⟩), (97, ⟨pendulumsee_sentinel_ins, pendulumsee_sentinel_outs, pendulumsee_sentinel n⟩), (98, ⟨ref_Around_ins, ref_Around_outs, ref_Around n⟩)]
def b75 : Code := bodyOf Tryd.f75
theorem pendulumsee_Fault_ok {S : Nat → Addr} (ok : CfgOk P CC S) : ∀ n, SpecOk P CC S 75 ⟨pendulumsee_Fault_ins, pendulumsee_Fault_outs, pendulumsee_Fault n⟩ :=
  fn_all ok (O := pendulumsee_Fault_O) (H := pendulumsee_Fault_H) (fn := Tryd.f75) (body := b75) (by kernel_rfl) (by kernel_rfl) (by kernel_rfl) (by decide) (by kernel_rfl)
    (fun x => by kernel_rfl) (fun n => by
      rintro ⟨⟨x1, ⟨⟩⟩, ⟨⟩⟩
      kernel_rfl)
    (fun n => obl_of (by kernel_rfl) (by kernel_rfl) (lz) (cn (cn (cn (cn (cn (cn (cn (cn (cn (cn (cn (cn (cn (cn (cn (cn (cn (cn (cn (cz) (by kernel_rfl)) (by kernel_rfl)) (by kernel_rfl)) (by kernel_rfl)) (by kernel_rfl)) (by kernel_rfl)) (by kernel_rfl)) (by kernel_rfl)) (by kernel_rfl)) (by kernel_rfl)) (by kernel_rfl)) (by kernel_rfl)) (by kernel_rfl)) (by kernel_rfl)) (by kernel_rfl)) (by kernel_rfl)) (by kernel_rfl)) (by kernel_rfl)) (by kernel_rfl)) (hn fun _ => rfl))
    (fun n ih => asc_cons (ref_None_ok ok n) <| asc_cons (ref_Placed_ok ok n) <| asc_cons (ref_Bare_ok ok n) <| asc_cons (pendulumsee_sentinel_ok ok n) <| asc_cons (ref_Around_ok ok n) <| asc_nil)
/-! ### pendulum/pendulumref.SameFault -/
abbrev ref_SameFault_ins : Sh := ⟨[(.agg [(.val (.int .i64)), (.val .bool), (.val .bool), (.val (.int .i64)), (.val (.int .i64))]), (.agg [(.val (.int .i64)), (.val .bool), (.val .bool), (.val (.int .i64)), (.val (.int .i64))])], []⟩
abbrev ref_SameFault_outs : List Sh := [⟨[(.one (.val .bool))], []⟩]
def ref_SameFault : Nat → ref_SameFault_ins.T → Option (OutsT ref_SameFault_outs)
  | 0, _ => none
  | n + 1, (((x1, x2, x3, x4, x5, _), (x6, x7, x8, x9, x10, _), _), _) =>
    if x1 == x6 then
      if x2 == x7 then
        if x4 == x9 then
          if x3 == x8 then
            some ((x5 == x10, ()), ())
          else
            some ((false, ()), ())
        else
          some ((false, ()), ())
      else
        some ((false, ()), ())
    else
      some ((false, ()), ())
def ref_SameFault_H (n : Nat) : Hints := ⟨[], fun _ => [], fun _ => none, fun _ => none, fun _ => none, fun _ => 0, fun _ => none⟩
def ref_SameFault_O (n : Nat) : FuncId → List FSpec := asc []
def b74 : Code := bodyOf Tryd.f74
theorem ref_SameFault_ok {S : Nat → Addr} (ok : CfgOk P CC S) : ∀ n, SpecOk P CC S 74 ⟨ref_SameFault_ins, ref_SameFault_outs, ref_SameFault n⟩ :=
  fn_all ok (O := ref_SameFault_O) (H := ref_SameFault_H) (fn := Tryd.f74) (body := b74) (by kernel_rfl) (by kernel_rfl) (by kernel_rfl) (by decide) (by kernel_rfl)
    (fun x => by kernel_rfl) (fun n => by
      rintro ⟨⟨⟨x1, x2, x3, x4, x5, ⟨⟩⟩, ⟨x6, x7, x8, x9, x10, ⟨⟩⟩, ⟨⟩⟩, ⟨⟩⟩
      kernel_rfl)
    (fun n => obl_of (by kernel_rfl) (by kernel_rfl) (lz) (cn (cn (cz) (by kernel_rfl)) (by kernel_rfl)) (hn fun _ => rfl))
    (fun n ih => asc_nil)
/-! ### pendulum/pendulumsee.Same -/
abbrev pendulumsee_Same_ins : Sh := ⟨[(.one (.val .err)), (.agg [(.val (.int .i64)), (.val .bool), (.val .bool), (.val (.int .i64)), (.val (.int .i64))])], []⟩
abbrev pendulumsee_Same_outs : List Sh := [⟨[(.one (.val .bool))], []⟩]
def pendulumsee_Same : Nat → pendulumsee_Same_ins.T → Option (OutsT pendulumsee_Same_outs)
  | 0, _ => none
  | n + 1, ((x1, (x2, x3, x4, x5, x6, _), _), _) =>
    match pendulumsee_Fault n ((x1, ()), ()) with
    | some (((x7, x8, x9, x10, x11, _), _), _) => (
      match ref_SameFault n (((x7, x8, x9, x10, x11, ()), (x2, x3, x4, x5, x6, ()), ()), ()) with
      | some ((x12, _), _) => (
        some ((x12, ()), ()))
      | none => none)
    | none => none
def pendulumsee_Same_H (n : Nat) : Hints := ⟨[], fun _ => [], fun _ => none, fun _ => none, fun _ => none, fun _ => 0, fun _ => none⟩
def pendulumsee_Same_O (n : Nat) : FuncId → List FSpec := asc [(74, ⟨ref_SameFault_ins, ref_SameFault_outs, ref_SameFault n⟩), (75, ⟨pendulumsee_Fault_ins, pendulumsee_Fault_outs, pendulumsee_Fault n⟩)]
def b31 : Code := bodyOf Tryd.f31
theorem pendulumsee_Same_ok {S : Nat → Addr} (ok : CfgOk P CC S) : ∀ n, SpecOk P CC S 31 ⟨pendulumsee_Same_ins, pendulumsee_Same_outs, pendulumsee_Same n⟩ :=
  fn_all ok (O := pendulumsee_Same_O) (H := pendulumsee_Same_H) (fn := Tryd.f31) (body := b31) (by kernel_rfl) (by kernel_rfl) (by kernel_rfl) (by decide) (by kernel_rfl)
    (fun x => by kernel_rfl) (fun n => by
      rintro ⟨⟨x1, ⟨x2, x3, x4, x5, x6, ⟨⟩⟩, ⟨⟩⟩, ⟨⟩⟩
      kernel_rfl)
    (fun n => obl_of (by kernel_rfl) (by kernel_rfl) (lz) (cn (cn (cz) (by kernel_rfl)) (by kernel_rfl)) (hn fun _ => rfl))
    (fun n ih => asc_cons (ref_SameFault_ok ok n) <| asc_cons (pendulumsee_Fault_ok ok n) <| asc_nil)
/-! ### pendulum/pendulumref.Rising -/
abbrev ref_Rising_ins : Sh := ⟨[(.one (.arr 0))], [(.arr 9 .str)]⟩
abbrev ref_Rising_outs : List Sh := [⟨[(.one (.arr 1))], [(.arr 9 .str), (.arr 9 .str)]⟩]
abbrev ref_Rising_l6_h : Sh := ⟨[(.one (.arr 0)), (.one (.arr 1)), (.one (.val (.int .i64))), (.one (.val (.int .i64)))], [(.arr 9 .str), (.arr 9 .str)]⟩
abbrev ref_Rising_l6_o : List Out := [⟨(.exit 2), [0, 3, 4, 5], ⟨[(.one (.arr 0)), (.one (.arr 1)), (.one (.val (.int .i64))), (.one (.val (.int .i64)))], [(.arr 9 .str), (.arr 9 .str)]⟩⟩]
def ref_Rising_l6 (n : Nat) : Nat → ref_Rising_l6_h.T → Option (OutT ref_Rising_l6_o)
  | 0, _ => none
  | k + 1, ((_, _, x1, x2, _), (l3, l4, _)) =>
    if decide (x2 < (l4.length : Int)) then
      if 0 ≤ x2 ∧ x2 < (l4.length : Int) then (
        if 0 ≤ x1 ∧ x1 < (l3.length : Int) then (
          if strLt (rdT (.str : Ty) l4 x2) (rdT (.str : Ty) l3 x1) then
            let v5 : Int := IntKind.i64.wrap (x2 + 1)
            ref_Rising_l6 n k (((), (), x1, v5, ()), (l3, l4, ()))
          else
            some (.inl (((), (), x1, x2, ()), (l3, l4, ())))) else none) else none
    else
      some (.inl (((), (), x1, x2, ()), (l3, l4, ())))
abbrev ref_Rising_c9_h : Sh := ⟨[(.one (.arr 0)), (.one (.arr 1)), (.one (.val (.int .i64))), (.one (.val (.int .i64)))], [(.arr 9 .str), (.arr 9 .str)]⟩
abbrev ref_Rising_c9_o : List Out := [⟨(.exit 1), [0, 3, 4], ⟨[(.one (.arr 0)), (.one (.arr 1)), (.one (.val (.int .i64)))], [(.arr 9 .str), (.arr 9 .str)]⟩⟩, ⟨.normal, [0, 3, 4, 5], ⟨[(.one (.arr 0)), (.one (.arr 1)), (.one (.val (.int .i64))), (.one (.val (.int .i64)))], [(.arr 9 .str), (.arr 9 .str)]⟩⟩]
def ref_Rising_c9 (n : Nat) : ref_Rising_c9_h.T → Option (OutT ref_Rising_c9_o)
  | ((_, _, x1, x2, _), (l3, l4, _)) =>
    if decide (x2 < (l4.length : Int)) then
      if 0 ≤ x2 ∧ x2 < (l4.length : Int) then (
        if 0 ≤ x1 ∧ x1 < (l3.length : Int) then (
          if strEq (rdT (.str : Ty) l4 x2) (rdT (.str : Ty) l3 x1) then
            some (.inl (((), (), x1, ()), (l3, l4, ())))
          else
            some (.inr (.inl (((), (), x1, x2, ()), (l3, l4, ()))))) else none) else none
    else
      some (.inr (.inl (((), (), x1, x2, ()), (l3, l4, ()))))
abbrev ref_Rising_l3_h : Sh := ⟨[(.one (.arr 0)), (.one (.arr 1)), (.one (.val (.int .i64)))], [(.arr 9 .str), (.arr 9 .str)]⟩
abbrev ref_Rising_l3_o : List Out := [⟨(.exit 0), [3], ⟨[(.one (.arr 1))], [(.arr 9 .str), (.arr 9 .str)]⟩⟩]
def ref_Rising_l3 (n : Nat) : Nat → ref_Rising_l3_h.T → Option (OutT ref_Rising_l3_o)
  | 0, _ => none
  | k + 1, ((_, _, x1, _), (l2, l3, _)) =>
    if decide (x1 < (l2.length : Int)) then
      match ref_Rising_l6 n n (((), (), x1, 0, ()), (l2, l3, ())) with
      | some (.inl ((_, _, x4, x5, _), (l6, l7, _))) => (
        match ref_Rising_c9 n (((), (), x4, x5, ()), (l6, l7, ())) with
        | some (.inl ((_, _, x8, _), (l9, l10, _))) => (
          let v17 : Int := IntKind.i64.wrap (x8 + 1)
          ref_Rising_l3 n k (((), (), v17, ()), (l9, l10, ())))
        | some (.inr (.inl ((_, _, x11, x12, _), (l13, l14, _)))) => (
          let v15 : Int := IntKind.i64.wrap ((l14.length : Int) + 1)
          if 0 ≤ (0 : Int) ∧ (0 : Int) ≤ v15 ∧ v15 * ((16 : Nat) : Int) ≤ 140737488355328 ∧ v15 ≤ 140737488355328 then (
            if 0 ≤ x12 ∧ x12 ≤ (l14.length : Int) then (
              if ((List.replicate (0 : Int).toNat (⟨#[]⟩ : ByteArray)).length + (cutL l14 0 x12).length) * 16 ≤ 140737488355328 then (
                if 0 ≤ x11 ∧ x11 < (l13.length : Int) then (
                  if (((List.replicate (0 : Int).toNat (⟨#[]⟩ : ByteArray)) ++ (cutL l14 0 x12)).length + ([rdT (.str : Ty) l13 x11] : List (.str : Ty).T).length) * 16 ≤ 140737488355328 then (
                    if 0 ≤ x12 ∧ x12 ≤ (l14.length : Int) then (
                      let v16 : List ByteArray := cutL l14 x12 (l14.length : Int)
                      if ((((List.replicate (0 : Int).toNat (⟨#[]⟩ : ByteArray)) ++ (cutL l14 0 x12)) ++ [rdT (.str : Ty) l13 x11]).length + v16.length) * 16 ≤ 140737488355328 then (
                        let v18 : Int := IntKind.i64.wrap (x11 + 1)
                        ref_Rising_l3 n k (((), (), v18, ()), (l13, (((List.replicate (0 : Int).toNat (⟨#[]⟩ : ByteArray)) ++ (cutL l14 0 x12)) ++ [rdT (.str : Ty) l13 x11]) ++ v16, ()))) else none) else none) else none) else none) else none) else none) else none)
        | some (.inr (.inr (_))) => none
        | none => none)
      | some (.inr (_)) => none
      | none => none
    else
      some (.inl (((), ()), (l2, l3, ())))
def ref_Rising : Nat → ref_Rising_ins.T → Option (OutsT ref_Rising_outs)
  | 0, _ => none
  | n + 1, ((_, _), (l1, _)) =>
    match ref_Rising_l3 n n (((), (), 0, ()), (l1, [], ())) with
    | some (.inl ((_, _), (l2, l3, _))) => (
      some (((), ()), (l2, l3, ())))
    | some (.inr (_)) => none
    | none => none
def ref_Rising_H (n : Nat) : Hints := ⟨[], fun k => match k with | 9 => [3] | _ => [], fun k => match k with | 6 => some ⟨[0, 3, 4, 5], ref_Rising_l6_h, ref_Rising_l6_o, ref_Rising_l6 n⟩ | 3 => some ⟨[0, 3, 4], ref_Rising_l3_h, ref_Rising_l3_o, ref_Rising_l3 n⟩ | _ => none, fun k => match k with | 9 => some ⟨[0, 3, 4, 5], ref_Rising_c9_h, ref_Rising_c9_o, fun n => ref_Rising_c9 n⟩ | _ => none, fun _ => none, fun _ => 0, fun _ => none⟩
def ref_Rising_O (n : Nat) : FuncId → List FSpec := asc []
def b34 : Code := bodyOf Tryd.f34
theorem ref_Rising_l3_k0 (n : Nat) : LoopOk P CC (ref_Rising_O n) n 1 66 (ref_Rising_H n) ⟨[0, 3, 4], ref_Rising_l3_h, ref_Rising_l3_o, ref_Rising_l3 n⟩ ((loopsOf b34).getD 0 .skip) := by
  refine ⟨fun _ => by kernel_rfl, ?_⟩
  rintro k ⟨⟨⟨⟩, ⟨⟩, x1, ⟨⟩⟩, ⟨x2, x3, ⟨⟩⟩⟩
  kernel_rfl
theorem ref_Rising_l6_k1 (n : Nat) : LoopOk P CC (ref_Rising_O n) n 1 66 (ref_Rising_H n) ⟨[0, 3, 4, 5], ref_Rising_l6_h, ref_Rising_l6_o, ref_Rising_l6 n⟩ ((loopsOf b34).getD 1 .skip) := by
  refine ⟨fun _ => by kernel_rfl, ?_⟩
  rintro k ⟨⟨⟨⟩, ⟨⟩, x1, x2, ⟨⟩⟩, ⟨x3, x4, ⟨⟩⟩⟩
  kernel_rfl
theorem ref_Rising_c9_k11 (n : Nat) : CutOk P CC (ref_Rising_O n) n 1 66 (ref_Rising_H n) ⟨[0, 3, 4, 5], ref_Rising_c9_h, ref_Rising_c9_o, fun n => ref_Rising_c9 n⟩ ((cutsOf b34).getD 11 (0, .skip)).2 := by
  rintro ⟨⟨⟨⟩, ⟨⟩, x1, x2, ⟨⟩⟩, ⟨x3, x4, ⟨⟩⟩⟩
  kernel_rfl
theorem ref_Rising_ok {S : Nat → Addr} (ok : CfgOk P CC S) : ∀ n, SpecOk P CC S 34 ⟨ref_Rising_ins, ref_Rising_outs, ref_Rising n⟩ :=
  fn_all ok (O := ref_Rising_O) (H := ref_Rising_H) (fn := Tryd.f34) (body := b34) (by kernel_rfl) (by kernel_rfl) (by kernel_rfl) (by decide) (by kernel_rfl)
    (fun x => by kernel_rfl) (fun n => by
      rintro ⟨⟨⟨⟩, ⟨⟩⟩, ⟨x1, ⟨⟩⟩⟩
      kernel_rfl)
    (fun n => obl_of (by kernel_rfl) (by kernel_rfl) (ls (ls (lz) (by kernel_rfl) (by kernel_rfl) (ref_Rising_l3_k0 n)) (by kernel_rfl) (by kernel_rfl) (ref_Rising_l6_k1 n)) (cn (cn (cn (cn (cs (cn (cn (cn (cn (cn (cn (cn (cn (cn (cn (cn (cz) (by kernel_rfl)) (by kernel_rfl)) (by kernel_rfl)) (by kernel_rfl)) (by kernel_rfl)) (by kernel_rfl)) (by kernel_rfl)) (by kernel_rfl)) (by kernel_rfl)) (by kernel_rfl)) (by kernel_rfl)) (by kernel_rfl) (ref_Rising_c9_k11 n)) (by kernel_rfl)) (by kernel_rfl)) (by kernel_rfl)) (by kernel_rfl)) (hn fun _ => rfl))
    (fun n ih => asc_nil)
/-! ### pendulum/pendulumref10.Calls -/
abbrev ref10_Calls_ins : Sh := ⟨[(.agg [(.val .str), (.val ty2), (.val ty2), (.val ty2), (.val ty10)])], []⟩
abbrev ref10_Calls_outs : List Sh := [⟨[(.one (.val ty13))], []⟩]
abbrev ref10_Calls_l3_h : Sh := ⟨[(.one (.ptr 0 0)), (.one (.arr 1)), (.one (.val (.int .i64)))], [(.obj 25 [(.val .str), (.val ty2), (.val ty2), (.val ty2), (.val ty10)]), (.arr 9 .str)]⟩
abbrev ref10_Calls_l3_o : List Out := [⟨(.exit 0), [3], ⟨[(.one (.arr 0))], [(.arr 9 .str)]⟩⟩]
def ref10_Calls_l3 (n : Nat) : Nat → ref10_Calls_l3_h.T → Option (OutT ref10_Calls_l3_o)
  | 0, _ => none
  | k + 1, ((_, _, x1, _), ((x2, x3, x4, x5, x6, _), l7, _)) =>
    if decide (x1 < (x6.length : Int)) then
      if 0 ≤ x1 ∧ x1 < (x6.length : Int) then (
        if !strEq (((((rdT ty11 x6 x1).2).2).2).1) (⟨#[]⟩ : ByteArray) then
          if 0 ≤ x1 ∧ x1 < (x6.length : Int) then (
            if (l7.length + ([((((rdT ty11 x6 x1).2).2).2).1] : List (.str : Ty).T).length) * 16 ≤ 140737488355328 then (
              let v8 : Int := IntKind.i64.wrap (x1 + 1)
              ref10_Calls_l3 n k (((), (), v8, ()), ((x2, x3, x4, x5, x6, ()), l7 ++ [((((rdT ty11 x6 x1).2).2).2).1], ()))) else none) else none
        else
          let v9 : Int := IntKind.i64.wrap (x1 + 1)
          ref10_Calls_l3 n k (((), (), v9, ()), ((x2, x3, x4, x5, x6, ()), l7, ()))) else none
    else
      some (.inl (((), ()), (l7, ())))
def ref10_Calls : Nat → ref10_Calls_ins.T → Option (OutsT ref10_Calls_outs)
  | 0, _ => none
  | n + 1, (((x1, x2, x3, x4, x5, _), _), _) =>
    match ref10_Calls_l3 n n (((), (), 0, ()), ((x1, x2, x3, x4, x5, ()), [], ())) with
    | some (.inl ((_, _), (l6, _))) => (
      match ref_Rising n (((), ()), (l6, ())) with
      | some ((_, _), (l7, l8, _)) => (
        some ((l8, ()), ()))
      | none => none)
    | some (.inr (_)) => none
    | none => none
def ref10_Calls_H (n : Nat) : Hints := ⟨[], fun _ => [], fun k => match k with | 3 => some ⟨[1, 3, 4], ref10_Calls_l3_h, ref10_Calls_l3_o, ref10_Calls_l3 n⟩ | _ => none, fun _ => none, fun _ => none, fun _ => 0, fun _ => none⟩
def ref10_Calls_O (n : Nat) : FuncId → List FSpec := asc [(34, ⟨ref_Rising_ins, ref_Rising_outs, ref_Rising n⟩)]
def b32 : Code := bodyOf Tryd.f32
theorem ref10_Calls_l3_k0 (n : Nat) : LoopOk P CC (ref10_Calls_O n) n 0 30 (ref10_Calls_H n) ⟨[1, 3, 4], ref10_Calls_l3_h, ref10_Calls_l3_o, ref10_Calls_l3 n⟩ ((loopsOf b32).getD 0 .skip) := by
  refine ⟨fun _ => by kernel_rfl, ?_⟩
  rintro k ⟨⟨⟨⟩, ⟨⟩, x1, ⟨⟩⟩, ⟨⟨x2, x3, x4, x5, x6, ⟨⟩⟩, x7, ⟨⟩⟩⟩
  kernel_rfl
theorem ref10_Calls_ok {S : Nat → Addr} (ok : CfgOk P CC S) : ∀ n, SpecOk P CC S 32 ⟨ref10_Calls_ins, ref10_Calls_outs, ref10_Calls n⟩ :=
  fn_all ok (O := ref10_Calls_O) (H := ref10_Calls_H) (fn := Tryd.f32) (body := b32) (by kernel_rfl) (by kernel_rfl) (by kernel_rfl) (by decide) (by kernel_rfl)
    (fun x => by kernel_rfl) (fun n => by
      rintro ⟨⟨⟨x1, x2, x3, x4, x5, ⟨⟩⟩, ⟨⟩⟩, ⟨⟩⟩
      kernel_rfl)
    (fun n => obl_of (by kernel_rfl) (by kernel_rfl) (ls (lz) (by kernel_rfl) (by kernel_rfl) (ref10_Calls_l3_k0 n)) (cn (cn (cn (cn (cn (cn (cn (cn (cn (cz) (by kernel_rfl)) (by kernel_rfl)) (by kernel_rfl)) (by kernel_rfl)) (by kernel_rfl)) (by kernel_rfl)) (by kernel_rfl)) (by kernel_rfl)) (by kernel_rfl)) (hn fun _ => rfl))
    (fun n ih => asc_cons (ref_Rising_ok ok n) <| asc_nil)
/-! ### pendulum/pendulumref.Among -/
abbrev ref_Among_ins : Sh := ⟨[(.one (.val ty13)), (.one (.val .str))], []⟩
abbrev ref_Among_outs : List Sh := [⟨[(.one (.val (.int .i64)))], []⟩]
abbrev ref_Among_l2_h : Sh := ⟨[(.one (.val ty13)), (.one (.val .str)), (.one (.val (.int .i64)))], []⟩
abbrev ref_Among_l2_o : List Out := [⟨(.exit 0), [], ⟨[], []⟩⟩, ⟨.ret, [4], ⟨[(.one (.val (.int .i64)))], []⟩⟩]
def ref_Among_l2 (n : Nat) : Nat → ref_Among_l2_h.T → Option (OutT ref_Among_l2_o)
  | 0, _ => none
  | k + 1, ((x1, x2, x3, _), _) =>
    if decide (x3 < (x1.length : Int)) then
      if 0 ≤ x3 ∧ x3 < (x1.length : Int) then (
        if strEq (rdT (.str : Ty) x1 x3) x2 then
          some (.inr (.inl ((x3, ()), ())))
        else
          let v4 : Int := IntKind.i64.wrap (x3 + 1)
          ref_Among_l2 n k ((x1, x2, v4, ()), ())) else none
    else
      some (.inl ((), ()))
def ref_Among : Nat → ref_Among_ins.T → Option (OutsT ref_Among_outs)
  | 0, _ => none
  | n + 1, ((x1, x2, _), _) =>
    match ref_Among_l2 n n ((x1, x2, 0, ()), ()) with
    | some (.inl (_, _)) => (
      some (((-1), ()), ()))
    | some (.inr (.inl ((x3, _), _))) => (
      some ((x3, ()), ()))
    | some (.inr (.inr (_))) => none
    | none => none
def ref_Among_H (n : Nat) : Hints := ⟨[], fun _ => [], fun k => match k with | 2 => some ⟨[0, 1, 5], ref_Among_l2_h, ref_Among_l2_o, ref_Among_l2 n⟩ | _ => none, fun _ => none, fun _ => none, fun _ => 0, fun _ => none⟩
def ref_Among_O (n : Nat) : FuncId → List FSpec := asc []
def b33 : Code := bodyOf Tryd.f33
theorem ref_Among_l2_k0 (n : Nat) : LoopOk P CC (ref_Among_O n) n 0 19 (ref_Among_H n) ⟨[0, 1, 5], ref_Among_l2_h, ref_Among_l2_o, ref_Among_l2 n⟩ ((loopsOf b33).getD 0 .skip) := by
  refine ⟨fun _ => by kernel_rfl, ?_⟩
  rintro k ⟨⟨x1, x2, x3, ⟨⟩⟩, ⟨⟩⟩
  kernel_rfl
theorem ref_Among_ok {S : Nat → Addr} (ok : CfgOk P CC S) : ∀ n, SpecOk P CC S 33 ⟨ref_Among_ins, ref_Among_outs, ref_Among n⟩ :=
  fn_all ok (O := ref_Among_O) (H := ref_Among_H) (fn := Tryd.f33) (body := b33) (by kernel_rfl) (by kernel_rfl) (by kernel_rfl) (by decide) (by kernel_rfl)
    (fun x => by kernel_rfl) (fun n => by
      rintro ⟨⟨x1, x2, ⟨⟩⟩, ⟨⟩⟩
      kernel_rfl)
    (fun n => obl_of (by kernel_rfl) (by kernel_rfl) (ls (lz) (by kernel_rfl) (by kernel_rfl) (ref_Among_l2_k0 n)) (cn (cn (cn (cn (cn (cn (cn (cn (cn (cz) (by kernel_rfl)) (by kernel_rfl)) (by kernel_rfl)) (by kernel_rfl)) (by kernel_rfl)) (by kernel_rfl)) (by kernel_rfl)) (by kernel_rfl)) (by kernel_rfl)) (hn fun _ => rfl))
    (fun n ih => asc_nil)
/-! ### maps.Keys[map[string][]string,string,[]string] -/
abbrev maps_Keys_map_string_string_string_string_ins : Sh := ⟨[(.one (.map 0))], [(.map .str ty13 false)]⟩
abbrev maps_Keys_map_string_string_string_string_outs : List Sh := [⟨[(.one (.fn 96 [1]))], [(.map .str ty13 false), (.obj 95 [(.map 0)])]⟩]
def maps_Keys_map_string_string_string_string : Nat → maps_Keys_map_string_string_string_string_ins.T → Option (OutsT maps_Keys_map_string_string_string_string_outs)
  | 0, _ => none
  | n + 1, ((_, _), (m1, _)) =>
    some (((), ()), (m1, ((), ()), ()))
def maps_Keys_map_string_string_string_string_H (n : Nat) : Hints := ⟨[], fun _ => [], fun _ => none, fun _ => none, fun _ => none, fun _ => 0, fun _ => none⟩
def maps_Keys_map_string_string_string_string_O (n : Nat) : FuncId → List FSpec := asc []
def b73 : Code := bodyOf Tryd.f73
theorem maps_Keys_map_string_string_string_string_ok {S : Nat → Addr} (ok : CfgOk P CC S) : ∀ n, SpecOk P CC S 73 ⟨maps_Keys_map_string_string_string_string_ins, maps_Keys_map_string_string_string_string_outs, maps_Keys_map_string_string_string_string n⟩ :=
  fn_all ok (O := maps_Keys_map_string_string_string_string_O) (H := maps_Keys_map_string_string_string_string_H) (fn := Tryd.f73) (body := b73) (by kernel_rfl) (by kernel_rfl) (by kernel_rfl) (by decide) (by kernel_rfl)
    (fun x => by kernel_rfl) (fun n => by
      rintro ⟨⟨⟨⟩, ⟨⟩⟩, ⟨x1, ⟨⟩⟩⟩
      kernel_rfl)
    (fun n => obl_of (by kernel_rfl) (by kernel_rfl) (lz) (cn (cn (cz) (by kernel_rfl)) (by kernel_rfl)) (hn fun _ => rfl))
    (fun n ih => asc_nil)
/-! ### slices.Sorted[string] (by hand) -/
abbrev slices_Sorted_96_ins : Sh := ⟨[(.one (.fn 96 [0]))], [(.obj 95 [(.map 1)]), (.map .str ty13 false)]⟩
abbrev slices_Sorted_96_outs : List Sh := [⟨[(.one (.arr 2))], [(.obj 95 [(.map 1)]), (.map .str ty13 false), (.arr 9 .str)]⟩]
def slices_Sorted_96 : Nat → slices_Sorted_96_ins.T → Option (OutsT slices_Sorted_96_outs) := fun _ => sortedSSem 95 9 ty13 false 96
theorem slices_Sorted_96_ok {S : Nat → Addr} (ok : CfgOk P CC S) : ∀ n, SpecOk P CC S 72 ⟨slices_Sorted_96_ins, slices_Sorted_96_outs, slices_Sorted_96 n⟩ := fun n => sortedS_spec (ty := 9) ⟨Tryd.f72, by kernel_rfl, by kernel_rfl, by kernel_rfl⟩ (by kernel_rfl) Sq.sorted_calls_96
/-! ### (*pendulum/deps.Graph).Names -/
abbrev deps_Graph_Names_ins : Sh := ⟨[(.one (.ptr 0 0))], [(.obj 97 [(.map 1)]), (.map .str ty13 false)]⟩
abbrev deps_Graph_Names_outs : List Sh := [⟨[(.one (.arr 2))], [(.obj 97 [(.map 1)]), (.map .str ty13 false), (.arr 9 .str)]⟩]
def deps_Graph_Names : Nat → deps_Graph_Names_ins.T → Option (OutsT deps_Graph_Names_outs)
  | 0, _ => none
  | n + 1, ((_, _), ((_, _), m1, _)) =>
    match maps_Keys_map_string_string_string_string n (((), ()), (m1, ())) with
    | some ((_, _), (m2, (_, _), _)) => (
      match slices_Sorted_96 n (((), ()), (((), ()), m2, ())) with
      | some ((_, _), ((_, _), m3, l4, _)) => (
        some (((), ()), (((), ()), m3, l4, ())))
      | none => none)
    | none => none
def deps_Graph_Names_H (n : Nat) : Hints := ⟨[], fun _ => [], fun _ => none, fun _ => none, fun _ => none, fun _ => 0, fun _ => none⟩
def deps_Graph_Names_O (n : Nat) : FuncId → List FSpec := asc [(72, ⟨slices_Sorted_96_ins, slices_Sorted_96_outs, slices_Sorted_96 n⟩), (73, ⟨maps_Keys_map_string_string_string_string_ins, maps_Keys_map_string_string_string_string_outs, maps_Keys_map_string_string_string_string n⟩)]
def b26 : Code := bodyOf Tryd.f26
theorem deps_Graph_Names_ok {S : Nat → Addr} (ok : CfgOk P CC S) : ∀ n, SpecOk P CC S 26 ⟨deps_Graph_Names_ins, deps_Graph_Names_outs, deps_Graph_Names n⟩ :=
  fn_all ok (O := deps_Graph_Names_O) (H := deps_Graph_Names_H) (fn := Tryd.f26) (body := b26) (by kernel_rfl) (by kernel_rfl) (by kernel_rfl) (by decide) (by kernel_rfl)
    (fun x => by kernel_rfl) (fun n => by
      rintro ⟨⟨⟨⟩, ⟨⟩⟩, ⟨⟨⟨⟩, ⟨⟩⟩, x1, ⟨⟩⟩⟩
      kernel_rfl)
    (fun n => obl_of (by kernel_rfl) (by kernel_rfl) (lz) (cn (cn (cz) (by kernel_rfl)) (by kernel_rfl)) (hn fun _ => rfl))
    (fun n ih => asc_cons (slices_Sorted_96_ok ok n) <| asc_cons (maps_Keys_map_string_string_string_string_ok ok n) <| asc_nil)
/-! ### slices.Clone[[]string,string] -/
abbrev slices_Clone_string_string_raw_ins : Sh := ⟨[(.one (.val ty13))], []⟩
abbrev slices_Clone_string_string_raw_outs : List Sh := [⟨[(.one (.arr 0))], [(.arr 9 .str)]⟩]
def slices_Clone_string_string_raw : Nat → slices_Clone_string_string_raw_ins.T → Option (OutsT slices_Clone_string_string_raw_outs)
  | 0, _ => none
  | n + 1, ((x1, _), _) =>
    if (x1.isEmpty || (Ty.size (.str : Ty) == 0)) = true then
      both fun b2 =>
        if b2 then
          some (((), ()), ([], ()))
        else
          if (([] : List (.str : Ty).T).length + x1.length) * 16 ≤ 140737488355328 then (
            some (((), ()), ([] ++ x1, ()))) else none
    else
      if (([] : List (.str : Ty).T).length + x1.length) * 16 ≤ 140737488355328 then (
        some (((), ()), ([] ++ x1, ()))) else none
def slices_Clone_string_string_raw_H (n : Nat) : Hints := ⟨[], fun _ => [], fun _ => none, fun _ => none, fun _ => none, fun _ => 0, fun _ => none⟩
def slices_Clone_string_string_raw_O (n : Nat) : FuncId → List FSpec := asc []
def b76 : Code := bodyOf Tryd.f76
theorem slices_Clone_string_string_raw_ok {S : Nat → Addr} (ok : CfgOk P CC S) : ∀ n, SpecOk P CC S 76 ⟨slices_Clone_string_string_raw_ins, slices_Clone_string_string_raw_outs, slices_Clone_string_string_raw n⟩ :=
  fn_all ok (O := slices_Clone_string_string_raw_O) (H := slices_Clone_string_string_raw_H) (fn := Tryd.f76) (body := b76) (by kernel_rfl) (by kernel_rfl) (by kernel_rfl) (by decide) (by kernel_rfl)
    (fun x => by kernel_rfl) (fun n => by
      rintro ⟨⟨x1, ⟨⟩⟩, ⟨⟩⟩
      kernel_rfl)
    (fun n => obl_of (by kernel_rfl) (by kernel_rfl) (lz) (cn (cn (cn (cn (cn (cz) (by kernel_rfl)) (by kernel_rfl)) (by kernel_rfl)) (by kernel_rfl)) (by kernel_rfl)) (hn fun _ => rfl))
    (fun n ih => asc_nil)
abbrev slices_Clone_string_string_ins : Sh := slices_Clone_string_string_raw_ins
abbrev slices_Clone_string_string_outs : List Sh := slices_Clone_string_string_raw_outs
def slices_Clone_string_string : Nat → slices_Clone_string_string_ins.T → Option (OutsT slices_Clone_string_string_outs)
  | 0, _ => none
  | n + 1, ((x1, _), _) => if (([] : List (.str : Ty).T).length + x1.length) * 16 ≤ 140737488355328 then (some (((), ()), (x1, ()))) else none
theorem slices_Clone_string_string_ok {S : Nat → Addr} (ok : CfgOk P CC S) : ∀ n, SpecOk P CC S 76 ⟨slices_Clone_string_string_ins, slices_Clone_string_string_outs, slices_Clone_string_string n⟩ := fun n => (slices_Clone_string_string_raw_ok ok n).weaken fun x y h => by
  cases n with
  | zero => cases h
  | succ n =>
    obtain ⟨⟨x1, ⟨⟩⟩, ⟨⟩⟩ := x
    simp only [slices_Clone_string_string] at h
    split at h
    · rename_i hc
      cases h
      simp only [slices_Clone_string_string_raw]
      split
      · rename_i he
        have h0 : x1 = [] := by simpa [Ty.size] using he
        subst h0
        exact both_same rfl rfl
      · first | rfl | (rw [if_pos hc]; rfl)
    · cases h
/-! ### (*pendulum/deps.Graph).Uses -/
abbrev deps_Graph_Uses_ins : Sh := ⟨[(.one (.ptr 0 0)), (.one (.val .str))], [(.obj 97 [(.map 1)]), (.map .str ty13 false)]⟩
abbrev deps_Graph_Uses_outs : List Sh := [⟨[(.one (.arr 2))], [(.obj 97 [(.map 1)]), (.map .str ty13 false), (.arr 9 .str)]⟩]
def deps_Graph_Uses : Nat → deps_Graph_Uses_ins.T → Option (OutsT deps_Graph_Uses_outs)
  | 0, _ => none
  | n + 1, ((_, x1, _), ((_, _), m2, _)) =>
    let v3 : List ByteArray := (mfind (keyEq (.str : Ty)) x1 m2).getD []
    match slices_Clone_string_string n ((v3, ()), ()) with
    | some ((_, _), (l4, _)) => (
      some (((), ()), (((), ()), m2, l4, ())))
    | none => none
def deps_Graph_Uses_H (n : Nat) : Hints := ⟨[], fun _ => [], fun _ => none, fun _ => none, fun _ => none, fun _ => 0, fun _ => none⟩
def deps_Graph_Uses_O (n : Nat) : FuncId → List FSpec := asc [(76, ⟨slices_Clone_string_string_ins, slices_Clone_string_string_outs, slices_Clone_string_string n⟩)]
def b35 : Code := bodyOf Tryd.f35
theorem deps_Graph_Uses_ok {S : Nat → Addr} (ok : CfgOk P CC S) : ∀ n, SpecOk P CC S 35 ⟨deps_Graph_Uses_ins, deps_Graph_Uses_outs, deps_Graph_Uses n⟩ :=
  fn_all ok (O := deps_Graph_Uses_O) (H := deps_Graph_Uses_H) (fn := Tryd.f35) (body := b35) (by kernel_rfl) (by kernel_rfl) (by kernel_rfl) (by decide) (by kernel_rfl)
    (fun x => by kernel_rfl) (fun n => by
      rintro ⟨⟨⟨⟩, x1, ⟨⟩⟩, ⟨⟨⟨⟩, ⟨⟩⟩, x2, ⟨⟩⟩⟩
      kernel_rfl)
    (fun n => obl_of (by kernel_rfl) (by kernel_rfl) (lz) (cn (cn (cz) (by kernel_rfl)) (by kernel_rfl)) (hn fun _ => rfl))
    (fun n ih => asc_cons (slices_Clone_string_string_ok ok n) <| asc_nil)
/-! ### slices.Index[[]string,string] -/
abbrev slices_Index_string_string_2_ins : Sh := ⟨[(.one (.val ty13)), (.one (.val .str))], []⟩
abbrev slices_Index_string_string_2_outs : List Sh := [⟨[(.one (.val (.int .i64)))], []⟩]
abbrev slices_Index_string_string_2_l2_h : Sh := ⟨[(.one (.val ty13)), (.one (.val .str)), (.one (.val (.int .i64))), (.one (.val (.int .i64)))], []⟩
abbrev slices_Index_string_string_2_l2_o : List Out := [⟨(.exit 0), [], ⟨[], []⟩⟩, ⟨.ret, [4], ⟨[(.one (.val (.int .i64)))], []⟩⟩]
def slices_Index_string_string_2_l2 (n : Nat) : Nat → slices_Index_string_string_2_l2_h.T → Option (OutT slices_Index_string_string_2_l2_o)
  | 0, _ => none
  | k + 1, ((x1, x2, x3, x4, _), _) =>
    if decide (x4 < x3) then
      if 0 ≤ x4 ∧ x4 < (x1.length : Int) then (
        if strEq x2 (rdT (.str : Ty) x1 x4) then
          some (.inr (.inl ((x4, ()), ())))
        else
          let v5 : Int := IntKind.i64.wrap (x4 + 1)
          slices_Index_string_string_2_l2 n k ((x1, x2, x3, v5, ()), ())) else none
    else
      some (.inl ((), ()))
def slices_Index_string_string_2 : Nat → slices_Index_string_string_2_ins.T → Option (OutsT slices_Index_string_string_2_outs)
  | 0, _ => none
  | n + 1, ((x1, x2, _), _) =>
    match slices_Index_string_string_2_l2 n n ((x1, x2, (x1.length : Int), 0, ()), ()) with
    | some (.inl (_, _)) => (
      some (((-1), ()), ()))
    | some (.inr (.inl ((x3, _), _))) => (
      some ((x3, ()), ()))
    | some (.inr (.inr (_))) => none
    | none => none
def slices_Index_string_string_2_H (n : Nat) : Hints := ⟨[], fun _ => [], fun k => match k with | 2 => some ⟨[0, 1, 7, 8], slices_Index_string_string_2_l2_h, slices_Index_string_string_2_l2_o, slices_Index_string_string_2_l2 n⟩ | _ => none, fun _ => none, fun _ => none, fun _ => 0, fun _ => none⟩
def slices_Index_string_string_2_O (n : Nat) : FuncId → List FSpec := asc []
theorem slices_Index_string_string_2_l2_k0 (n : Nat) : LoopOk P CC (slices_Index_string_string_2_O n) n 0 19 (slices_Index_string_string_2_H n) ⟨[0, 1, 7, 8], slices_Index_string_string_2_l2_h, slices_Index_string_string_2_l2_o, slices_Index_string_string_2_l2 n⟩ ((loopsOf b94).getD 0 .skip) := by
  refine ⟨fun _ => by kernel_rfl, ?_⟩
  rintro k ⟨⟨x1, x2, x3, x4, ⟨⟩⟩, ⟨⟩⟩
  kernel_rfl
theorem slices_Index_string_string_2_ok {S : Nat → Addr} (ok : CfgOk P CC S) : ∀ n, SpecOk P CC S 94 ⟨slices_Index_string_string_2_ins, slices_Index_string_string_2_outs, slices_Index_string_string_2 n⟩ :=
  fn_all ok (O := slices_Index_string_string_2_O) (H := slices_Index_string_string_2_H) (fn := Tryd.f94) (body := b94) (by kernel_rfl) (by kernel_rfl) (by kernel_rfl) (by decide) (by kernel_rfl)
    (fun x => by kernel_rfl) (fun n => by
      rintro ⟨⟨x1, x2, ⟨⟩⟩, ⟨⟩⟩
      kernel_rfl)
    (fun n => obl_of (by kernel_rfl) (by kernel_rfl) (ls (lz) (by kernel_rfl) (by kernel_rfl) (slices_Index_string_string_2_l2_k0 n)) (cn (cn (cn (cn (cn (cn (cn (cn (cn (cn (cz) (by kernel_rfl)) (by kernel_rfl)) (by kernel_rfl)) (by kernel_rfl)) (by kernel_rfl)) (by kernel_rfl)) (by kernel_rfl)) (by kernel_rfl)) (by kernel_rfl)) (by kernel_rfl)) (hn fun _ => rfl))
    (fun n ih => asc_nil)
/-! ### slices.Contains[[]string,string] -/
abbrev slices_Contains_string_string_2_ins : Sh := ⟨[(.one (.val ty13)), (.one (.val .str))], []⟩
abbrev slices_Contains_string_string_2_outs : List Sh := [⟨[(.one (.val .bool))], []⟩]
def slices_Contains_string_string_2 : Nat → slices_Contains_string_string_2_ins.T → Option (OutsT slices_Contains_string_string_2_outs)
  | 0, _ => none
  | n + 1, ((x1, x2, _), _) =>
    match slices_Index_string_string_2 n ((x1, x2, ()), ()) with
    | some ((x3, _), _) => (
      some ((decide (x3 ≥ 0), ()), ()))
    | none => none
def slices_Contains_string_string_2_H (n : Nat) : Hints := ⟨[], fun _ => [], fun _ => none, fun _ => none, fun _ => none, fun _ => 0, fun _ => none⟩
def slices_Contains_string_string_2_O (n : Nat) : FuncId → List FSpec := asc [(94, ⟨slices_Index_string_string_2_ins, slices_Index_string_string_2_outs, slices_Index_string_string_2 n⟩)]
theorem slices_Contains_string_string_2_ok {S : Nat → Addr} (ok : CfgOk P CC S) : ∀ n, SpecOk P CC S 69 ⟨slices_Contains_string_string_2_ins, slices_Contains_string_string_2_outs, slices_Contains_string_string_2 n⟩ :=
  fn_all ok (O := slices_Contains_string_string_2_O) (H := slices_Contains_string_string_2_H) (fn := Tryd.f69) (body := b69) (by kernel_rfl) (by kernel_rfl) (by kernel_rfl) (by decide) (by kernel_rfl)
    (fun x => by kernel_rfl) (fun n => by
      rintro ⟨⟨x1, x2, ⟨⟩⟩, ⟨⟩⟩
      kernel_rfl)
    (fun n => obl_of (by kernel_rfl) (by kernel_rfl) (lz) (cn (cn (cz) (by kernel_rfl)) (by kernel_rfl)) (hn fun _ => rfl))
    (fun n ih => asc_cons (slices_Index_string_string_2_ok ok n) <| asc_nil)
/-! ### (*pendulum/deps.Graph).Used -/
abbrev deps_Graph_Used_ins : Sh := ⟨[(.one (.ptr 0 0)), (.one (.val .str))], [(.obj 97 [(.map 1)]), (.map .str ty13 false)]⟩
abbrev deps_Graph_Used_outs : List Sh := [⟨[(.one (.arr 2))], [(.obj 97 [(.map 1)]), (.map .str ty13 false), (.arr 9 .str)]⟩]
abbrev deps_Graph_Used_l3_h : Sh := ⟨[(.one (.ptr 0 0)), (.one (.val .str)), (.one (.arr 2)), (.one (.arr 3)), (.one (.val (.int .i64))), (.one (.val (.int .i64)))], [(.obj 97 [(.map 1)]), (.map .str ty13 false), (.arr 9 .str), (.arr 9 .str)]⟩
abbrev deps_Graph_Used_l3_o : List Out := [⟨(.exit 0), [5], ⟨[(.one (.arr 2))], [(.obj 97 [(.map 1)]), (.map .str ty13 false), (.arr 9 .str)]⟩⟩]
def deps_Graph_Used_l3 (n : Nat) : Nat → deps_Graph_Used_l3_h.T → Option (OutT deps_Graph_Used_l3_o)
  | 0, _ => none
  | k + 1, ((_, x1, _, _, x2, x3, _), ((_, _), m4, l5, l6, _)) =>
    if decide (x3 < x2) then
      if 0 ≤ x3 ∧ x3 < (l6.length : Int) then (
        let v7 : List ByteArray := (mfind (keyEq (.str : Ty)) (rdT (.str : Ty) l6 x3) m4).getD []
        match slices_Contains_string_string_2 n ((v7, x1, ()), ()) with
        | some ((x8, _), _) => (
          if x8 then
            if (l5.length + ([rdT (.str : Ty) l6 x3] : List (.str : Ty).T).length) * 16 ≤ 140737488355328 then (
              let v9 : Int := IntKind.i64.wrap (x3 + 1)
              deps_Graph_Used_l3 n k (((), x1, (), (), x2, v9, ()), (((), ()), m4, l5 ++ [rdT (.str : Ty) l6 x3], l6, ()))) else none
          else
            let v10 : Int := IntKind.i64.wrap (x3 + 1)
            deps_Graph_Used_l3 n k (((), x1, (), (), x2, v10, ()), (((), ()), m4, l5, l6, ())))
        | none => none) else none
    else
      some (.inl (((), ()), (((), ()), m4, l5, ())))
def deps_Graph_Used : Nat → deps_Graph_Used_ins.T → Option (OutsT deps_Graph_Used_outs)
  | 0, _ => none
  | n + 1, ((_, x1, _), ((_, _), m2, _)) =>
    match deps_Graph_Names n (((), ()), (((), ()), m2, ())) with
    | some ((_, _), ((_, _), m3, l4, _)) => (
      match deps_Graph_Used_l3 n n (((), x1, (), (), (l4.length : Int), 0, ()), (((), ()), m3, [], l4, ())) with
      | some (.inl ((_, _), ((_, _), m5, l6, _))) => (
        some (((), ()), (((), ()), m5, l6, ())))
      | some (.inr (_)) => none
      | none => none)
    | none => none
def deps_Graph_Used_H (n : Nat) : Hints := ⟨[], fun _ => [], fun k => match k with | 3 => some ⟨[0, 1, 5, 9, 10, 11], deps_Graph_Used_l3_h, deps_Graph_Used_l3_o, deps_Graph_Used_l3 n⟩ | _ => none, fun _ => none, fun _ => none, fun _ => 0, fun _ => none⟩
def deps_Graph_Used_O (n : Nat) : FuncId → List FSpec := asc [(26, ⟨deps_Graph_Names_ins, deps_Graph_Names_outs, deps_Graph_Names n⟩), (69, ⟨slices_Contains_string_string_2_ins, slices_Contains_string_string_2_outs, slices_Contains_string_string_2 n⟩)]
def b27 : Code := bodyOf Tryd.f27
theorem deps_Graph_Used_l3_k0 (n : Nat) : LoopOk P CC (deps_Graph_Used_O n) n 2 29 (deps_Graph_Used_H n) ⟨[0, 1, 5, 9, 10, 11], deps_Graph_Used_l3_h, deps_Graph_Used_l3_o, deps_Graph_Used_l3 n⟩ ((loopsOf b27).getD 0 .skip) := by
  refine ⟨fun _ => by kernel_rfl, ?_⟩
  rintro k ⟨⟨⟨⟩, x1, ⟨⟩, ⟨⟩, x2, x3, ⟨⟩⟩, ⟨⟨⟨⟩, ⟨⟩⟩, x4, x5, x6, ⟨⟩⟩⟩
  kernel_rfl
theorem deps_Graph_Used_ok {S : Nat → Addr} (ok : CfgOk P CC S) : ∀ n, SpecOk P CC S 27 ⟨deps_Graph_Used_ins, deps_Graph_Used_outs, deps_Graph_Used n⟩ :=
  fn_all ok (O := deps_Graph_Used_O) (H := deps_Graph_Used_H) (fn := Tryd.f27) (body := b27) (by kernel_rfl) (by kernel_rfl) (by kernel_rfl) (by decide) (by kernel_rfl)
    (fun x => by kernel_rfl) (fun n => by
      rintro ⟨⟨⟨⟩, x1, ⟨⟩⟩, ⟨⟨⟨⟩, ⟨⟩⟩, x2, ⟨⟩⟩⟩
      kernel_rfl)
    (fun n => obl_of (by kernel_rfl) (by kernel_rfl) (ls (lz) (by kernel_rfl) (by kernel_rfl) (deps_Graph_Used_l3_k0 n)) (cn (cn (cn (cn (cn (cn (cn (cn (cn (cn (cz) (by kernel_rfl)) (by kernel_rfl)) (by kernel_rfl)) (by kernel_rfl)) (by kernel_rfl)) (by kernel_rfl)) (by kernel_rfl)) (by kernel_rfl)) (by kernel_rfl)) (by kernel_rfl)) (hn fun _ => rfl))
    (fun n ih => asc_cons (deps_Graph_Names_ok ok n) <| asc_cons (slices_Contains_string_string_2_ok ok n) <| asc_nil)
end
end Go.Proofs.YtnajjhjbkanigaaDoor.Cm

/- Printed by cmtext.py: the code as plain functions. -/
import Derived.Test.YtkmeghmhgbbmhaaDoorCmFo
import Derived.Test.YtkmeghmhgbbmhaaDoorShelf
import Derived.Test.YtkmeghmhgbbmhaaDoorCmFs
import Derived.Test.YtkmeghmhgbbmhaaDoorCmMp
import Derived.Test.YtkmeghmhgbbmhaaDoorCmMq
namespace Go.Proofs.YtkmeghmhgbbmhaaDoor.Cm
open Go
noncomputable section
set_option linter.unusedVariables false
set_option maxRecDepth 100000
abbrev P := Tryd.prog
abbrev CC : Cfg := ⟨126, 57, 59, [(103, 0), (110, 1), (113, 2), (116, 3)], [(4, tabP (fun z => Value.int .u64 z) Lib.pow10Tab)], [29], []⟩
abbrev ty7 : Ty := (.pair .str .bool)
abbrev ty6 : Ty := (.slice 149 ty7)
abbrev ty5 : Ty := (.pair (.int .i64) ty6)
abbrev ty4 : Ty := (.pair .str ty5)
abbrev ty3 : Ty := (.pair (.int .i64) ty4)
abbrev ty2 : Ty := (.slice 144 ty3)
abbrev ty13 : Ty := (.slice 9 .str)
abbrev ty19 : Ty := (.slice 29 .unit)
abbrev ty18 : Ty := (.pair .str ty19)
abbrev ty17 : Ty := (.pair (.int .i64) ty18)
abbrev ty16 : Ty := (.pair (.int .i64) ty17)
abbrev ty15 : Ty := (.pair (.int .i64) ty16)
abbrev ty21 : Ty := (.pair ty19 .str)
abbrev ty20 : Ty := (.pair .str ty21)
abbrev ty14 : Ty := (.pair ty15 ty20)
abbrev ty12 : Ty := (.pair ty13 ty14)
abbrev ty11 : Ty := (.pair (.int .i64) ty12)
abbrev ty10 : Ty := (.slice 31 ty11)
abbrev ty9 : Ty := (.pair ty2 ty10)
abbrev ty8 : Ty := (.pair ty2 ty9)
abbrev ty1 : Ty := (.pair ty2 ty8)
abbrev ty0 : Ty := (.pair .str ty1)
abbrev ty22 : Ty := (.slice 3 (.int .i64))
/-! ### slices.Sort[[]string,string] (by hand) -/
abbrev slices_Sort_string_ins : Sh := ⟨[(.one (.arr 0))], [(.arr 9 .str)]⟩
abbrev slices_Sort_string_outs : List Sh := [⟨[(.tup [])], [(.arr 9 .str)]⟩]
def slices_Sort_string : Nat → slices_Sort_string_ins.T → Option (OutsT slices_Sort_string_outs) := fun _ => sortSem 9
theorem slices_Sort_string_ok {S : Nat → Addr} (ok : CfgOk P CC S) : ∀ n, SpecOk P CC S 30 ⟨slices_Sort_string_ins, slices_Sort_string_outs, slices_Sort_string n⟩ := fun n => sort_spec ⟨Tryd.f30, by kernel_rfl, by kernel_rfl, by kernel_rfl⟩ Tryd.slices_Sort_string_none Tryd.slices_Sort_string
/-! ### slices.Compact[[]string,string] (by hand) -/
abbrev slices_Compact_string_ins : Sh := ⟨[(.one (.arr 0))], [(.arr 9 .str)]⟩
abbrev slices_Compact_string_outs : List Sh := [⟨[(.one (.arr 1))], [.dead, (.arr 9 .str)]⟩]
def slices_Compact_string : Nat → slices_Compact_string_ins.T → Option (OutsT slices_Compact_string_outs) := fun _ => compSem 9
theorem slices_Compact_string_ok {S : Nat → Addr} (ok : CfgOk P CC S) : ∀ n, SpecOk P CC S 31 ⟨slices_Compact_string_ins, slices_Compact_string_outs, slices_Compact_string n⟩ := fun n => comp_spec ⟨Tryd.f31, by kernel_rfl, by kernel_rfl, by kernel_rfl⟩ Tryd.slices_Compact_string_empty Tryd.slices_Compact_string
/-! ### pendulum/scope.Calls -/
abbrev scope_Calls_ins : Sh := ⟨[(.agg [(.val .str), (.val ty2), (.val ty2), (.val ty2), (.val ty10)])], []⟩
abbrev scope_Calls_outs : List Sh := [⟨[(.one (.arr 0))], [(.arr 9 .str)]⟩]
abbrev scope_Calls_l3_h : Sh := ⟨[(.one (.arr 0)), (.one (.val ty10)), (.one (.val (.int .i64))), (.one (.val (.int .i64)))], [(.arr 9 .str)]⟩
abbrev scope_Calls_l3_o : List Out := [⟨(.exit 0), [3], ⟨[(.one (.arr 0))], [(.arr 9 .str)]⟩⟩]
def scope_Calls_l3 (n : Nat) : Nat → scope_Calls_l3_h.T → Option (OutT scope_Calls_l3_o)
  | 0, _ => none
  | k + 1, ((_, x1, x2, x3, _), (l4, _)) =>
    if decide (x3 < x2) then
      if 0 ≤ x3 ∧ x3 < (x1.length : Int) then (
        if !strEq (((((rdT ty11 x1 x3).2).2).2).1) (⟨#[]⟩ : ByteArray) then
          if (l4.length + ([((((rdT ty11 x1 x3).2).2).2).1] : List (.str : Ty).T).length) * 16 ≤ 140737488355328 then (
            let v5 : Int := IntKind.i64.wrap (x3 + 1)
            scope_Calls_l3 n k (((), x1, x2, v5, ()), (l4 ++ [((((rdT ty11 x1 x3).2).2).2).1], ()))) else none
        else
          let v6 : Int := IntKind.i64.wrap (x3 + 1)
          scope_Calls_l3 n k (((), x1, x2, v6, ()), (l4, ()))) else none
    else
      some (.inl (((), ()), (l4, ())))
def scope_Calls : Nat → scope_Calls_ins.T → Option (OutsT scope_Calls_outs)
  | 0, _ => none
  | n + 1, (((x1, x2, x3, x4, x5, _), _), _) =>
    match scope_Calls_l3 n n (((), x5, (x5.length : Int), 0, ()), ([], ())) with
    | some (.inl ((_, _), (l6, _))) => (
      match slices_Sort_string n (((), ()), (l6, ())) with
      | some ((_, _), (l7, _)) => (
        match slices_Compact_string n (((), ()), (l7, ())) with
        | some ((_, _), (_, l8, _)) => (
          some (((), ()), (l8, ())))
        | none => none)
      | none => none)
    | some (.inr (_)) => none
    | none => none
def scope_Calls_H (n : Nat) : Hints := ⟨[], fun _ => [], fun k => match k with | 3 => some ⟨[3, 7, 8, 9], scope_Calls_l3_h, scope_Calls_l3_o, scope_Calls_l3 n⟩ | _ => none, fun _ => none, fun _ => none⟩
def scope_Calls_O (n : Nat) : FuncId → List FSpec := asc [(30, ⟨slices_Sort_string_ins, slices_Sort_string_outs, slices_Sort_string n⟩), (31, ⟨slices_Compact_string_ins, slices_Compact_string_outs, slices_Compact_string n⟩)]
def b18 : Code := bodyOf Tryd.f18
theorem scope_Calls_l3_k0 (n : Nat) : LoopOk P CC (scope_Calls_O n) n 0 26 (scope_Calls_H n) ⟨[3, 7, 8, 9], scope_Calls_l3_h, scope_Calls_l3_o, scope_Calls_l3 n⟩ ((loopsOf b18).getD 0 .skip) := by
  refine ⟨fun _ => by kernel_rfl, ?_⟩
  rintro k ⟨⟨⟨⟩, x1, x2, x3, ⟨⟩⟩, ⟨x4, ⟨⟩⟩⟩
  kernel_rfl
theorem scope_Calls_ok {S : Nat → Addr} (ok : CfgOk P CC S) : ∀ n, SpecOk P CC S 18 ⟨scope_Calls_ins, scope_Calls_outs, scope_Calls n⟩ :=
  fn_all ok (O := scope_Calls_O) (H := scope_Calls_H) (fn := Tryd.f18) (body := b18) (by kernel_rfl) (by kernel_rfl) (by kernel_rfl) (by decide) (by kernel_rfl)
    (fun x => by kernel_rfl) (fun n => by
      rintro ⟨⟨⟨x1, x2, x3, x4, x5, ⟨⟩⟩, ⟨⟩⟩, ⟨⟩⟩
      kernel_rfl)
    (fun n => obl_of (by kernel_rfl) (by kernel_rfl) (ls (lz) (by kernel_rfl) (scope_Calls_l3_k0 n)) (cn (cn (cn (cn (cn (cn (cn (cn (cn (cn (cn (cz) (by kernel_rfl)) (by kernel_rfl)) (by kernel_rfl)) (by kernel_rfl)) (by kernel_rfl)) (by kernel_rfl)) (by kernel_rfl)) (by kernel_rfl)) (by kernel_rfl)) (by kernel_rfl)) (by kernel_rfl)) (hn fun _ => rfl))
    (fun n ih => asc_cons (slices_Sort_string_ok ok n) <| asc_cons (slices_Compact_string_ok ok n) <| asc_nil)
/-! ### pendulum/deps.New -/
abbrev deps_New_ins : Sh := ⟨[(.one (.arr 0))], [(.arr 35 ty0)]⟩
abbrev deps_New_outs : List Sh := [⟨[(.tup [(false, [(.ptr 1 0)]), (false, [(.val .err)])])], [(.arr 35 ty0), (.obj 55 [(.map 2)]), (.map .str ty13 false)]⟩, ⟨[(.tup [(false, [.nilp]), (false, [(.val .err)])])], [(.arr 35 ty0)]⟩]
abbrev deps_New_l5_h : Sh := ⟨[(.one (.ptr 1 0)), (.one (.arr 0)), (.one (.val (.int .i64))), (.one (.val (.int .i64)))], [(.arr 35 ty0), (.obj 55 [(.map 2)]), (.map .str ty13 false)]⟩
abbrev deps_New_l5_o : List Out := [⟨(.exit 0), [4], ⟨[(.one (.ptr 1 0))], [(.arr 35 ty0), (.obj 55 [(.map 2)]), (.map .str ty13 false)]⟩⟩, ⟨.ret, [2, 3], ⟨[(.one .nilp), (.one (.val .err))], [(.arr 35 ty0)]⟩⟩]
def deps_New_l5 (n : Nat) : Nat → deps_New_l5_h.T → Option (OutT deps_New_l5_o)
  | 0, _ => none
  | k + 1, ((_, _, x1, x2, _), (l3, (_, _), m4, _)) =>
    if decide (x2 < x1) then
      if 0 ≤ x2 ∧ x2 < (l3.length : Int) then (
        let v5 : List ByteArray := (mfind (keyEq (.str : Ty)) ((rdT ty0 l3 x2).1) m4).getD []
        if (mfind (keyEq (.str : Ty)) ((rdT ty0 l3 x2).1) m4).isSome then
          some (.inr (.inl (((), ErrV.at_ x2 (ErrV.sent 110), ()), (l3, ()))))
        else
          match scope_Calls n ((((rdT ty0 l3 x2).1, ((rdT ty0 l3 x2).2).1, (((rdT ty0 l3 x2).2).2).1, ((((rdT ty0 l3 x2).2).2).2).1, ((((rdT ty0 l3 x2).2).2).2).2, ()), ()), ()) with
          | some ((_, _), (l6, _)) => (
            let v7 : Int := IntKind.i64.wrap (x2 + 1)
            deps_New_l5 n k (((), (), x1, v7, ()), (l3, ((), ()), mset (keyEq (.str : Ty)) ((rdT ty0 l3 x2).1) l6 m4, ())))
          | none => none) else none
    else
      some (.inl (((), ()), (l3, ((), ()), m4, ())))
def deps_New : Nat → deps_New_ins.T → Option (OutsT deps_New_outs)
  | 0, _ => none
  | n + 1, ((_, _), (l1, _)) =>
    if decide ((l1.length : Int) > 16) then
      some (.inr ((((((), ()), (ErrV.sent 103, ()), ()), ()), (l1, ()))))
    else
      match deps_New_l5 n n (((), (), (l1.length : Int), 0, ()), (l1, ((), ()), [], ())) with
      | some (.inl ((_, _), (l2, (_, _), m3, _))) => (
        some (.inl (((((), ()), (ErrV.nil, ()), ()), ()), (l2, ((), ()), m3, ()))))
      | some (.inr (.inl ((_, x4, _), (l5, _)))) => (
        some (.inr ((((((), ()), (x4, ()), ()), ()), (l5, ())))))
      | some (.inr (.inr (_))) => none
      | none => none
def deps_New_H (n : Nat) : Hints := ⟨[], fun _ => [], fun k => match k with | 5 => some ⟨[4, 16, 17, 18], deps_New_l5_h, deps_New_l5_o, deps_New_l5 n⟩ | _ => none, fun _ => none, fun _ => none⟩
def deps_New_O (n : Nat) : FuncId → List FSpec := asc [(18, ⟨scope_Calls_ins, scope_Calls_outs, scope_Calls n⟩)]
def b9 : Code := bodyOf Tryd.f9
theorem deps_New_l5_k0 (n : Nat) : LoopOk P CC (deps_New_O n) n 1 49 (deps_New_H n) ⟨[4, 16, 17, 18], deps_New_l5_h, deps_New_l5_o, deps_New_l5 n⟩ ((loopsOf b9).getD 0 .skip) := by
  refine ⟨fun _ => by kernel_rfl, ?_⟩
  rintro k ⟨⟨⟨⟩, ⟨⟩, x1, x2, ⟨⟩⟩, ⟨x3, ⟨⟨⟩, ⟨⟩⟩, x4, ⟨⟩⟩⟩
  kernel_rfl
theorem deps_New_ok {S : Nat → Addr} (ok : CfgOk P CC S) : ∀ n, SpecOk P CC S 9 ⟨deps_New_ins, deps_New_outs, deps_New n⟩ :=
  fn_all ok (O := deps_New_O) (H := deps_New_H) (fn := Tryd.f9) (body := b9) (by kernel_rfl) (by kernel_rfl) (by kernel_rfl) (by decide) (by kernel_rfl)
    (fun x => by kernel_rfl) (fun n => by
      rintro ⟨⟨⟨⟩, ⟨⟩⟩, ⟨x1, ⟨⟩⟩⟩
      kernel_rfl)
    (fun n => obl_of (by kernel_rfl) (by kernel_rfl) (ls (lz) (by kernel_rfl) (deps_New_l5_k0 n)) (cn (cn (cn (cn (cn (cn (cn (cn (cn (cn (cn (cn (cn (cn (cn (cn (cz) (by kernel_rfl)) (by kernel_rfl)) (by kernel_rfl)) (by kernel_rfl)) (by kernel_rfl)) (by kernel_rfl)) (by kernel_rfl)) (by kernel_rfl)) (by kernel_rfl)) (by kernel_rfl)) (by kernel_rfl)) (by kernel_rfl)) (by kernel_rfl)) (by kernel_rfl)) (by kernel_rfl)) (by kernel_rfl)) (hn fun _ => rfl))
    (fun n ih => asc_cons (scope_Calls_ok ok n) <| asc_nil)
/-! ### maps.Keys[map[string]int,string,int] -/
abbrev maps_Keys_map_string_int_string_int_ins : Sh := ⟨[(.one (.map 0))], [(.map .str (.int .i64) false)]⟩
abbrev maps_Keys_map_string_int_string_int_outs : List Sh := [⟨[(.one (.fn 42 [1]))], [(.map .str (.int .i64) false), (.obj 65 [(.map 0)])]⟩]
def maps_Keys_map_string_int_string_int : Nat → maps_Keys_map_string_int_string_int_ins.T → Option (OutsT maps_Keys_map_string_int_string_int_outs)
  | 0, _ => none
  | n + 1, ((_, _), (m1, _)) =>
    some (((), ()), (m1, ((), ()), ()))
def maps_Keys_map_string_int_string_int_H (n : Nat) : Hints := ⟨[], fun _ => [], fun _ => none, fun _ => none, fun _ => none⟩
def maps_Keys_map_string_int_string_int_O (n : Nat) : FuncId → List FSpec := asc []
def b33 : Code := bodyOf Tryd.f33
theorem maps_Keys_map_string_int_string_int_ok {S : Nat → Addr} (ok : CfgOk P CC S) : ∀ n, SpecOk P CC S 33 ⟨maps_Keys_map_string_int_string_int_ins, maps_Keys_map_string_int_string_int_outs, maps_Keys_map_string_int_string_int n⟩ :=
  fn_all ok (O := maps_Keys_map_string_int_string_int_O) (H := maps_Keys_map_string_int_string_int_H) (fn := Tryd.f33) (body := b33) (by kernel_rfl) (by kernel_rfl) (by kernel_rfl) (by decide) (by kernel_rfl)
    (fun x => by kernel_rfl) (fun n => by
      rintro ⟨⟨⟨⟩, ⟨⟩⟩, ⟨x1, ⟨⟩⟩⟩
      kernel_rfl)
    (fun n => obl_of (by kernel_rfl) (by kernel_rfl) (lz) (cn (cn (cz) (by kernel_rfl)) (by kernel_rfl)) (hn fun _ => rfl))
    (fun n ih => asc_nil)
/-! ### slices.Sorted[string] (by hand) -/
abbrev slices_Sorted_42_ins : Sh := ⟨[(.one (.fn 42 [0]))], [(.obj 65 [(.map 1)]), (.map .str (.int .i64) false)]⟩
abbrev slices_Sorted_42_outs : List Sh := [⟨[(.one (.arr 2))], [(.obj 65 [(.map 1)]), (.map .str (.int .i64) false), (.arr 9 .str)]⟩]
def slices_Sorted_42 : Nat → slices_Sorted_42_ins.T → Option (OutsT slices_Sorted_42_outs) := fun _ => sortedSSem 65 9 (.int .i64) false 42
theorem slices_Sorted_42_ok {S : Nat → Addr} (ok : CfgOk P CC S) : ∀ n, SpecOk P CC S 32 ⟨slices_Sorted_42_ins, slices_Sorted_42_outs, slices_Sorted_42 n⟩ := fun n => sortedS_spec (ty := 9) ⟨Tryd.f32, by kernel_rfl, by kernel_rfl, by kernel_rfl⟩ (by kernel_rfl) Sq.sorted_calls_42
/-! ### (*pendulum/deps.Graph).reach -/
abbrev deps_Graph_reach_ins : Sh := ⟨[(.one (.ptr 0 0)), (.one (.val .str))], [(.obj 55 [(.map 1)]), (.map .str ty13 false)]⟩
abbrev deps_Graph_reach_outs : List Sh := [⟨[(.tup [(false, [(.arr 2)]), (false, [(.val .err)])])], [(.obj 55 [(.map 1)]), (.map .str ty13 false), (.arr 9 .str)]⟩]
abbrev deps_Graph_reach_l3_h : Sh := ⟨[(.one (.ptr 0 0)), (.one (.map 2)), (.one (.arr 3))], [(.obj 55 [(.map 1)]), (.map .str ty13 false), (.map .str (.int .i64) false), (.arr 9 .str)]⟩
abbrev deps_Graph_reach_l3_o : List Out := [⟨(.exit 0), [6], ⟨[(.one (.map 2))], [(.obj 55 [(.map 1)]), (.map .str ty13 false), (.map .str (.int .i64) false)]⟩⟩, ⟨.ret, [4, 5], ⟨[(.one (.emp true)), (.one (.val .err))], [(.obj 55 [(.map 1)]), (.map .str ty13 false)]⟩⟩]
def deps_Graph_reach_l3 (n : Nat) : Nat → deps_Graph_reach_l3_h.T → Option (OutT deps_Graph_reach_l3_o)
  | 0, _ => none
  | k + 1, ((_, _, _, _), ((_, _), m1, m2, l3, _)) =>
    if decide ((l3.length : Int) > 0) then
      if 0 ≤ (0 : Int) ∧ (0 : Int) < (l3.length : Int) then (
        if 0 ≤ (1 : Int) ∧ (1 : Int) ≤ (l3.length : Int) then (
          let v4 : List ByteArray := (mfind (keyEq (.str : Ty)) (rdT (.str : Ty) l3 0) m1).getD []
          if !((mfind (keyEq (.str : Ty)) (rdT (.str : Ty) l3 0) m1).isSome) then
            some (.inr (.inl (((), ErrV.sent 116, ()), (((), ()), m1, ()))))
          else
            let v5 : Int := (mfind (keyEq (.str : Ty)) (rdT (.str : Ty) l3 0) m2).getD 0
            if decide (v5 > 0) then
              deps_Graph_reach_l3 n k (((), (), (), ()), (((), ()), m1, m2, cutL l3 1 (l3.length : Int), ()))
            else
              if ((cutL l3 1 (l3.length : Int)).length + v4.length) * 16 ≤ 140737488355328 then (
                deps_Graph_reach_l3 n k (((), (), (), ()), (((), ()), m1, mset (keyEq (.str : Ty)) (rdT (.str : Ty) l3 0) 1 m2, (cutL l3 1 (l3.length : Int)) ++ v4, ()))) else none) else none) else none
    else
      some (.inl (((), ()), (((), ()), m1, m2, ())))
def deps_Graph_reach : Nat → deps_Graph_reach_ins.T → Option (OutsT deps_Graph_reach_outs)
  | 0, _ => none
  | n + 1, ((_, x1, _), ((_, _), m2, _)) =>
    match deps_Graph_reach_l3 n n (((), (), (), ()), (((), ()), m2, [], [x1], ())) with
    | some (.inl ((_, _), ((_, _), m3, m4, _))) => (
      match maps_Keys_map_string_int_string_int n (((), ()), (m4, ())) with
      | some ((_, _), (m7, (_, _), _)) => (
        match slices_Sorted_42 n (((), ()), (((), ()), m7, ())) with
        | some ((_, _), ((_, _), m8, l9, _)) => (
          some (((((), ()), (ErrV.nil, ()), ()), ()), (((), ()), m3, l9, ())))
        | none => none)
      | none => none)
    | some (.inr (.inl ((_, x5, _), ((_, _), m6, _)))) => (
      some (((((), ()), (x5, ()), ()), ()), (((), ()), m6, [], ())))
    | some (.inr (.inr (_))) => none
    | none => none
def deps_Graph_reach_H (n : Nat) : Hints := ⟨[21], fun _ => [], fun k => match k with | 3 => some ⟨[0, 6, 7], deps_Graph_reach_l3_h, deps_Graph_reach_l3_o, deps_Graph_reach_l3 n⟩ | _ => none, fun _ => none, fun _ => none⟩
def deps_Graph_reach_O (n : Nat) : FuncId → List FSpec := asc [(32, ⟨slices_Sorted_42_ins, slices_Sorted_42_outs, slices_Sorted_42 n⟩), (33, ⟨maps_Keys_map_string_int_string_int_ins, maps_Keys_map_string_int_string_int_outs, maps_Keys_map_string_int_string_int n⟩)]
def b19 : Code := bodyOf Tryd.f19
theorem deps_Graph_reach_l3_k0 (n : Nat) : LoopOk P CC (deps_Graph_reach_O n) n 2 48 (deps_Graph_reach_H n) ⟨[0, 6, 7], deps_Graph_reach_l3_h, deps_Graph_reach_l3_o, deps_Graph_reach_l3 n⟩ ((loopsOf b19).getD 0 .skip) := by
  refine ⟨fun _ => by kernel_rfl, ?_⟩
  rintro k ⟨⟨⟨⟩, ⟨⟩, ⟨⟩, ⟨⟩⟩, ⟨⟨⟨⟩, ⟨⟩⟩, x1, x2, x3, ⟨⟩⟩⟩
  kernel_rfl
theorem deps_Graph_reach_ok {S : Nat → Addr} (ok : CfgOk P CC S) : ∀ n, SpecOk P CC S 19 ⟨deps_Graph_reach_ins, deps_Graph_reach_outs, deps_Graph_reach n⟩ :=
  fn_all ok (O := deps_Graph_reach_O) (H := deps_Graph_reach_H) (fn := Tryd.f19) (body := b19) (by kernel_rfl) (by kernel_rfl) (by kernel_rfl) (by decide) (by kernel_rfl)
    (fun x => by kernel_rfl) (fun n => by
      rintro ⟨⟨⟨⟩, x1, ⟨⟩⟩, ⟨⟨⟨⟩, ⟨⟩⟩, x2, ⟨⟩⟩⟩
      kernel_rfl)
    (fun n => obl_of (by kernel_rfl) (by kernel_rfl) (ls (lz) (by kernel_rfl) (deps_Graph_reach_l3_k0 n)) (cn (cn (cn (cn (cn (cn (cn (cn (cn (cn (cn (cn (cn (cn (cn (cz) (by kernel_rfl)) (by kernel_rfl)) (by kernel_rfl)) (by kernel_rfl)) (by kernel_rfl)) (by kernel_rfl)) (by kernel_rfl)) (by kernel_rfl)) (by kernel_rfl)) (by kernel_rfl)) (by kernel_rfl)) (by kernel_rfl)) (by kernel_rfl)) (by kernel_rfl)) (by kernel_rfl)) (hn fun _ => rfl))
    (fun n ih => asc_cons (slices_Sorted_42_ok ok n) <| asc_cons (maps_Keys_map_string_int_string_int_ok ok n) <| asc_nil)
/-! ### slices.Index[[]string,string] -/
abbrev slices_Index_string_string_ins : Sh := ⟨[(.one (.arr 0)), (.one (.val .str))], [(.arr 9 .str)]⟩
abbrev slices_Index_string_string_outs : List Sh := [⟨[(.one (.val (.int .i64)))], [(.arr 9 .str)]⟩]
abbrev slices_Index_string_string_l2_h : Sh := ⟨[(.one (.arr 0)), (.one (.val .str)), (.one (.val (.int .i64))), (.one (.val (.int .i64)))], [(.arr 9 .str)]⟩
abbrev slices_Index_string_string_l2_o : List Out := [⟨(.exit 0), [], ⟨[], [(.arr 9 .str)]⟩⟩, ⟨.ret, [4], ⟨[(.one (.val (.int .i64)))], [(.arr 9 .str)]⟩⟩]
def slices_Index_string_string_l2 (n : Nat) : Nat → slices_Index_string_string_l2_h.T → Option (OutT slices_Index_string_string_l2_o)
  | 0, _ => none
  | k + 1, ((_, x1, x2, x3, _), (l4, _)) =>
    if decide (x3 < x2) then
      if 0 ≤ x3 ∧ x3 < (l4.length : Int) then (
        if strEq x1 (rdT (.str : Ty) l4 x3) then
          some (.inr (.inl ((x3, ()), (l4, ()))))
        else
          let v5 : Int := IntKind.i64.wrap (x3 + 1)
          slices_Index_string_string_l2 n k (((), x1, x2, v5, ()), (l4, ()))) else none
    else
      some (.inl ((), (l4, ())))
def slices_Index_string_string : Nat → slices_Index_string_string_ins.T → Option (OutsT slices_Index_string_string_outs)
  | 0, _ => none
  | n + 1, ((_, x1, _), (l2, _)) =>
    match slices_Index_string_string_l2 n n (((), x1, (l2.length : Int), 0, ()), (l2, ())) with
    | some (.inl (_, (l3, _))) => (
      some (((-1), ()), (l3, ())))
    | some (.inr (.inl ((x4, _), (l5, _)))) => (
      some ((x4, ()), (l5, ())))
    | some (.inr (.inr (_))) => none
    | none => none
def slices_Index_string_string_H (n : Nat) : Hints := ⟨[], fun _ => [], fun k => match k with | 2 => some ⟨[0, 1, 7, 8], slices_Index_string_string_l2_h, slices_Index_string_string_l2_o, slices_Index_string_string_l2 n⟩ | _ => none, fun _ => none, fun _ => none⟩
def slices_Index_string_string_O (n : Nat) : FuncId → List FSpec := asc []
def b34 : Code := bodyOf Tryd.f34
theorem slices_Index_string_string_l2_k0 (n : Nat) : LoopOk P CC (slices_Index_string_string_O n) n 1 19 (slices_Index_string_string_H n) ⟨[0, 1, 7, 8], slices_Index_string_string_l2_h, slices_Index_string_string_l2_o, slices_Index_string_string_l2 n⟩ ((loopsOf b34).getD 0 .skip) := by
  refine ⟨fun _ => by kernel_rfl, ?_⟩
  rintro k ⟨⟨⟨⟩, x1, x2, x3, ⟨⟩⟩, ⟨x4, ⟨⟩⟩⟩
  kernel_rfl
theorem slices_Index_string_string_ok {S : Nat → Addr} (ok : CfgOk P CC S) : ∀ n, SpecOk P CC S 34 ⟨slices_Index_string_string_ins, slices_Index_string_string_outs, slices_Index_string_string n⟩ :=
  fn_all ok (O := slices_Index_string_string_O) (H := slices_Index_string_string_H) (fn := Tryd.f34) (body := b34) (by kernel_rfl) (by kernel_rfl) (by kernel_rfl) (by decide) (by kernel_rfl)
    (fun x => by kernel_rfl) (fun n => by
      rintro ⟨⟨⟨⟩, x1, ⟨⟩⟩, ⟨x2, ⟨⟩⟩⟩
      kernel_rfl)
    (fun n => obl_of (by kernel_rfl) (by kernel_rfl) (ls (lz) (by kernel_rfl) (slices_Index_string_string_l2_k0 n)) (cn (cn (cn (cn (cn (cn (cn (cn (cn (cn (cz) (by kernel_rfl)) (by kernel_rfl)) (by kernel_rfl)) (by kernel_rfl)) (by kernel_rfl)) (by kernel_rfl)) (by kernel_rfl)) (by kernel_rfl)) (by kernel_rfl)) (by kernel_rfl)) (hn fun _ => rfl))
    (fun n ih => asc_nil)
/-! ### slices.Contains[[]string,string] -/
abbrev slices_Contains_string_string_ins : Sh := ⟨[(.one (.arr 0)), (.one (.val .str))], [(.arr 9 .str)]⟩
abbrev slices_Contains_string_string_outs : List Sh := [⟨[(.one (.val .bool))], [(.arr 9 .str)]⟩]
def slices_Contains_string_string : Nat → slices_Contains_string_string_ins.T → Option (OutsT slices_Contains_string_string_outs)
  | 0, _ => none
  | n + 1, ((_, x1, _), (l2, _)) =>
    match slices_Index_string_string n (((), x1, ()), (l2, ())) with
    | some ((x3, _), (l4, _)) => (
      some ((decide (x3 ≥ 0), ()), (l4, ())))
    | none => none
def slices_Contains_string_string_H (n : Nat) : Hints := ⟨[], fun _ => [], fun _ => none, fun _ => none, fun _ => none⟩
def slices_Contains_string_string_O (n : Nat) : FuncId → List FSpec := asc [(34, ⟨slices_Index_string_string_ins, slices_Index_string_string_outs, slices_Index_string_string n⟩)]
def b22 : Code := bodyOf Tryd.f22
theorem slices_Contains_string_string_ok {S : Nat → Addr} (ok : CfgOk P CC S) : ∀ n, SpecOk P CC S 22 ⟨slices_Contains_string_string_ins, slices_Contains_string_string_outs, slices_Contains_string_string n⟩ :=
  fn_all ok (O := slices_Contains_string_string_O) (H := slices_Contains_string_string_H) (fn := Tryd.f22) (body := b22) (by kernel_rfl) (by kernel_rfl) (by kernel_rfl) (by decide) (by kernel_rfl)
    (fun x => by kernel_rfl) (fun n => by
      rintro ⟨⟨⟨⟩, x1, ⟨⟩⟩, ⟨x2, ⟨⟩⟩⟩
      kernel_rfl)
    (fun n => obl_of (by kernel_rfl) (by kernel_rfl) (lz) (cn (cn (cz) (by kernel_rfl)) (by kernel_rfl)) (hn fun _ => rfl))
    (fun n ih => asc_cons (slices_Index_string_string_ok ok n) <| asc_nil)
/-! ### (*pendulum/deps.Graph).All$1$1 -/
abbrev deps_Graph_All_1_1_ins : Sh := ⟨[(.one (.val .str)), (.one (.ptr 0 0))], [(.obj 26 [(.emp true)])]⟩
abbrev deps_Graph_All_1_1_outs : List Sh := [⟨[(.one (.val .bool))], [(.obj 26 [(.emp true)])]⟩]
def deps_Graph_All_1_1 : Nat → deps_Graph_All_1_1_ins.T → Option (OutsT deps_Graph_All_1_1_outs)
  | 0, _ => none
  | n + 1, ((x1, _, _), ((_, _), _)) =>
    match slices_Contains_string_string n (((), x1, ()), ([], ())) with
    | some ((x2, _), (l3, _)) => (
      some ((!x2, ()), (((), ()), ())))
    | none => none
def deps_Graph_All_1_1_H (n : Nat) : Hints := ⟨[], fun _ => [], fun _ => none, fun _ => none, fun _ => none⟩
def deps_Graph_All_1_1_O (n : Nat) : FuncId → List FSpec := asc [(22, ⟨slices_Contains_string_string_ins, slices_Contains_string_string_outs, slices_Contains_string_string n⟩)]
def b24 : Code := bodyOf Tryd.f24
theorem deps_Graph_All_1_1_ok {S : Nat → Addr} (ok : CfgOk P CC S) : ∀ n, SpecOk P CC S 24 ⟨deps_Graph_All_1_1_ins, deps_Graph_All_1_1_outs, deps_Graph_All_1_1 n⟩ :=
  fn_all ok (O := deps_Graph_All_1_1_O) (H := deps_Graph_All_1_1_H) (fn := Tryd.f24) (body := b24) (by kernel_rfl) (by kernel_rfl) (by kernel_rfl) (by decide) (by kernel_rfl)
    (fun x => by kernel_rfl) (fun n => by
      rintro ⟨⟨x1, ⟨⟩, ⟨⟩⟩, ⟨⟨⟨⟩, ⟨⟩⟩, ⟨⟩⟩⟩
      kernel_rfl)
    (fun n => obl_of (by kernel_rfl) (by kernel_rfl) (lz) (cn (cn (cz) (by kernel_rfl)) (by kernel_rfl)) (hn fun _ => rfl))
    (fun n ih => asc_cons (slices_Contains_string_string_ok ok n) <| asc_nil)
/-! ### slices.IndexFunc[[]string,string] -/
abbrev slices_IndexFunc_string_string_2_ins : Sh := ⟨[(.one (.val ty13)), (.one (.fn 24 [0]))], [(.obj 26 [(.emp true)])]⟩
abbrev slices_IndexFunc_string_string_2_outs : List Sh := [⟨[(.one (.val (.int .i64)))], [(.obj 26 [(.emp true)])]⟩]
abbrev slices_IndexFunc_string_string_2_l2_h : Sh := ⟨[(.one (.val ty13)), (.one (.fn 24 [0])), (.one (.val (.int .i64))), (.one (.val (.int .i64)))], [(.obj 26 [(.emp true)])]⟩
abbrev slices_IndexFunc_string_string_2_l2_o : List Out := [⟨(.exit 0), [], ⟨[], [(.obj 26 [(.emp true)])]⟩⟩, ⟨.ret, [4], ⟨[(.one (.val (.int .i64)))], [(.obj 26 [(.emp true)])]⟩⟩]
def slices_IndexFunc_string_string_2_l2 (n : Nat) : Nat → slices_IndexFunc_string_string_2_l2_h.T → Option (OutT slices_IndexFunc_string_string_2_l2_o)
  | 0, _ => none
  | k + 1, ((x1, _, x2, x3, _), ((_, _), _)) =>
    if decide (x3 < x2) then
      if 0 ≤ x3 ∧ x3 < (x1.length : Int) then (
        match deps_Graph_All_1_1 n ((rdT (.str : Ty) x1 x3, (), ()), (((), ()), ())) with
        | some ((x4, _), ((_, _), _)) => (
          if x4 then
            some (.inr (.inl ((x3, ()), (((), ()), ()))))
          else
            let v5 : Int := IntKind.i64.wrap (x3 + 1)
            slices_IndexFunc_string_string_2_l2 n k ((x1, (), x2, v5, ()), (((), ()), ())))
        | none => none) else none
    else
      some (.inl ((), (((), ()), ())))
def slices_IndexFunc_string_string_2 : Nat → slices_IndexFunc_string_string_2_ins.T → Option (OutsT slices_IndexFunc_string_string_2_outs)
  | 0, _ => none
  | n + 1, ((x1, _, _), ((_, _), _)) =>
    match slices_IndexFunc_string_string_2_l2 n n ((x1, (), (x1.length : Int), 0, ()), (((), ()), ())) with
    | some (.inl (_, ((_, _), _))) => (
      some (((-1), ()), (((), ()), ())))
    | some (.inr (.inl ((x2, _), ((_, _), _)))) => (
      some ((x2, ()), (((), ()), ())))
    | some (.inr (.inr (_))) => none
    | none => none
def slices_IndexFunc_string_string_2_H (n : Nat) : Hints := ⟨[], fun _ => [], fun k => match k with | 2 => some ⟨[0, 1, 7, 8], slices_IndexFunc_string_string_2_l2_h, slices_IndexFunc_string_string_2_l2_o, slices_IndexFunc_string_string_2_l2 n⟩ | _ => none, fun _ => none, fun _ => none⟩
def slices_IndexFunc_string_string_2_O (n : Nat) : FuncId → List FSpec := asc [(24, ⟨deps_Graph_All_1_1_ins, deps_Graph_All_1_1_outs, deps_Graph_All_1_1 n⟩)]
def b20 : Code := bodyOf Tryd.f20
theorem slices_IndexFunc_string_string_2_l2_k0 (n : Nat) : LoopOk P CC (slices_IndexFunc_string_string_2_O n) n 1 19 (slices_IndexFunc_string_string_2_H n) ⟨[0, 1, 7, 8], slices_IndexFunc_string_string_2_l2_h, slices_IndexFunc_string_string_2_l2_o, slices_IndexFunc_string_string_2_l2 n⟩ ((loopsOf b20).getD 0 .skip) := by
  refine ⟨fun _ => by kernel_rfl, ?_⟩
  rintro k ⟨⟨x1, ⟨⟩, x2, x3, ⟨⟩⟩, ⟨⟨⟨⟩, ⟨⟩⟩, ⟨⟩⟩⟩
  kernel_rfl
theorem slices_IndexFunc_string_string_2_ok {S : Nat → Addr} (ok : CfgOk P CC S) : ∀ n, SpecOk P CC S 20 ⟨slices_IndexFunc_string_string_2_ins, slices_IndexFunc_string_string_2_outs, slices_IndexFunc_string_string_2 n⟩ :=
  fn_all ok (O := slices_IndexFunc_string_string_2_O) (H := slices_IndexFunc_string_string_2_H) (fn := Tryd.f20) (body := b20) (by kernel_rfl) (by kernel_rfl) (by kernel_rfl) (by decide) (by kernel_rfl)
    (fun x => by kernel_rfl) (fun n => by
      rintro ⟨⟨x1, ⟨⟩, ⟨⟩⟩, ⟨⟨⟨⟩, ⟨⟩⟩, ⟨⟩⟩⟩
      kernel_rfl)
    (fun n => obl_of (by kernel_rfl) (by kernel_rfl) (ls (lz) (by kernel_rfl) (slices_IndexFunc_string_string_2_l2_k0 n)) (cn (cn (cn (cn (cn (cn (cn (cn (cn (cn (cz) (by kernel_rfl)) (by kernel_rfl)) (by kernel_rfl)) (by kernel_rfl)) (by kernel_rfl)) (by kernel_rfl)) (by kernel_rfl)) (by kernel_rfl)) (by kernel_rfl)) (by kernel_rfl)) (hn fun _ => rfl))
    (fun n ih => asc_cons (deps_Graph_All_1_1_ok ok n) <| asc_nil)
/-! ### slices.ContainsFunc[[]string,string] -/
abbrev slices_ContainsFunc_string_string_ins : Sh := ⟨[(.one (.val ty13)), (.one (.fn 24 [0]))], [(.obj 26 [(.emp true)])]⟩
abbrev slices_ContainsFunc_string_string_outs : List Sh := [⟨[(.one (.val .bool))], [(.obj 26 [(.emp true)])]⟩]
def slices_ContainsFunc_string_string : Nat → slices_ContainsFunc_string_string_ins.T → Option (OutsT slices_ContainsFunc_string_string_outs)
  | 0, _ => none
  | n + 1, ((x1, _, _), ((_, _), _)) =>
    match slices_IndexFunc_string_string_2 n ((x1, (), ()), (((), ()), ())) with
    | some ((x2, _), ((_, _), _)) => (
      some ((decide (x2 ≥ 0), ()), (((), ()), ())))
    | none => none
def slices_ContainsFunc_string_string_H (n : Nat) : Hints := ⟨[], fun _ => [], fun _ => none, fun _ => none, fun _ => none⟩
def slices_ContainsFunc_string_string_O (n : Nat) : FuncId → List FSpec := asc [(20, ⟨slices_IndexFunc_string_string_2_ins, slices_IndexFunc_string_string_2_outs, slices_IndexFunc_string_string_2 n⟩)]
def b23 : Code := bodyOf Tryd.f23
theorem slices_ContainsFunc_string_string_ok {S : Nat → Addr} (ok : CfgOk P CC S) : ∀ n, SpecOk P CC S 23 ⟨slices_ContainsFunc_string_string_ins, slices_ContainsFunc_string_string_outs, slices_ContainsFunc_string_string n⟩ :=
  fn_all ok (O := slices_ContainsFunc_string_string_O) (H := slices_ContainsFunc_string_string_H) (fn := Tryd.f23) (body := b23) (by kernel_rfl) (by kernel_rfl) (by kernel_rfl) (by decide) (by kernel_rfl)
    (fun x => by kernel_rfl) (fun n => by
      rintro ⟨⟨x1, ⟨⟩, ⟨⟩⟩, ⟨⟨⟨⟩, ⟨⟩⟩, ⟨⟩⟩⟩
      kernel_rfl)
    (fun n => obl_of (by kernel_rfl) (by kernel_rfl) (lz) (cn (cn (cz) (by kernel_rfl)) (by kernel_rfl)) (hn fun _ => rfl))
    (fun n ih => asc_cons (slices_IndexFunc_string_string_2_ok ok n) <| asc_nil)
/-! ### (*pendulum/deps.Graph).All$1 -/
abbrev deps_Graph_All_1_ins : Sh := ⟨[(.one (.val .str)), (.one (.ptr 0 0)), (.one (.ptr 1 0))], [(.obj 26 [(.emp true)]), (.obj 36 [(.ptr 2 0)]), (.obj 55 [(.map 3)]), (.map .str ty13 false)]⟩
abbrev deps_Graph_All_1_outs : List Sh := [⟨[(.one (.val .bool))], [(.obj 26 [(.emp true)]), (.obj 36 [(.ptr 2 0)]), (.obj 55 [(.map 3)]), (.map .str ty13 false)]⟩]
def deps_Graph_All_1 : Nat → deps_Graph_All_1_ins.T → Option (OutsT deps_Graph_All_1_outs)
  | 0, _ => none
  | n + 1, ((x1, _, _, _), ((_, _), (_, _), (_, _), m2, _)) =>
    match slices_Contains_string_string n (((), x1, ()), ([], ())) with
    | some ((x3, _), (l4, _)) => (
      if !x3 then
        let v5 : List ByteArray := (mfind (keyEq (.str : Ty)) x1 m2).getD []
        match slices_ContainsFunc_string_string n ((v5, (), ()), (((), ()), ())) with
        | some ((x6, _), ((_, _), _)) => (
          some ((!x6, ()), (((), ()), ((), ()), ((), ()), m2, ())))
        | none => none
      else
        some ((false, ()), (((), ()), ((), ()), ((), ()), m2, ())))
    | none => none
def deps_Graph_All_1_H (n : Nat) : Hints := ⟨[], fun _ => [], fun _ => none, fun _ => none, fun _ => none⟩
def deps_Graph_All_1_O (n : Nat) : FuncId → List FSpec := asc [(22, ⟨slices_Contains_string_string_ins, slices_Contains_string_string_outs, slices_Contains_string_string n⟩), (23, ⟨slices_ContainsFunc_string_string_ins, slices_ContainsFunc_string_string_outs, slices_ContainsFunc_string_string n⟩)]
def b21 : Code := bodyOf Tryd.f21
theorem deps_Graph_All_1_ok {S : Nat → Addr} (ok : CfgOk P CC S) : ∀ n, SpecOk P CC S 21 ⟨deps_Graph_All_1_ins, deps_Graph_All_1_outs, deps_Graph_All_1 n⟩ :=
  fn_all ok (O := deps_Graph_All_1_O) (H := deps_Graph_All_1_H) (fn := Tryd.f21) (body := b21) (by kernel_rfl) (by kernel_rfl) (by kernel_rfl) (by decide) (by kernel_rfl)
    (fun x => by kernel_rfl) (fun n => by
      rintro ⟨⟨x1, ⟨⟩, ⟨⟩, ⟨⟩⟩, ⟨⟨⟨⟩, ⟨⟩⟩, ⟨⟨⟩, ⟨⟩⟩, ⟨⟨⟩, ⟨⟩⟩, x2, ⟨⟩⟩⟩
      kernel_rfl)
    (fun n => obl_of (by kernel_rfl) (by kernel_rfl) (lz) (cn (cn (cz) (by kernel_rfl)) (by kernel_rfl)) (hn fun _ => rfl))
    (fun n ih => asc_cons (slices_Contains_string_string_ok ok n) <| asc_cons (slices_ContainsFunc_string_string_ok ok n) <| asc_nil)
/-! ### slices.IndexFunc[[]string,string] -/
abbrev slices_IndexFunc_string_string_ins : Sh := ⟨[(.one (.val ty13)), (.one (.fn 21 [0, 1]))], [(.obj 26 [(.emp true)]), (.obj 36 [(.ptr 2 0)]), (.obj 55 [(.map 3)]), (.map .str ty13 false)]⟩
abbrev slices_IndexFunc_string_string_outs : List Sh := [⟨[(.one (.val (.int .i64)))], [(.obj 26 [(.emp true)]), (.obj 36 [(.ptr 2 0)]), (.obj 55 [(.map 3)]), (.map .str ty13 false)]⟩]
abbrev slices_IndexFunc_string_string_l2_h : Sh := ⟨[(.one (.val ty13)), (.one (.fn 21 [0, 1])), (.one (.val (.int .i64))), (.one (.val (.int .i64)))], [(.obj 26 [(.emp true)]), (.obj 36 [(.ptr 2 0)]), (.obj 55 [(.map 3)]), (.map .str ty13 false)]⟩
abbrev slices_IndexFunc_string_string_l2_o : List Out := [⟨(.exit 0), [], ⟨[], [(.obj 26 [(.emp true)]), (.obj 36 [(.ptr 2 0)]), (.obj 55 [(.map 3)]), (.map .str ty13 false)]⟩⟩, ⟨.ret, [4], ⟨[(.one (.val (.int .i64)))], [(.obj 26 [(.emp true)]), (.obj 36 [(.ptr 2 0)]), (.obj 55 [(.map 3)]), (.map .str ty13 false)]⟩⟩]
def slices_IndexFunc_string_string_l2 (n : Nat) : Nat → slices_IndexFunc_string_string_l2_h.T → Option (OutT slices_IndexFunc_string_string_l2_o)
  | 0, _ => none
  | k + 1, ((x1, _, x2, x3, _), ((_, _), (_, _), (_, _), m4, _)) =>
    if decide (x3 < x2) then
      if 0 ≤ x3 ∧ x3 < (x1.length : Int) then (
        match deps_Graph_All_1 n ((rdT (.str : Ty) x1 x3, (), (), ()), (((), ()), ((), ()), ((), ()), m4, ())) with
        | some ((x5, _), ((_, _), (_, _), (_, _), m6, _)) => (
          if x5 then
            some (.inr (.inl ((x3, ()), (((), ()), ((), ()), ((), ()), m6, ()))))
          else
            let v7 : Int := IntKind.i64.wrap (x3 + 1)
            slices_IndexFunc_string_string_l2 n k ((x1, (), x2, v7, ()), (((), ()), ((), ()), ((), ()), m6, ())))
        | none => none) else none
    else
      some (.inl ((), (((), ()), ((), ()), ((), ()), m4, ())))
def slices_IndexFunc_string_string : Nat → slices_IndexFunc_string_string_ins.T → Option (OutsT slices_IndexFunc_string_string_outs)
  | 0, _ => none
  | n + 1, ((x1, _, _), ((_, _), (_, _), (_, _), m2, _)) =>
    match slices_IndexFunc_string_string_l2 n n ((x1, (), (x1.length : Int), 0, ()), (((), ()), ((), ()), ((), ()), m2, ())) with
    | some (.inl (_, ((_, _), (_, _), (_, _), m3, _))) => (
      some (((-1), ()), (((), ()), ((), ()), ((), ()), m3, ())))
    | some (.inr (.inl ((x4, _), ((_, _), (_, _), (_, _), m5, _)))) => (
      some ((x4, ()), (((), ()), ((), ()), ((), ()), m5, ())))
    | some (.inr (.inr (_))) => none
    | none => none
def slices_IndexFunc_string_string_H (n : Nat) : Hints := ⟨[], fun _ => [], fun k => match k with | 2 => some ⟨[0, 1, 7, 8], slices_IndexFunc_string_string_l2_h, slices_IndexFunc_string_string_l2_o, slices_IndexFunc_string_string_l2 n⟩ | _ => none, fun _ => none, fun _ => none⟩
def slices_IndexFunc_string_string_O (n : Nat) : FuncId → List FSpec := asc [(21, ⟨deps_Graph_All_1_ins, deps_Graph_All_1_outs, deps_Graph_All_1 n⟩)]
theorem slices_IndexFunc_string_string_l2_k0 (n : Nat) : LoopOk P CC (slices_IndexFunc_string_string_O n) n 4 19 (slices_IndexFunc_string_string_H n) ⟨[0, 1, 7, 8], slices_IndexFunc_string_string_l2_h, slices_IndexFunc_string_string_l2_o, slices_IndexFunc_string_string_l2 n⟩ ((loopsOf b20).getD 0 .skip) := by
  refine ⟨fun _ => by kernel_rfl, ?_⟩
  rintro k ⟨⟨x1, ⟨⟩, x2, x3, ⟨⟩⟩, ⟨⟨⟨⟩, ⟨⟩⟩, ⟨⟨⟩, ⟨⟩⟩, ⟨⟨⟩, ⟨⟩⟩, x4, ⟨⟩⟩⟩
  kernel_rfl
theorem slices_IndexFunc_string_string_ok {S : Nat → Addr} (ok : CfgOk P CC S) : ∀ n, SpecOk P CC S 20 ⟨slices_IndexFunc_string_string_ins, slices_IndexFunc_string_string_outs, slices_IndexFunc_string_string n⟩ :=
  fn_all ok (O := slices_IndexFunc_string_string_O) (H := slices_IndexFunc_string_string_H) (fn := Tryd.f20) (body := b20) (by kernel_rfl) (by kernel_rfl) (by kernel_rfl) (by decide) (by kernel_rfl)
    (fun x => by kernel_rfl) (fun n => by
      rintro ⟨⟨x1, ⟨⟩, ⟨⟩⟩, ⟨⟨⟨⟩, ⟨⟩⟩, ⟨⟨⟩, ⟨⟩⟩, ⟨⟨⟩, ⟨⟩⟩, x2, ⟨⟩⟩⟩
      kernel_rfl)
    (fun n => obl_of (by kernel_rfl) (by kernel_rfl) (ls (lz) (by kernel_rfl) (slices_IndexFunc_string_string_l2_k0 n)) (cn (cn (cn (cn (cn (cn (cn (cn (cn (cn (cz) (by kernel_rfl)) (by kernel_rfl)) (by kernel_rfl)) (by kernel_rfl)) (by kernel_rfl)) (by kernel_rfl)) (by kernel_rfl)) (by kernel_rfl)) (by kernel_rfl)) (by kernel_rfl)) (hn fun _ => rfl))
    (fun n ih => asc_cons (deps_Graph_All_1_ok ok n) <| asc_nil)
/-! ### (*pendulum/deps.Graph).All$1$1 -/
abbrev deps_Graph_All_1_1_2_ins : Sh := ⟨[(.one (.val .str)), (.one (.ptr 0 0))], [(.obj 26 [(.arr 1)]), (.arr 9 .str)]⟩
abbrev deps_Graph_All_1_1_2_outs : List Sh := [⟨[(.one (.val .bool))], [(.obj 26 [(.arr 1)]), (.arr 9 .str)]⟩]
def deps_Graph_All_1_1_2 : Nat → deps_Graph_All_1_1_2_ins.T → Option (OutsT deps_Graph_All_1_1_2_outs)
  | 0, _ => none
  | n + 1, ((x1, _, _), ((_, _), l2, _)) =>
    match slices_Contains_string_string n (((), x1, ()), (l2, ())) with
    | some ((x3, _), (l4, _)) => (
      some ((!x3, ()), (((), ()), l4, ())))
    | none => none
def deps_Graph_All_1_1_2_H (n : Nat) : Hints := ⟨[], fun _ => [], fun _ => none, fun _ => none, fun _ => none⟩
def deps_Graph_All_1_1_2_O (n : Nat) : FuncId → List FSpec := asc [(22, ⟨slices_Contains_string_string_ins, slices_Contains_string_string_outs, slices_Contains_string_string n⟩)]
theorem deps_Graph_All_1_1_2_ok {S : Nat → Addr} (ok : CfgOk P CC S) : ∀ n, SpecOk P CC S 24 ⟨deps_Graph_All_1_1_2_ins, deps_Graph_All_1_1_2_outs, deps_Graph_All_1_1_2 n⟩ :=
  fn_all ok (O := deps_Graph_All_1_1_2_O) (H := deps_Graph_All_1_1_2_H) (fn := Tryd.f24) (body := b24) (by kernel_rfl) (by kernel_rfl) (by kernel_rfl) (by decide) (by kernel_rfl)
    (fun x => by kernel_rfl) (fun n => by
      rintro ⟨⟨x1, ⟨⟩, ⟨⟩⟩, ⟨⟨⟨⟩, ⟨⟩⟩, x2, ⟨⟩⟩⟩
      kernel_rfl)
    (fun n => obl_of (by kernel_rfl) (by kernel_rfl) (lz) (cn (cn (cz) (by kernel_rfl)) (by kernel_rfl)) (hn fun _ => rfl))
    (fun n ih => asc_cons (slices_Contains_string_string_ok ok n) <| asc_nil)
/-! ### slices.IndexFunc[[]string,string] -/
abbrev slices_IndexFunc_string_string_4_ins : Sh := ⟨[(.one (.val ty13)), (.one (.fn 24 [0]))], [(.obj 26 [(.arr 1)]), (.arr 9 .str)]⟩
abbrev slices_IndexFunc_string_string_4_outs : List Sh := [⟨[(.one (.val (.int .i64)))], [(.obj 26 [(.arr 1)]), (.arr 9 .str)]⟩]
abbrev slices_IndexFunc_string_string_4_l2_h : Sh := ⟨[(.one (.val ty13)), (.one (.fn 24 [0])), (.one (.val (.int .i64))), (.one (.val (.int .i64)))], [(.obj 26 [(.arr 1)]), (.arr 9 .str)]⟩
abbrev slices_IndexFunc_string_string_4_l2_o : List Out := [⟨(.exit 0), [], ⟨[], [(.obj 26 [(.arr 1)]), (.arr 9 .str)]⟩⟩, ⟨.ret, [4], ⟨[(.one (.val (.int .i64)))], [(.obj 26 [(.arr 1)]), (.arr 9 .str)]⟩⟩]
def slices_IndexFunc_string_string_4_l2 (n : Nat) : Nat → slices_IndexFunc_string_string_4_l2_h.T → Option (OutT slices_IndexFunc_string_string_4_l2_o)
  | 0, _ => none
  | k + 1, ((x1, _, x2, x3, _), ((_, _), l4, _)) =>
    if decide (x3 < x2) then
      if 0 ≤ x3 ∧ x3 < (x1.length : Int) then (
        match deps_Graph_All_1_1_2 n ((rdT (.str : Ty) x1 x3, (), ()), (((), ()), l4, ())) with
        | some ((x5, _), ((_, _), l6, _)) => (
          if x5 then
            some (.inr (.inl ((x3, ()), (((), ()), l6, ()))))
          else
            let v7 : Int := IntKind.i64.wrap (x3 + 1)
            slices_IndexFunc_string_string_4_l2 n k ((x1, (), x2, v7, ()), (((), ()), l6, ())))
        | none => none) else none
    else
      some (.inl ((), (((), ()), l4, ())))
def slices_IndexFunc_string_string_4 : Nat → slices_IndexFunc_string_string_4_ins.T → Option (OutsT slices_IndexFunc_string_string_4_outs)
  | 0, _ => none
  | n + 1, ((x1, _, _), ((_, _), l2, _)) =>
    match slices_IndexFunc_string_string_4_l2 n n ((x1, (), (x1.length : Int), 0, ()), (((), ()), l2, ())) with
    | some (.inl (_, ((_, _), l3, _))) => (
      some (((-1), ()), (((), ()), l3, ())))
    | some (.inr (.inl ((x4, _), ((_, _), l5, _)))) => (
      some ((x4, ()), (((), ()), l5, ())))
    | some (.inr (.inr (_))) => none
    | none => none
def slices_IndexFunc_string_string_4_H (n : Nat) : Hints := ⟨[], fun _ => [], fun k => match k with | 2 => some ⟨[0, 1, 7, 8], slices_IndexFunc_string_string_4_l2_h, slices_IndexFunc_string_string_4_l2_o, slices_IndexFunc_string_string_4_l2 n⟩ | _ => none, fun _ => none, fun _ => none⟩
def slices_IndexFunc_string_string_4_O (n : Nat) : FuncId → List FSpec := asc [(24, ⟨deps_Graph_All_1_1_2_ins, deps_Graph_All_1_1_2_outs, deps_Graph_All_1_1_2 n⟩)]
theorem slices_IndexFunc_string_string_4_l2_k0 (n : Nat) : LoopOk P CC (slices_IndexFunc_string_string_4_O n) n 2 19 (slices_IndexFunc_string_string_4_H n) ⟨[0, 1, 7, 8], slices_IndexFunc_string_string_4_l2_h, slices_IndexFunc_string_string_4_l2_o, slices_IndexFunc_string_string_4_l2 n⟩ ((loopsOf b20).getD 0 .skip) := by
  refine ⟨fun _ => by kernel_rfl, ?_⟩
  rintro k ⟨⟨x1, ⟨⟩, x2, x3, ⟨⟩⟩, ⟨⟨⟨⟩, ⟨⟩⟩, x4, ⟨⟩⟩⟩
  kernel_rfl
theorem slices_IndexFunc_string_string_4_ok {S : Nat → Addr} (ok : CfgOk P CC S) : ∀ n, SpecOk P CC S 20 ⟨slices_IndexFunc_string_string_4_ins, slices_IndexFunc_string_string_4_outs, slices_IndexFunc_string_string_4 n⟩ :=
  fn_all ok (O := slices_IndexFunc_string_string_4_O) (H := slices_IndexFunc_string_string_4_H) (fn := Tryd.f20) (body := b20) (by kernel_rfl) (by kernel_rfl) (by kernel_rfl) (by decide) (by kernel_rfl)
    (fun x => by kernel_rfl) (fun n => by
      rintro ⟨⟨x1, ⟨⟩, ⟨⟩⟩, ⟨⟨⟨⟩, ⟨⟩⟩, x2, ⟨⟩⟩⟩
      kernel_rfl)
    (fun n => obl_of (by kernel_rfl) (by kernel_rfl) (ls (lz) (by kernel_rfl) (slices_IndexFunc_string_string_4_l2_k0 n)) (cn (cn (cn (cn (cn (cn (cn (cn (cn (cn (cz) (by kernel_rfl)) (by kernel_rfl)) (by kernel_rfl)) (by kernel_rfl)) (by kernel_rfl)) (by kernel_rfl)) (by kernel_rfl)) (by kernel_rfl)) (by kernel_rfl)) (by kernel_rfl)) (hn fun _ => rfl))
    (fun n ih => asc_cons (deps_Graph_All_1_1_2_ok ok n) <| asc_nil)
/-! ### slices.ContainsFunc[[]string,string] -/
abbrev slices_ContainsFunc_string_string_2_ins : Sh := ⟨[(.one (.val ty13)), (.one (.fn 24 [0]))], [(.obj 26 [(.arr 1)]), (.arr 9 .str)]⟩
abbrev slices_ContainsFunc_string_string_2_outs : List Sh := [⟨[(.one (.val .bool))], [(.obj 26 [(.arr 1)]), (.arr 9 .str)]⟩]
def slices_ContainsFunc_string_string_2 : Nat → slices_ContainsFunc_string_string_2_ins.T → Option (OutsT slices_ContainsFunc_string_string_2_outs)
  | 0, _ => none
  | n + 1, ((x1, _, _), ((_, _), l2, _)) =>
    match slices_IndexFunc_string_string_4 n ((x1, (), ()), (((), ()), l2, ())) with
    | some ((x3, _), ((_, _), l4, _)) => (
      some ((decide (x3 ≥ 0), ()), (((), ()), l4, ())))
    | none => none
def slices_ContainsFunc_string_string_2_H (n : Nat) : Hints := ⟨[], fun _ => [], fun _ => none, fun _ => none, fun _ => none⟩
def slices_ContainsFunc_string_string_2_O (n : Nat) : FuncId → List FSpec := asc [(20, ⟨slices_IndexFunc_string_string_4_ins, slices_IndexFunc_string_string_4_outs, slices_IndexFunc_string_string_4 n⟩)]
theorem slices_ContainsFunc_string_string_2_ok {S : Nat → Addr} (ok : CfgOk P CC S) : ∀ n, SpecOk P CC S 23 ⟨slices_ContainsFunc_string_string_2_ins, slices_ContainsFunc_string_string_2_outs, slices_ContainsFunc_string_string_2 n⟩ :=
  fn_all ok (O := slices_ContainsFunc_string_string_2_O) (H := slices_ContainsFunc_string_string_2_H) (fn := Tryd.f23) (body := b23) (by kernel_rfl) (by kernel_rfl) (by kernel_rfl) (by decide) (by kernel_rfl)
    (fun x => by kernel_rfl) (fun n => by
      rintro ⟨⟨x1, ⟨⟩, ⟨⟩⟩, ⟨⟨⟨⟩, ⟨⟩⟩, x2, ⟨⟩⟩⟩
      kernel_rfl)
    (fun n => obl_of (by kernel_rfl) (by kernel_rfl) (lz) (cn (cn (cz) (by kernel_rfl)) (by kernel_rfl)) (hn fun _ => rfl))
    (fun n ih => asc_cons (slices_IndexFunc_string_string_4_ok ok n) <| asc_nil)
/-! ### (*pendulum/deps.Graph).All$1 -/
abbrev deps_Graph_All_1_2_ins : Sh := ⟨[(.one (.val .str)), (.one (.ptr 0 0)), (.one (.ptr 1 0))], [(.obj 26 [(.arr 2)]), (.obj 36 [(.ptr 3 0)]), (.arr 9 .str), (.obj 55 [(.map 4)]), (.map .str ty13 false)]⟩
abbrev deps_Graph_All_1_2_outs : List Sh := [⟨[(.one (.val .bool))], [(.obj 26 [(.arr 2)]), (.obj 36 [(.ptr 3 0)]), (.arr 9 .str), (.obj 55 [(.map 4)]), (.map .str ty13 false)]⟩]
def deps_Graph_All_1_2 : Nat → deps_Graph_All_1_2_ins.T → Option (OutsT deps_Graph_All_1_2_outs)
  | 0, _ => none
  | n + 1, ((x1, _, _, _), ((_, _), (_, _), l2, (_, _), m3, _)) =>
    match slices_Contains_string_string n (((), x1, ()), (l2, ())) with
    | some ((x4, _), (l5, _)) => (
      if !x4 then
        let v6 : List ByteArray := (mfind (keyEq (.str : Ty)) x1 m3).getD []
        match slices_ContainsFunc_string_string_2 n ((v6, (), ()), (((), ()), l5, ())) with
        | some ((x7, _), ((_, _), l8, _)) => (
          some ((!x7, ()), (((), ()), ((), ()), l8, ((), ()), m3, ())))
        | none => none
      else
        some ((false, ()), (((), ()), ((), ()), l5, ((), ()), m3, ())))
    | none => none
def deps_Graph_All_1_2_H (n : Nat) : Hints := ⟨[], fun _ => [], fun _ => none, fun _ => none, fun _ => none⟩
def deps_Graph_All_1_2_O (n : Nat) : FuncId → List FSpec := asc [(22, ⟨slices_Contains_string_string_ins, slices_Contains_string_string_outs, slices_Contains_string_string n⟩), (23, ⟨slices_ContainsFunc_string_string_2_ins, slices_ContainsFunc_string_string_2_outs, slices_ContainsFunc_string_string_2 n⟩)]
theorem deps_Graph_All_1_2_ok {S : Nat → Addr} (ok : CfgOk P CC S) : ∀ n, SpecOk P CC S 21 ⟨deps_Graph_All_1_2_ins, deps_Graph_All_1_2_outs, deps_Graph_All_1_2 n⟩ :=
  fn_all ok (O := deps_Graph_All_1_2_O) (H := deps_Graph_All_1_2_H) (fn := Tryd.f21) (body := b21) (by kernel_rfl) (by kernel_rfl) (by kernel_rfl) (by decide) (by kernel_rfl)
    (fun x => by kernel_rfl) (fun n => by
      rintro ⟨⟨x1, ⟨⟩, ⟨⟩, ⟨⟩⟩, ⟨⟨⟨⟩, ⟨⟩⟩, ⟨⟨⟩, ⟨⟩⟩, x2, ⟨⟨⟩, ⟨⟩⟩, x3, ⟨⟩⟩⟩
      kernel_rfl)
    (fun n => obl_of (by kernel_rfl) (by kernel_rfl) (lz) (cn (cn (cz) (by kernel_rfl)) (by kernel_rfl)) (hn fun _ => rfl))
    (fun n ih => asc_cons (slices_Contains_string_string_ok ok n) <| asc_cons (slices_ContainsFunc_string_string_2_ok ok n) <| asc_nil)
/-! ### slices.IndexFunc[[]string,string] -/
abbrev slices_IndexFunc_string_string_3_ins : Sh := ⟨[(.one (.val ty13)), (.one (.fn 21 [0, 1]))], [(.obj 26 [(.arr 2)]), (.obj 36 [(.ptr 3 0)]), (.arr 9 .str), (.obj 55 [(.map 4)]), (.map .str ty13 false)]⟩
abbrev slices_IndexFunc_string_string_3_outs : List Sh := [⟨[(.one (.val (.int .i64)))], [(.obj 26 [(.arr 2)]), (.obj 36 [(.ptr 3 0)]), (.arr 9 .str), (.obj 55 [(.map 4)]), (.map .str ty13 false)]⟩]
abbrev slices_IndexFunc_string_string_3_l2_h : Sh := ⟨[(.one (.val ty13)), (.one (.fn 21 [0, 1])), (.one (.val (.int .i64))), (.one (.val (.int .i64)))], [(.obj 26 [(.arr 2)]), (.obj 36 [(.ptr 3 0)]), (.arr 9 .str), (.obj 55 [(.map 4)]), (.map .str ty13 false)]⟩
abbrev slices_IndexFunc_string_string_3_l2_o : List Out := [⟨(.exit 0), [], ⟨[], [(.obj 26 [(.arr 2)]), (.obj 36 [(.ptr 3 0)]), (.arr 9 .str), (.obj 55 [(.map 4)]), (.map .str ty13 false)]⟩⟩, ⟨.ret, [4], ⟨[(.one (.val (.int .i64)))], [(.obj 26 [(.arr 2)]), (.obj 36 [(.ptr 3 0)]), (.arr 9 .str), (.obj 55 [(.map 4)]), (.map .str ty13 false)]⟩⟩]
def slices_IndexFunc_string_string_3_l2 (n : Nat) : Nat → slices_IndexFunc_string_string_3_l2_h.T → Option (OutT slices_IndexFunc_string_string_3_l2_o)
  | 0, _ => none
  | k + 1, ((x1, _, x2, x3, _), ((_, _), (_, _), l4, (_, _), m5, _)) =>
    if decide (x3 < x2) then
      if 0 ≤ x3 ∧ x3 < (x1.length : Int) then (
        match deps_Graph_All_1_2 n ((rdT (.str : Ty) x1 x3, (), (), ()), (((), ()), ((), ()), l4, ((), ()), m5, ())) with
        | some ((x6, _), ((_, _), (_, _), l7, (_, _), m8, _)) => (
          if x6 then
            some (.inr (.inl ((x3, ()), (((), ()), ((), ()), l7, ((), ()), m8, ()))))
          else
            let v9 : Int := IntKind.i64.wrap (x3 + 1)
            slices_IndexFunc_string_string_3_l2 n k ((x1, (), x2, v9, ()), (((), ()), ((), ()), l7, ((), ()), m8, ())))
        | none => none) else none
    else
      some (.inl ((), (((), ()), ((), ()), l4, ((), ()), m5, ())))
def slices_IndexFunc_string_string_3 : Nat → slices_IndexFunc_string_string_3_ins.T → Option (OutsT slices_IndexFunc_string_string_3_outs)
  | 0, _ => none
  | n + 1, ((x1, _, _), ((_, _), (_, _), l2, (_, _), m3, _)) =>
    match slices_IndexFunc_string_string_3_l2 n n ((x1, (), (x1.length : Int), 0, ()), (((), ()), ((), ()), l2, ((), ()), m3, ())) with
    | some (.inl (_, ((_, _), (_, _), l4, (_, _), m5, _))) => (
      some (((-1), ()), (((), ()), ((), ()), l4, ((), ()), m5, ())))
    | some (.inr (.inl ((x6, _), ((_, _), (_, _), l7, (_, _), m8, _)))) => (
      some ((x6, ()), (((), ()), ((), ()), l7, ((), ()), m8, ())))
    | some (.inr (.inr (_))) => none
    | none => none
def slices_IndexFunc_string_string_3_H (n : Nat) : Hints := ⟨[], fun _ => [], fun k => match k with | 2 => some ⟨[0, 1, 7, 8], slices_IndexFunc_string_string_3_l2_h, slices_IndexFunc_string_string_3_l2_o, slices_IndexFunc_string_string_3_l2 n⟩ | _ => none, fun _ => none, fun _ => none⟩
def slices_IndexFunc_string_string_3_O (n : Nat) : FuncId → List FSpec := asc [(21, ⟨deps_Graph_All_1_2_ins, deps_Graph_All_1_2_outs, deps_Graph_All_1_2 n⟩)]
theorem slices_IndexFunc_string_string_3_l2_k0 (n : Nat) : LoopOk P CC (slices_IndexFunc_string_string_3_O n) n 5 19 (slices_IndexFunc_string_string_3_H n) ⟨[0, 1, 7, 8], slices_IndexFunc_string_string_3_l2_h, slices_IndexFunc_string_string_3_l2_o, slices_IndexFunc_string_string_3_l2 n⟩ ((loopsOf b20).getD 0 .skip) := by
  refine ⟨fun _ => by kernel_rfl, ?_⟩
  rintro k ⟨⟨x1, ⟨⟩, x2, x3, ⟨⟩⟩, ⟨⟨⟨⟩, ⟨⟩⟩, ⟨⟨⟩, ⟨⟩⟩, x4, ⟨⟨⟩, ⟨⟩⟩, x5, ⟨⟩⟩⟩
  kernel_rfl
theorem slices_IndexFunc_string_string_3_ok {S : Nat → Addr} (ok : CfgOk P CC S) : ∀ n, SpecOk P CC S 20 ⟨slices_IndexFunc_string_string_3_ins, slices_IndexFunc_string_string_3_outs, slices_IndexFunc_string_string_3 n⟩ :=
  fn_all ok (O := slices_IndexFunc_string_string_3_O) (H := slices_IndexFunc_string_string_3_H) (fn := Tryd.f20) (body := b20) (by kernel_rfl) (by kernel_rfl) (by kernel_rfl) (by decide) (by kernel_rfl)
    (fun x => by kernel_rfl) (fun n => by
      rintro ⟨⟨x1, ⟨⟩, ⟨⟩⟩, ⟨⟨⟨⟩, ⟨⟩⟩, ⟨⟨⟩, ⟨⟩⟩, x2, ⟨⟨⟩, ⟨⟩⟩, x3, ⟨⟩⟩⟩
      kernel_rfl)
    (fun n => obl_of (by kernel_rfl) (by kernel_rfl) (ls (lz) (by kernel_rfl) (slices_IndexFunc_string_string_3_l2_k0 n)) (cn (cn (cn (cn (cn (cn (cn (cn (cn (cn (cz) (by kernel_rfl)) (by kernel_rfl)) (by kernel_rfl)) (by kernel_rfl)) (by kernel_rfl)) (by kernel_rfl)) (by kernel_rfl)) (by kernel_rfl)) (by kernel_rfl)) (by kernel_rfl)) (hn fun _ => rfl))
    (fun n ih => asc_cons (deps_Graph_All_1_2_ok ok n) <| asc_nil)
/-! ### (*pendulum/deps.Graph).All -/
abbrev deps_Graph_All_ins : Sh := ⟨[(.one (.ptr 0 0)), (.one (.val .str))], [(.obj 55 [(.map 1)]), (.map .str ty13 false)]⟩
abbrev deps_Graph_All_outs : List Sh := [⟨[(.tup [(false, [(.arr 2)]), (false, [(.val .err)])])], [(.obj 55 [(.map 1)]), (.map .str ty13 false), (.arr 9 .str)]⟩]
abbrev deps_Graph_All_l5_h : Sh := ⟨[(.one (.ptr 2 0)), (.one (.val ty13)), (.one (.ptr 3 0))], [(.obj 55 [(.map 1)]), (.map .str ty13 false), (.obj 36 [(.ptr 0 0)]), (.obj 26 [(.arr 4)]), (.arr 9 .str)]⟩
abbrev deps_Graph_All_l5_o : List Out := [⟨(.exit 0), [8], ⟨[(.one (.ptr 2 0))], [(.obj 55 [(.map 1)]), (.map .str ty13 false), (.obj 26 [(.arr 3)]), (.arr 9 .str)]⟩⟩, ⟨.ret, [4, 5], ⟨[(.one (.emp true)), (.one (.val .err))], [(.obj 55 [(.map 1)]), (.map .str ty13 false)]⟩⟩]
def deps_Graph_All_l5 (n : Nat) : Nat → deps_Graph_All_l5_h.T → Option (OutT deps_Graph_All_l5_o)
  | 0, _ => none
  | k + 1, ((_, x1, _, _), ((_, _), m2, (_, _), (_, _), l3, _)) =>
    if decide ((l3.length : Int) < (x1.length : Int)) then
      match slices_IndexFunc_string_string_3 n ((x1, (), ()), (((), ()), ((), ()), l3, ((), ()), m2, ())) with
      | some ((x4, _), ((_, _), (_, _), l5, (_, _), m6, _)) => (
        if decide (x4 < 0) then
          some (.inr (.inl (((), ErrV.sent 113, ()), (((), ()), m6, ()))))
        else
          if 0 ≤ x4 ∧ x4 < (x1.length : Int) then (
            if (l5.length + ([rdT (.str : Ty) x1 x4] : List (.str : Ty).T).length) * 16 ≤ 140737488355328 then (
              deps_Graph_All_l5 n k (((), x1, (), ()), (((), ()), m6, ((), ()), ((), ()), l5 ++ [rdT (.str : Ty) x1 x4], ()))) else none) else none)
      | none => none
    else
      some (.inl (((), ()), (((), ()), m2, ((), ()), l3, ())))
def deps_Graph_All : Nat → deps_Graph_All_ins.T → Option (OutsT deps_Graph_All_outs)
  | 0, _ => none
  | n + 1, ((_, x1, _), ((_, _), m2, _)) =>
    match deps_Graph_reach n (((), x1, ()), (((), ()), m2, ())) with
    | some ((((_, _), (x3, _), _), _), ((_, _), m4, l5, _)) => (
      if !(errNil x3) then
        some (((((), ()), (x3, ()), ()), ()), (((), ()), m4, [], ()))
      else
        match deps_Graph_All_l5 n n (((), l5, (), ()), (((), ()), m4, ((), ()), ((), ()), [], ())) with
        | some (.inl ((_, _), ((_, _), m6, (_, _), l7, _))) => (
          some (((((), ()), (ErrV.nil, ()), ()), ()), (((), ()), m6, l7, ())))
        | some (.inr (.inl ((_, x8, _), ((_, _), m9, _)))) => (
          some (((((), ()), (x8, ()), ()), ()), (((), ()), m9, [], ())))
        | some (.inr (.inr (_))) => none
        | none => none)
    | none => none
def deps_Graph_All_H (n : Nat) : Hints := ⟨[], fun _ => [], fun k => match k with | 5 => some ⟨[2, 6, 8], deps_Graph_All_l5_h, deps_Graph_All_l5_o, deps_Graph_All_l5 n⟩ | _ => none, fun _ => none, fun _ => none⟩
def deps_Graph_All_O (n : Nat) : FuncId → List FSpec := asc [(19, ⟨deps_Graph_reach_ins, deps_Graph_reach_outs, deps_Graph_reach n⟩), (20, ⟨slices_IndexFunc_string_string_3_ins, slices_IndexFunc_string_string_3_outs, slices_IndexFunc_string_string_3 n⟩)]
def b10 : Code := bodyOf Tryd.f10
theorem deps_Graph_All_l5_k0 (n : Nat) : LoopOk P CC (deps_Graph_All_O n) n 2 38 (deps_Graph_All_H n) ⟨[2, 6, 8], deps_Graph_All_l5_h, deps_Graph_All_l5_o, deps_Graph_All_l5 n⟩ ((loopsOf b10).getD 0 .skip) := by
  refine ⟨fun _ => by kernel_rfl, ?_⟩
  rintro k ⟨⟨⟨⟩, x1, ⟨⟩, ⟨⟩⟩, ⟨⟨⟨⟩, ⟨⟩⟩, x2, ⟨⟨⟩, ⟨⟩⟩, ⟨⟨⟩, ⟨⟩⟩, x3, ⟨⟩⟩⟩
  kernel_rfl
theorem deps_Graph_All_ok {S : Nat → Addr} (ok : CfgOk P CC S) : ∀ n, SpecOk P CC S 10 ⟨deps_Graph_All_ins, deps_Graph_All_outs, deps_Graph_All n⟩ :=
  fn_all ok (O := deps_Graph_All_O) (H := deps_Graph_All_H) (fn := Tryd.f10) (body := b10) (by kernel_rfl) (by kernel_rfl) (by kernel_rfl) (by decide) (by kernel_rfl)
    (fun x => by kernel_rfl) (fun n => by
      rintro ⟨⟨⟨⟩, x1, ⟨⟩⟩, ⟨⟨⟨⟩, ⟨⟩⟩, x2, ⟨⟩⟩⟩
      kernel_rfl)
    (fun n => obl_of (by kernel_rfl) (by kernel_rfl) (ls (lz) (by kernel_rfl) (deps_Graph_All_l5_k0 n)) (cn (cn (cn (cn (cn (cn (cn (cn (cn (cn (cn (cn (cn (cn (cz) (by kernel_rfl)) (by kernel_rfl)) (by kernel_rfl)) (by kernel_rfl)) (by kernel_rfl)) (by kernel_rfl)) (by kernel_rfl)) (by kernel_rfl)) (by kernel_rfl)) (by kernel_rfl)) (by kernel_rfl)) (by kernel_rfl)) (by kernel_rfl)) (by kernel_rfl)) (hn fun _ => rfl))
    (fun n ih => asc_cons (deps_Graph_reach_ok ok n) <| asc_cons (slices_IndexFunc_string_string_3_ok ok n) <| asc_nil)
/-! ### pendulum/pendulumref.SameTexts -/
abbrev ref_SameTexts_ins : Sh := ⟨[(.one (.val ty13)), (.one (.val ty13))], []⟩
abbrev ref_SameTexts_outs : List Sh := [⟨[(.one (.val .bool))], []⟩]
abbrev ref_SameTexts_l4_h : Sh := ⟨[(.one (.val ty13)), (.one (.val ty13)), (.one (.val (.int .i64)))], []⟩
abbrev ref_SameTexts_l4_o : List Out := [⟨(.exit 0), [], ⟨[], []⟩⟩, ⟨.ret, [4], ⟨[(.one (.val .bool))], []⟩⟩]
def ref_SameTexts_l4 (n : Nat) : Nat → ref_SameTexts_l4_h.T → Option (OutT ref_SameTexts_l4_o)
  | 0, _ => none
  | k + 1, ((x1, x2, x3, _), _) =>
    if decide (x3 < (x1.length : Int)) then
      if 0 ≤ x3 ∧ x3 < (x1.length : Int) then (
        if 0 ≤ x3 ∧ x3 < (x2.length : Int) then (
          if !(strEq (rdT (.str : Ty) x1 x3) (rdT (.str : Ty) x2 x3)) then
            some (.inr (.inl ((false, ()), ())))
          else
            let v4 : Int := IntKind.i64.wrap (x3 + 1)
            ref_SameTexts_l4 n k ((x1, x2, v4, ()), ())) else none) else none
    else
      some (.inl ((), ()))
def ref_SameTexts : Nat → ref_SameTexts_ins.T → Option (OutsT ref_SameTexts_outs)
  | 0, _ => none
  | n + 1, ((x1, x2, _), _) =>
    if (x1.length : Int) != (x2.length : Int) then
      some ((false, ()), ())
    else
      match ref_SameTexts_l4 n n ((x1, x2, 0, ()), ()) with
      | some (.inl (_, _)) => (
        some ((true, ()), ()))
      | some (.inr (.inl ((x3, _), _))) => (
        some ((x3, ()), ()))
      | some (.inr (.inr (_))) => none
      | none => none
def ref_SameTexts_H (n : Nat) : Hints := ⟨[], fun _ => [], fun k => match k with | 4 => some ⟨[0, 1, 5], ref_SameTexts_l4_h, ref_SameTexts_l4_o, ref_SameTexts_l4 n⟩ | _ => none, fun _ => none, fun _ => none⟩
def ref_SameTexts_O (n : Nat) : FuncId → List FSpec := asc []
def b13 : Code := bodyOf Tryd.f13
theorem ref_SameTexts_l4_k0 (n : Nat) : LoopOk P CC (ref_SameTexts_O n) n 0 29 (ref_SameTexts_H n) ⟨[0, 1, 5], ref_SameTexts_l4_h, ref_SameTexts_l4_o, ref_SameTexts_l4 n⟩ ((loopsOf b13).getD 0 .skip) := by
  refine ⟨fun _ => by kernel_rfl, ?_⟩
  rintro k ⟨⟨x1, x2, x3, ⟨⟩⟩, ⟨⟩⟩
  kernel_rfl
theorem ref_SameTexts_ok {S : Nat → Addr} (ok : CfgOk P CC S) : ∀ n, SpecOk P CC S 13 ⟨ref_SameTexts_ins, ref_SameTexts_outs, ref_SameTexts n⟩ :=
  fn_all ok (O := ref_SameTexts_O) (H := ref_SameTexts_H) (fn := Tryd.f13) (body := b13) (by kernel_rfl) (by kernel_rfl) (by kernel_rfl) (by decide) (by kernel_rfl)
    (fun x => by kernel_rfl) (fun n => by
      rintro ⟨⟨x1, x2, ⟨⟩⟩, ⟨⟩⟩
      kernel_rfl)
    (fun n => obl_of (by kernel_rfl) (by kernel_rfl) (ls (lz) (by kernel_rfl) (ref_SameTexts_l4_k0 n)) (cn (cn (cn (cn (cn (cn (cn (cn (cn (cn (cn (cn (cn (cz) (by kernel_rfl)) (by kernel_rfl)) (by kernel_rfl)) (by kernel_rfl)) (by kernel_rfl)) (by kernel_rfl)) (by kernel_rfl)) (by kernel_rfl)) (by kernel_rfl)) (by kernel_rfl)) (by kernel_rfl)) (by kernel_rfl)) (by kernel_rfl)) (hn fun _ => rfl))
    (fun n ih => asc_nil)
/-! ### pendulum/pendulumlaw24.first -/
abbrev law24_first_ins : Sh := ⟨[], []⟩
abbrev law24_first_outs : List Sh := [⟨[(.one (.val .bool))], []⟩]
def law24_first : Nat → law24_first_ins.T → Option (OutsT law24_first_outs)
  | 0, _ => none
  | n + 1, (_, _) =>
    match deps_New n (((), ()), ([((⟨#[102]⟩ : ByteArray), ([], ([], ([], []))))], ())) with
    | some (.inl ((((_, _), (x1, _), _), _), (l2, (_, _), m3, _))) => (
      if !(errNil x1) then
        some ((false, ()), ())
      else
        match deps_Graph_All n (((), (⟨#[102]⟩ : ByteArray), ()), (((), ()), m3, ())) with
        | some ((((_, _), (x6, _), _), _), ((_, _), m7, l8, _)) => (
          if errNil x6 then
            match ref_SameTexts n ((l8, [(⟨#[102]⟩ : ByteArray)], ()), ()) with
            | some ((x9, _), _) => (
              some ((x9, ()), ()))
            | none => none
          else
            some ((false, ()), ()))
        | none => none)
    | some (.inr (((((_, _), (x4, _), _), _), (l5, _)))) => (
      some ((false, ()), ()))
    | none => none
def law24_first_H (n : Nat) : Hints := ⟨[], fun _ => [], fun _ => none, fun _ => none, fun _ => none⟩
def law24_first_O (n : Nat) : FuncId → List FSpec := asc [(9, ⟨deps_New_ins, deps_New_outs, deps_New n⟩), (10, ⟨deps_Graph_All_ins, deps_Graph_All_outs, deps_Graph_All n⟩), (13, ⟨ref_SameTexts_ins, ref_SameTexts_outs, ref_SameTexts n⟩)]
def b6 : Code := bodyOf Tryd.f6
theorem law24_first_ok {S : Nat → Addr} (ok : CfgOk P CC S) : ∀ n, SpecOk P CC S 6 ⟨law24_first_ins, law24_first_outs, law24_first n⟩ :=
  fn_all ok (O := law24_first_O) (H := law24_first_H) (fn := Tryd.f6) (body := b6) (by kernel_rfl) (by kernel_rfl) (by kernel_rfl) (by decide) (by kernel_rfl)
    (fun x => by kernel_rfl) (fun n => by
      rintro ⟨⟨⟩, ⟨⟩⟩
      kernel_rfl)
    (fun n => obl_of (by kernel_rfl) (by kernel_rfl) (lz) (cn (cn (cn (cn (cn (cn (cn (cz) (by kernel_rfl)) (by kernel_rfl)) (by kernel_rfl)) (by kernel_rfl)) (by kernel_rfl)) (by kernel_rfl)) (by kernel_rfl)) (hn fun _ => rfl))
    (fun n ih => asc_cons (deps_New_ok ok n) <| asc_cons (deps_Graph_All_ok ok n) <| asc_cons (ref_SameTexts_ok ok n) <| asc_nil)
/-! ### pendulum/pendulumworld.Number -/
abbrev world_Number_ins : Sh := ⟨[(.one (.val (.int .i64))), (.one (.val (.int .i64)))], []⟩
abbrev world_Number_outs : List Sh := [⟨[(.one (.val (.int .i64)))], []⟩]
def world_Number : Nat → world_Number_ins.T → Option (OutsT world_Number_outs)
  | 0, _ => none
  | n + 1, ((x1, x2, _), _) =>
    if x2 = 0 then
      none
    else
      if decide (Int.tmod x1 x2 < 0) then
        let v3 : Int := IntKind.i64.wrap ((Int.tmod x1 x2) + x2)
        some ((v3, ()), ())
      else
        some ((Int.tmod x1 x2, ()), ())
def world_Number_H (n : Nat) : Hints := ⟨[], fun _ => [], fun _ => none, fun _ => none, fun _ => none⟩
def world_Number_O (n : Nat) : FuncId → List FSpec := asc []
def b7 : Code := bodyOf Tryd.f7
theorem world_Number_ok {S : Nat → Addr} (ok : CfgOk P CC S) : ∀ n, SpecOk P CC S 7 ⟨world_Number_ins, world_Number_outs, world_Number n⟩ :=
  fn_all ok (O := world_Number_O) (H := world_Number_H) (fn := Tryd.f7) (body := b7) (by kernel_rfl) (by kernel_rfl) (by kernel_rfl) (by decide) (by kernel_rfl)
    (fun x => by kernel_rfl) (fun n => by
      rintro ⟨⟨x1, x2, ⟨⟩⟩, ⟨⟩⟩
      kernel_rfl)
    (fun n => obl_of (by kernel_rfl) (by kernel_rfl) (lz) (cn (cn (cn (cn (cn (cz) (by kernel_rfl)) (by kernel_rfl)) (by kernel_rfl)) (by kernel_rfl)) (by kernel_rfl)) (hn fun _ => rfl))
    (fun n ih => asc_nil)
/-! ### strconv.Itoa (by hand) -/
abbrev strconv_Itoa_ins : Sh := ⟨[(.one (.val (.int .i64)))], []⟩
abbrev strconv_Itoa_outs : List Sh := [⟨[(.one (.val .str))], []⟩]
def strconv_Itoa : Nat → strconv_Itoa_ins.T → Option (OutsT strconv_Itoa_outs) := fun _ => itoaSem
theorem strconv_Itoa_ok {S : Nat → Addr} (ok : CfgOk P CC S) : ∀ n, SpecOk P CC S 17 ⟨strconv_Itoa_ins, strconv_Itoa_outs, strconv_Itoa n⟩ := fun n => itoa_spec ⟨Tryd.f17, by kernel_rfl, by kernel_rfl, by kernel_rfl⟩ (.head _) (by kernel_rfl) Tryd.strconv_Itoa
/-! ### pendulum/pendulumworld.Num -/
abbrev world_Num_ins : Sh := ⟨[(.one (.val (.int .i64)))], []⟩
abbrev world_Num_outs : List Sh := [⟨[(.one (.val .str))], []⟩]
def world_Num : Nat → world_Num_ins.T → Option (OutsT world_Num_outs)
  | 0, _ => none
  | n + 1, ((x1, _), _) =>
    match strconv_Itoa n ((x1, ()), ()) with
    | some ((x2, _), _) => (
      some ((x2, ()), ()))
    | none => none
def world_Num_H (n : Nat) : Hints := ⟨[], fun _ => [], fun _ => none, fun _ => none, fun _ => none⟩
def world_Num_O (n : Nat) : FuncId → List FSpec := asc [(17, ⟨strconv_Itoa_ins, strconv_Itoa_outs, strconv_Itoa n⟩)]
def b8 : Code := bodyOf Tryd.f8
theorem world_Num_ok {S : Nat → Addr} (ok : CfgOk P CC S) : ∀ n, SpecOk P CC S 8 ⟨world_Num_ins, world_Num_outs, world_Num n⟩ :=
  fn_all ok (O := world_Num_O) (H := world_Num_H) (fn := Tryd.f8) (body := b8) (by kernel_rfl) (by kernel_rfl) (by kernel_rfl) (by decide) (by kernel_rfl)
    (fun x => by kernel_rfl) (fun n => by
      rintro ⟨⟨x1, ⟨⟩⟩, ⟨⟩⟩
      kernel_rfl)
    (fun n => obl_of (by kernel_rfl) (by kernel_rfl) (lz) (cn (cn (cz) (by kernel_rfl)) (by kernel_rfl)) (hn fun _ => rfl))
    (fun n ih => asc_cons (strconv_Itoa_ok ok n) <| asc_nil)
/-! ### slices.Clone[[]string,string] -/
abbrev slices_Clone_string_string_raw_ins : Sh := ⟨[(.one (.val ty13))], []⟩
abbrev slices_Clone_string_string_raw_outs : List Sh := [⟨[(.one (.arr 0))], [(.arr 9 .str)]⟩]
def slices_Clone_string_string_raw : Nat → slices_Clone_string_string_raw_ins.T → Option (OutsT slices_Clone_string_string_raw_outs)
  | 0, _ => none
  | n + 1, ((x1, _), _) =>
    if (x1.isEmpty || (Ty.size (.str : Ty) == 0)) = true then
      both fun b2 =>
        if b2 then
          some (((), ()), ([], ()))
        else
          if (([] : List (.str : Ty).T).length + x1.length) * 16 ≤ 140737488355328 then (
            some (((), ()), ([] ++ x1, ()))) else none
    else
      if (([] : List (.str : Ty).T).length + x1.length) * 16 ≤ 140737488355328 then (
        some (((), ()), ([] ++ x1, ()))) else none
def slices_Clone_string_string_raw_H (n : Nat) : Hints := ⟨[], fun _ => [], fun _ => none, fun _ => none, fun _ => none⟩
def slices_Clone_string_string_raw_O (n : Nat) : FuncId → List FSpec := asc []
def b28 : Code := bodyOf Tryd.f28
theorem slices_Clone_string_string_raw_ok {S : Nat → Addr} (ok : CfgOk P CC S) : ∀ n, SpecOk P CC S 28 ⟨slices_Clone_string_string_raw_ins, slices_Clone_string_string_raw_outs, slices_Clone_string_string_raw n⟩ :=
  fn_all ok (O := slices_Clone_string_string_raw_O) (H := slices_Clone_string_string_raw_H) (fn := Tryd.f28) (body := b28) (by kernel_rfl) (by kernel_rfl) (by kernel_rfl) (by decide) (by kernel_rfl)
    (fun x => by kernel_rfl) (fun n => by
      rintro ⟨⟨x1, ⟨⟩⟩, ⟨⟩⟩
      kernel_rfl)
    (fun n => obl_of (by kernel_rfl) (by kernel_rfl) (lz) (cn (cn (cn (cn (cn (cz) (by kernel_rfl)) (by kernel_rfl)) (by kernel_rfl)) (by kernel_rfl)) (by kernel_rfl)) (hn fun _ => rfl))
    (fun n ih => asc_nil)
abbrev slices_Clone_string_string_ins : Sh := slices_Clone_string_string_raw_ins
abbrev slices_Clone_string_string_outs : List Sh := slices_Clone_string_string_raw_outs
def slices_Clone_string_string : Nat → slices_Clone_string_string_ins.T → Option (OutsT slices_Clone_string_string_outs)
  | 0, _ => none
  | n + 1, ((x1, _), _) => if (([] : List (.str : Ty).T).length + x1.length) * 16 ≤ 140737488355328 then (some (((), ()), (x1, ()))) else none
theorem slices_Clone_string_string_ok {S : Nat → Addr} (ok : CfgOk P CC S) : ∀ n, SpecOk P CC S 28 ⟨slices_Clone_string_string_ins, slices_Clone_string_string_outs, slices_Clone_string_string n⟩ := fun n => (slices_Clone_string_string_raw_ok ok n).weaken fun x y h => by
  cases n with
  | zero => cases h
  | succ n =>
    obtain ⟨⟨x1, ⟨⟩⟩, ⟨⟩⟩ := x
    simp only [slices_Clone_string_string] at h
    split at h
    · rename_i hc
      cases h
      simp only [slices_Clone_string_string_raw]
      split
      · rename_i he
        have h0 : x1 = [] := by simpa [Ty.size] using he
        subst h0
        exact both_same rfl rfl
      · first | rfl | (rw [if_pos hc]; rfl)
    · cases h
/-! ### (*pendulum/deps.Graph).Uses -/
abbrev deps_Graph_Uses_ins : Sh := ⟨[(.one (.ptr 0 0)), (.one (.val .str))], [(.obj 55 [(.map 1)]), (.map .str ty13 false)]⟩
abbrev deps_Graph_Uses_outs : List Sh := [⟨[(.one (.arr 2))], [(.obj 55 [(.map 1)]), (.map .str ty13 false), (.arr 9 .str)]⟩]
def deps_Graph_Uses : Nat → deps_Graph_Uses_ins.T → Option (OutsT deps_Graph_Uses_outs)
  | 0, _ => none
  | n + 1, ((_, x1, _), ((_, _), m2, _)) =>
    let v3 : List ByteArray := (mfind (keyEq (.str : Ty)) x1 m2).getD []
    match slices_Clone_string_string n ((v3, ()), ()) with
    | some ((_, _), (l4, _)) => (
      some (((), ()), (((), ()), m2, l4, ())))
    | none => none
def deps_Graph_Uses_H (n : Nat) : Hints := ⟨[], fun _ => [], fun _ => none, fun _ => none, fun _ => none⟩
def deps_Graph_Uses_O (n : Nat) : FuncId → List FSpec := asc [(28, ⟨slices_Clone_string_string_ins, slices_Clone_string_string_outs, slices_Clone_string_string n⟩)]
def b15 : Code := bodyOf Tryd.f15
theorem deps_Graph_Uses_ok {S : Nat → Addr} (ok : CfgOk P CC S) : ∀ n, SpecOk P CC S 15 ⟨deps_Graph_Uses_ins, deps_Graph_Uses_outs, deps_Graph_Uses n⟩ :=
  fn_all ok (O := deps_Graph_Uses_O) (H := deps_Graph_Uses_H) (fn := Tryd.f15) (body := b15) (by kernel_rfl) (by kernel_rfl) (by kernel_rfl) (by decide) (by kernel_rfl)
    (fun x => by kernel_rfl) (fun n => by
      rintro ⟨⟨⟨⟩, x1, ⟨⟩⟩, ⟨⟨⟨⟩, ⟨⟩⟩, x2, ⟨⟩⟩⟩
      kernel_rfl)
    (fun n => obl_of (by kernel_rfl) (by kernel_rfl) (lz) (cn (cn (cz) (by kernel_rfl)) (by kernel_rfl)) (hn fun _ => rfl))
    (fun n ih => asc_cons (slices_Clone_string_string_ok ok n) <| asc_nil)
/-! ### pendulum/pendulumref.Among -/
abbrev ref_Among_ins : Sh := ⟨[(.one (.val ty13)), (.one (.val .str))], []⟩
abbrev ref_Among_outs : List Sh := [⟨[(.one (.val (.int .i64)))], []⟩]
abbrev ref_Among_l2_h : Sh := ⟨[(.one (.val ty13)), (.one (.val .str)), (.one (.val (.int .i64)))], []⟩
abbrev ref_Among_l2_o : List Out := [⟨(.exit 0), [], ⟨[], []⟩⟩, ⟨.ret, [4], ⟨[(.one (.val (.int .i64)))], []⟩⟩]
def ref_Among_l2 (n : Nat) : Nat → ref_Among_l2_h.T → Option (OutT ref_Among_l2_o)
  | 0, _ => none
  | k + 1, ((x1, x2, x3, _), _) =>
    if decide (x3 < (x1.length : Int)) then
      if 0 ≤ x3 ∧ x3 < (x1.length : Int) then (
        if strEq (rdT (.str : Ty) x1 x3) x2 then
          some (.inr (.inl ((x3, ()), ())))
        else
          let v4 : Int := IntKind.i64.wrap (x3 + 1)
          ref_Among_l2 n k ((x1, x2, v4, ()), ())) else none
    else
      some (.inl ((), ()))
def ref_Among : Nat → ref_Among_ins.T → Option (OutsT ref_Among_outs)
  | 0, _ => none
  | n + 1, ((x1, x2, _), _) =>
    match ref_Among_l2 n n ((x1, x2, 0, ()), ()) with
    | some (.inl (_, _)) => (
      some (((-1), ()), ()))
    | some (.inr (.inl ((x3, _), _))) => (
      some ((x3, ()), ()))
    | some (.inr (.inr (_))) => none
    | none => none
def ref_Among_H (n : Nat) : Hints := ⟨[], fun _ => [], fun k => match k with | 2 => some ⟨[0, 1, 5], ref_Among_l2_h, ref_Among_l2_o, ref_Among_l2 n⟩ | _ => none, fun _ => none, fun _ => none⟩
def ref_Among_O (n : Nat) : FuncId → List FSpec := asc []
def b16 : Code := bodyOf Tryd.f16
theorem ref_Among_l2_k0 (n : Nat) : LoopOk P CC (ref_Among_O n) n 0 19 (ref_Among_H n) ⟨[0, 1, 5], ref_Among_l2_h, ref_Among_l2_o, ref_Among_l2 n⟩ ((loopsOf b16).getD 0 .skip) := by
  refine ⟨fun _ => by kernel_rfl, ?_⟩
  rintro k ⟨⟨x1, x2, x3, ⟨⟩⟩, ⟨⟩⟩
  kernel_rfl
theorem ref_Among_ok {S : Nat → Addr} (ok : CfgOk P CC S) : ∀ n, SpecOk P CC S 16 ⟨ref_Among_ins, ref_Among_outs, ref_Among n⟩ :=
  fn_all ok (O := ref_Among_O) (H := ref_Among_H) (fn := Tryd.f16) (body := b16) (by kernel_rfl) (by kernel_rfl) (by kernel_rfl) (by decide) (by kernel_rfl)
    (fun x => by kernel_rfl) (fun n => by
      rintro ⟨⟨x1, x2, ⟨⟩⟩, ⟨⟩⟩
      kernel_rfl)
    (fun n => obl_of (by kernel_rfl) (by kernel_rfl) (ls (lz) (by kernel_rfl) (ref_Among_l2_k0 n)) (cn (cn (cn (cn (cn (cn (cn (cn (cn (cz) (by kernel_rfl)) (by kernel_rfl)) (by kernel_rfl)) (by kernel_rfl)) (by kernel_rfl)) (by kernel_rfl)) (by kernel_rfl)) (by kernel_rfl)) (by kernel_rfl)) (hn fun _ => rfl))
    (fun n ih => asc_nil)
/-! ### maps.Keys[map[string][]string,string,[]string] -/
abbrev maps_Keys_map_string_string_string_string_ins : Sh := ⟨[(.one (.map 0))], [(.map .str ty13 false)]⟩
abbrev maps_Keys_map_string_string_string_string_outs : List Sh := [⟨[(.one (.fn 47 [1]))], [(.map .str ty13 false), (.obj 53 [(.map 0)])]⟩]
def maps_Keys_map_string_string_string_string : Nat → maps_Keys_map_string_string_string_string_ins.T → Option (OutsT maps_Keys_map_string_string_string_string_outs)
  | 0, _ => none
  | n + 1, ((_, _), (m1, _)) =>
    some (((), ()), (m1, ((), ()), ()))
def maps_Keys_map_string_string_string_string_H (n : Nat) : Hints := ⟨[], fun _ => [], fun _ => none, fun _ => none, fun _ => none⟩
def maps_Keys_map_string_string_string_string_O (n : Nat) : FuncId → List FSpec := asc []
def b37 : Code := bodyOf Tryd.f37
theorem maps_Keys_map_string_string_string_string_ok {S : Nat → Addr} (ok : CfgOk P CC S) : ∀ n, SpecOk P CC S 37 ⟨maps_Keys_map_string_string_string_string_ins, maps_Keys_map_string_string_string_string_outs, maps_Keys_map_string_string_string_string n⟩ :=
  fn_all ok (O := maps_Keys_map_string_string_string_string_O) (H := maps_Keys_map_string_string_string_string_H) (fn := Tryd.f37) (body := b37) (by kernel_rfl) (by kernel_rfl) (by kernel_rfl) (by decide) (by kernel_rfl)
    (fun x => by kernel_rfl) (fun n => by
      rintro ⟨⟨⟨⟩, ⟨⟩⟩, ⟨x1, ⟨⟩⟩⟩
      kernel_rfl)
    (fun n => obl_of (by kernel_rfl) (by kernel_rfl) (lz) (cn (cn (cz) (by kernel_rfl)) (by kernel_rfl)) (hn fun _ => rfl))
    (fun n ih => asc_nil)
/-! ### slices.Sorted[string] (by hand) -/
abbrev slices_Sorted_47_ins : Sh := ⟨[(.one (.fn 47 [0]))], [(.obj 53 [(.map 1)]), (.map .str ty13 false)]⟩
abbrev slices_Sorted_47_outs : List Sh := [⟨[(.one (.arr 2))], [(.obj 53 [(.map 1)]), (.map .str ty13 false), (.arr 9 .str)]⟩]
def slices_Sorted_47 : Nat → slices_Sorted_47_ins.T → Option (OutsT slices_Sorted_47_outs) := fun _ => sortedSSem 53 9 ty13 false 47
theorem slices_Sorted_47_ok {S : Nat → Addr} (ok : CfgOk P CC S) : ∀ n, SpecOk P CC S 32 ⟨slices_Sorted_47_ins, slices_Sorted_47_outs, slices_Sorted_47 n⟩ := fun n => sortedS_spec (ty := 9) ⟨Tryd.f32, by kernel_rfl, by kernel_rfl, by kernel_rfl⟩ (by kernel_rfl) Sq.sorted_calls_47
/-! ### (*pendulum/deps.Graph).Names -/
abbrev deps_Graph_Names_ins : Sh := ⟨[(.one (.ptr 0 0))], [(.obj 55 [(.map 1)]), (.map .str ty13 false)]⟩
abbrev deps_Graph_Names_outs : List Sh := [⟨[(.one (.arr 2))], [(.obj 55 [(.map 1)]), (.map .str ty13 false), (.arr 9 .str)]⟩]
def deps_Graph_Names : Nat → deps_Graph_Names_ins.T → Option (OutsT deps_Graph_Names_outs)
  | 0, _ => none
  | n + 1, ((_, _), ((_, _), m1, _)) =>
    match maps_Keys_map_string_string_string_string n (((), ()), (m1, ())) with
    | some ((_, _), (m2, (_, _), _)) => (
      match slices_Sorted_47 n (((), ()), (((), ()), m2, ())) with
      | some ((_, _), ((_, _), m3, l4, _)) => (
        some (((), ()), (((), ()), m3, l4, ())))
      | none => none)
    | none => none
def deps_Graph_Names_H (n : Nat) : Hints := ⟨[], fun _ => [], fun _ => none, fun _ => none, fun _ => none⟩
def deps_Graph_Names_O (n : Nat) : FuncId → List FSpec := asc [(32, ⟨slices_Sorted_47_ins, slices_Sorted_47_outs, slices_Sorted_47 n⟩), (37, ⟨maps_Keys_map_string_string_string_string_ins, maps_Keys_map_string_string_string_string_outs, maps_Keys_map_string_string_string_string n⟩)]
def b27 : Code := bodyOf Tryd.f27
theorem deps_Graph_Names_ok {S : Nat → Addr} (ok : CfgOk P CC S) : ∀ n, SpecOk P CC S 27 ⟨deps_Graph_Names_ins, deps_Graph_Names_outs, deps_Graph_Names n⟩ :=
  fn_all ok (O := deps_Graph_Names_O) (H := deps_Graph_Names_H) (fn := Tryd.f27) (body := b27) (by kernel_rfl) (by kernel_rfl) (by kernel_rfl) (by decide) (by kernel_rfl)
    (fun x => by kernel_rfl) (fun n => by
      rintro ⟨⟨⟨⟩, ⟨⟩⟩, ⟨⟨⟨⟩, ⟨⟩⟩, x1, ⟨⟩⟩⟩
      kernel_rfl)
    (fun n => obl_of (by kernel_rfl) (by kernel_rfl) (lz) (cn (cn (cz) (by kernel_rfl)) (by kernel_rfl)) (hn fun _ => rfl))
    (fun n ih => asc_cons (slices_Sorted_47_ok ok n) <| asc_cons (maps_Keys_map_string_string_string_string_ok ok n) <| asc_nil)
/-! ### slices.Index[[]string,string] -/
abbrev slices_Index_string_string_2_ins : Sh := ⟨[(.one (.val ty13)), (.one (.val .str))], []⟩
abbrev slices_Index_string_string_2_outs : List Sh := [⟨[(.one (.val (.int .i64)))], []⟩]
abbrev slices_Index_string_string_2_l2_h : Sh := ⟨[(.one (.val ty13)), (.one (.val .str)), (.one (.val (.int .i64))), (.one (.val (.int .i64)))], []⟩
abbrev slices_Index_string_string_2_l2_o : List Out := [⟨(.exit 0), [], ⟨[], []⟩⟩, ⟨.ret, [4], ⟨[(.one (.val (.int .i64)))], []⟩⟩]
def slices_Index_string_string_2_l2 (n : Nat) : Nat → slices_Index_string_string_2_l2_h.T → Option (OutT slices_Index_string_string_2_l2_o)
  | 0, _ => none
  | k + 1, ((x1, x2, x3, x4, _), _) =>
    if decide (x4 < x3) then
      if 0 ≤ x4 ∧ x4 < (x1.length : Int) then (
        if strEq x2 (rdT (.str : Ty) x1 x4) then
          some (.inr (.inl ((x4, ()), ())))
        else
          let v5 : Int := IntKind.i64.wrap (x4 + 1)
          slices_Index_string_string_2_l2 n k ((x1, x2, x3, v5, ()), ())) else none
    else
      some (.inl ((), ()))
def slices_Index_string_string_2 : Nat → slices_Index_string_string_2_ins.T → Option (OutsT slices_Index_string_string_2_outs)
  | 0, _ => none
  | n + 1, ((x1, x2, _), _) =>
    match slices_Index_string_string_2_l2 n n ((x1, x2, (x1.length : Int), 0, ()), ()) with
    | some (.inl (_, _)) => (
      some (((-1), ()), ()))
    | some (.inr (.inl ((x3, _), _))) => (
      some ((x3, ()), ()))
    | some (.inr (.inr (_))) => none
    | none => none
def slices_Index_string_string_2_H (n : Nat) : Hints := ⟨[], fun _ => [], fun k => match k with | 2 => some ⟨[0, 1, 7, 8], slices_Index_string_string_2_l2_h, slices_Index_string_string_2_l2_o, slices_Index_string_string_2_l2 n⟩ | _ => none, fun _ => none, fun _ => none⟩
def slices_Index_string_string_2_O (n : Nat) : FuncId → List FSpec := asc []
theorem slices_Index_string_string_2_l2_k0 (n : Nat) : LoopOk P CC (slices_Index_string_string_2_O n) n 0 19 (slices_Index_string_string_2_H n) ⟨[0, 1, 7, 8], slices_Index_string_string_2_l2_h, slices_Index_string_string_2_l2_o, slices_Index_string_string_2_l2 n⟩ ((loopsOf b34).getD 0 .skip) := by
  refine ⟨fun _ => by kernel_rfl, ?_⟩
  rintro k ⟨⟨x1, x2, x3, x4, ⟨⟩⟩, ⟨⟩⟩
  kernel_rfl
theorem slices_Index_string_string_2_ok {S : Nat → Addr} (ok : CfgOk P CC S) : ∀ n, SpecOk P CC S 34 ⟨slices_Index_string_string_2_ins, slices_Index_string_string_2_outs, slices_Index_string_string_2 n⟩ :=
  fn_all ok (O := slices_Index_string_string_2_O) (H := slices_Index_string_string_2_H) (fn := Tryd.f34) (body := b34) (by kernel_rfl) (by kernel_rfl) (by kernel_rfl) (by decide) (by kernel_rfl)
    (fun x => by kernel_rfl) (fun n => by
      rintro ⟨⟨x1, x2, ⟨⟩⟩, ⟨⟩⟩
      kernel_rfl)
    (fun n => obl_of (by kernel_rfl) (by kernel_rfl) (ls (lz) (by kernel_rfl) (slices_Index_string_string_2_l2_k0 n)) (cn (cn (cn (cn (cn (cn (cn (cn (cn (cn (cz) (by kernel_rfl)) (by kernel_rfl)) (by kernel_rfl)) (by kernel_rfl)) (by kernel_rfl)) (by kernel_rfl)) (by kernel_rfl)) (by kernel_rfl)) (by kernel_rfl)) (by kernel_rfl)) (hn fun _ => rfl))
    (fun n ih => asc_nil)
/-! ### slices.Contains[[]string,string] -/
abbrev slices_Contains_string_string_2_ins : Sh := ⟨[(.one (.val ty13)), (.one (.val .str))], []⟩
abbrev slices_Contains_string_string_2_outs : List Sh := [⟨[(.one (.val .bool))], []⟩]
def slices_Contains_string_string_2 : Nat → slices_Contains_string_string_2_ins.T → Option (OutsT slices_Contains_string_string_2_outs)
  | 0, _ => none
  | n + 1, ((x1, x2, _), _) =>
    match slices_Index_string_string_2 n ((x1, x2, ()), ()) with
    | some ((x3, _), _) => (
      some ((decide (x3 ≥ 0), ()), ()))
    | none => none
def slices_Contains_string_string_2_H (n : Nat) : Hints := ⟨[], fun _ => [], fun _ => none, fun _ => none, fun _ => none⟩
def slices_Contains_string_string_2_O (n : Nat) : FuncId → List FSpec := asc [(34, ⟨slices_Index_string_string_2_ins, slices_Index_string_string_2_outs, slices_Index_string_string_2 n⟩)]
theorem slices_Contains_string_string_2_ok {S : Nat → Addr} (ok : CfgOk P CC S) : ∀ n, SpecOk P CC S 22 ⟨slices_Contains_string_string_2_ins, slices_Contains_string_string_2_outs, slices_Contains_string_string_2 n⟩ :=
  fn_all ok (O := slices_Contains_string_string_2_O) (H := slices_Contains_string_string_2_H) (fn := Tryd.f22) (body := b22) (by kernel_rfl) (by kernel_rfl) (by kernel_rfl) (by decide) (by kernel_rfl)
    (fun x => by kernel_rfl) (fun n => by
      rintro ⟨⟨x1, x2, ⟨⟩⟩, ⟨⟩⟩
      kernel_rfl)
    (fun n => obl_of (by kernel_rfl) (by kernel_rfl) (lz) (cn (cn (cz) (by kernel_rfl)) (by kernel_rfl)) (hn fun _ => rfl))
    (fun n ih => asc_cons (slices_Index_string_string_2_ok ok n) <| asc_nil)
/-! ### (*pendulum/deps.Graph).Used -/
abbrev deps_Graph_Used_ins : Sh := ⟨[(.one (.ptr 0 0)), (.one (.val .str))], [(.obj 55 [(.map 1)]), (.map .str ty13 false)]⟩
abbrev deps_Graph_Used_outs : List Sh := [⟨[(.one (.arr 2))], [(.obj 55 [(.map 1)]), (.map .str ty13 false), (.arr 9 .str)]⟩]
abbrev deps_Graph_Used_l3_h : Sh := ⟨[(.one (.ptr 0 0)), (.one (.val .str)), (.one (.arr 2)), (.one (.arr 3)), (.one (.val (.int .i64))), (.one (.val (.int .i64)))], [(.obj 55 [(.map 1)]), (.map .str ty13 false), (.arr 9 .str), (.arr 9 .str)]⟩
abbrev deps_Graph_Used_l3_o : List Out := [⟨(.exit 0), [5], ⟨[(.one (.arr 2))], [(.obj 55 [(.map 1)]), (.map .str ty13 false), (.arr 9 .str)]⟩⟩]
def deps_Graph_Used_l3 (n : Nat) : Nat → deps_Graph_Used_l3_h.T → Option (OutT deps_Graph_Used_l3_o)
  | 0, _ => none
  | k + 1, ((_, x1, _, _, x2, x3, _), ((_, _), m4, l5, l6, _)) =>
    if decide (x3 < x2) then
      if 0 ≤ x3 ∧ x3 < (l6.length : Int) then (
        let v7 : List ByteArray := (mfind (keyEq (.str : Ty)) (rdT (.str : Ty) l6 x3) m4).getD []
        match slices_Contains_string_string_2 n ((v7, x1, ()), ()) with
        | some ((x8, _), _) => (
          if x8 then
            if (l5.length + ([rdT (.str : Ty) l6 x3] : List (.str : Ty).T).length) * 16 ≤ 140737488355328 then (
              let v9 : Int := IntKind.i64.wrap (x3 + 1)
              deps_Graph_Used_l3 n k (((), x1, (), (), x2, v9, ()), (((), ()), m4, l5 ++ [rdT (.str : Ty) l6 x3], l6, ()))) else none
          else
            let v10 : Int := IntKind.i64.wrap (x3 + 1)
            deps_Graph_Used_l3 n k (((), x1, (), (), x2, v10, ()), (((), ()), m4, l5, l6, ())))
        | none => none) else none
    else
      some (.inl (((), ()), (((), ()), m4, l5, ())))
def deps_Graph_Used : Nat → deps_Graph_Used_ins.T → Option (OutsT deps_Graph_Used_outs)
  | 0, _ => none
  | n + 1, ((_, x1, _), ((_, _), m2, _)) =>
    match deps_Graph_Names n (((), ()), (((), ()), m2, ())) with
    | some ((_, _), ((_, _), m3, l4, _)) => (
      match deps_Graph_Used_l3 n n (((), x1, (), (), (l4.length : Int), 0, ()), (((), ()), m3, [], l4, ())) with
      | some (.inl ((_, _), ((_, _), m5, l6, _))) => (
        some (((), ()), (((), ()), m5, l6, ())))
      | some (.inr (_)) => none
      | none => none)
    | none => none
def deps_Graph_Used_H (n : Nat) : Hints := ⟨[], fun _ => [], fun k => match k with | 3 => some ⟨[0, 1, 5, 9, 10, 11], deps_Graph_Used_l3_h, deps_Graph_Used_l3_o, deps_Graph_Used_l3 n⟩ | _ => none, fun _ => none, fun _ => none⟩
def deps_Graph_Used_O (n : Nat) : FuncId → List FSpec := asc [(22, ⟨slices_Contains_string_string_2_ins, slices_Contains_string_string_2_outs, slices_Contains_string_string_2 n⟩), (27, ⟨deps_Graph_Names_ins, deps_Graph_Names_outs, deps_Graph_Names n⟩)]
def b14 : Code := bodyOf Tryd.f14
theorem deps_Graph_Used_l3_k0 (n : Nat) : LoopOk P CC (deps_Graph_Used_O n) n 2 29 (deps_Graph_Used_H n) ⟨[0, 1, 5, 9, 10, 11], deps_Graph_Used_l3_h, deps_Graph_Used_l3_o, deps_Graph_Used_l3 n⟩ ((loopsOf b14).getD 0 .skip) := by
  refine ⟨fun _ => by kernel_rfl, ?_⟩
  rintro k ⟨⟨⟨⟩, x1, ⟨⟩, ⟨⟩, x2, x3, ⟨⟩⟩, ⟨⟨⟨⟩, ⟨⟩⟩, x4, x5, x6, ⟨⟩⟩⟩
  kernel_rfl
theorem deps_Graph_Used_ok {S : Nat → Addr} (ok : CfgOk P CC S) : ∀ n, SpecOk P CC S 14 ⟨deps_Graph_Used_ins, deps_Graph_Used_outs, deps_Graph_Used n⟩ :=
  fn_all ok (O := deps_Graph_Used_O) (H := deps_Graph_Used_H) (fn := Tryd.f14) (body := b14) (by kernel_rfl) (by kernel_rfl) (by kernel_rfl) (by decide) (by kernel_rfl)
    (fun x => by kernel_rfl) (fun n => by
      rintro ⟨⟨⟨⟩, x1, ⟨⟩⟩, ⟨⟨⟨⟩, ⟨⟩⟩, x2, ⟨⟩⟩⟩
      kernel_rfl)
    (fun n => obl_of (by kernel_rfl) (by kernel_rfl) (ls (lz) (by kernel_rfl) (deps_Graph_Used_l3_k0 n)) (cn (cn (cn (cn (cn (cn (cn (cn (cn (cn (cz) (by kernel_rfl)) (by kernel_rfl)) (by kernel_rfl)) (by kernel_rfl)) (by kernel_rfl)) (by kernel_rfl)) (by kernel_rfl)) (by kernel_rfl)) (by kernel_rfl)) (by kernel_rfl)) (hn fun _ => rfl))
    (fun n ih => asc_cons (slices_Contains_string_string_2_ok ok n) <| asc_cons (deps_Graph_Names_ok ok n) <| asc_nil)
/-! ### pendulum/pendulumref.Among -/
abbrev ref_Among_2_ins : Sh := ⟨[(.one (.arr 0)), (.one (.val .str))], [(.arr 9 .str)]⟩
abbrev ref_Among_2_outs : List Sh := [⟨[(.one (.val (.int .i64)))], [(.arr 9 .str)]⟩]
abbrev ref_Among_2_l2_h : Sh := ⟨[(.one (.arr 0)), (.one (.val .str)), (.one (.val (.int .i64)))], [(.arr 9 .str)]⟩
abbrev ref_Among_2_l2_o : List Out := [⟨(.exit 0), [], ⟨[], [(.arr 9 .str)]⟩⟩, ⟨.ret, [4], ⟨[(.one (.val (.int .i64)))], [(.arr 9 .str)]⟩⟩]
def ref_Among_2_l2 (n : Nat) : Nat → ref_Among_2_l2_h.T → Option (OutT ref_Among_2_l2_o)
  | 0, _ => none
  | k + 1, ((_, x1, x2, _), (l3, _)) =>
    if decide (x2 < (l3.length : Int)) then
      if 0 ≤ x2 ∧ x2 < (l3.length : Int) then (
        if strEq (rdT (.str : Ty) l3 x2) x1 then
          some (.inr (.inl ((x2, ()), (l3, ()))))
        else
          let v4 : Int := IntKind.i64.wrap (x2 + 1)
          ref_Among_2_l2 n k (((), x1, v4, ()), (l3, ()))) else none
    else
      some (.inl ((), (l3, ())))
def ref_Among_2 : Nat → ref_Among_2_ins.T → Option (OutsT ref_Among_2_outs)
  | 0, _ => none
  | n + 1, ((_, x1, _), (l2, _)) =>
    match ref_Among_2_l2 n n (((), x1, 0, ()), (l2, ())) with
    | some (.inl (_, (l3, _))) => (
      some (((-1), ()), (l3, ())))
    | some (.inr (.inl ((x4, _), (l5, _)))) => (
      some ((x4, ()), (l5, ())))
    | some (.inr (.inr (_))) => none
    | none => none
def ref_Among_2_H (n : Nat) : Hints := ⟨[], fun _ => [], fun k => match k with | 2 => some ⟨[0, 1, 5], ref_Among_2_l2_h, ref_Among_2_l2_o, ref_Among_2_l2 n⟩ | _ => none, fun _ => none, fun _ => none⟩
def ref_Among_2_O (n : Nat) : FuncId → List FSpec := asc []
theorem ref_Among_2_l2_k0 (n : Nat) : LoopOk P CC (ref_Among_2_O n) n 1 19 (ref_Among_2_H n) ⟨[0, 1, 5], ref_Among_2_l2_h, ref_Among_2_l2_o, ref_Among_2_l2 n⟩ ((loopsOf b16).getD 0 .skip) := by
  refine ⟨fun _ => by kernel_rfl, ?_⟩
  rintro k ⟨⟨⟨⟩, x1, x2, ⟨⟩⟩, ⟨x3, ⟨⟩⟩⟩
  kernel_rfl
theorem ref_Among_2_ok {S : Nat → Addr} (ok : CfgOk P CC S) : ∀ n, SpecOk P CC S 16 ⟨ref_Among_2_ins, ref_Among_2_outs, ref_Among_2 n⟩ :=
  fn_all ok (O := ref_Among_2_O) (H := ref_Among_2_H) (fn := Tryd.f16) (body := b16) (by kernel_rfl) (by kernel_rfl) (by kernel_rfl) (by decide) (by kernel_rfl)
    (fun x => by kernel_rfl) (fun n => by
      rintro ⟨⟨⟨⟩, x1, ⟨⟩⟩, ⟨x2, ⟨⟩⟩⟩
      kernel_rfl)
    (fun n => obl_of (by kernel_rfl) (by kernel_rfl) (ls (lz) (by kernel_rfl) (ref_Among_2_l2_k0 n)) (cn (cn (cn (cn (cn (cn (cn (cn (cn (cz) (by kernel_rfl)) (by kernel_rfl)) (by kernel_rfl)) (by kernel_rfl)) (by kernel_rfl)) (by kernel_rfl)) (by kernel_rfl)) (by kernel_rfl)) (by kernel_rfl)) (hn fun _ => rfl))
    (fun n ih => asc_nil)
/-! ### (*pendulum/deps.Graph).Depth -/
abbrev deps_Graph_Depth_ins : Sh := ⟨[(.one (.ptr 0 0)), (.one (.val .str))], [(.obj 55 [(.map 1)]), (.map .str ty13 false)]⟩
abbrev deps_Graph_Depth_outs : List Sh := [⟨[(.one (.val (.int .i64)))], [(.obj 55 [(.map 1)]), (.map .str ty13 false)]⟩]
abbrev deps_Graph_Depth_l9_h : Sh := ⟨[(.one (.ptr 0 0)), (.one (.val .str)), (.one (.map 2)), (.one (.val .str)), (.one (.arr 3)), (.one (.val (.int .i64))), (.one (.val (.int .i64))), (.one (.val ty13)), (.one (.val (.int .i64))), (.one (.val (.int .i64)))], [(.obj 55 [(.map 1)]), (.map .str ty13 false), (.map .str (.int .i64) false), (.arr 9 .str)]⟩
abbrev deps_Graph_Depth_l9_o : List Out := [⟨(.exit 2), [0, 1, 7, 9, 21, 22, 23], ⟨[(.one (.ptr 0 0)), (.one (.val .str)), (.one (.map 2)), (.one (.val .str)), (.one (.arr 3)), (.one (.val (.int .i64))), (.one (.val (.int .i64)))], [(.obj 55 [(.map 1)]), (.map .str ty13 false), (.map .str (.int .i64) false), (.arr 9 .str)]⟩⟩]
def deps_Graph_Depth_l9 (n : Nat) : Nat → deps_Graph_Depth_l9_h.T → Option (OutT deps_Graph_Depth_l9_o)
  | 0, _ => none
  | k + 1, ((_, x1, _, x2, _, x3, x4, x5, x6, x7, _), ((_, _), m8, m9, l10, _)) =>
    if decide (x7 < x6) then
      if 0 ≤ x7 ∧ x7 < (x5.length : Int) then (
        let v11 : Int := (mfind (keyEq (.str : Ty)) x2 m9).getD 0
        let v12 : Int := (mfind (keyEq (.str : Ty)) (rdT (.str : Ty) x5 x7) m9).getD 0
        let v13 : Int := IntKind.i64.wrap (x7 + 1)
        deps_Graph_Depth_l9 n k (((), x1, (), x2, (), x3, x4, x5, x6, v13, ()), (((), ()), m8, mset (keyEq (.str : Ty)) x2 (mx v11 v12) m9, l10, ()))) else none
    else
      some (.inl (((), x1, (), x2, (), x3, x4, ()), (((), ()), m8, m9, l10, ())))
abbrev deps_Graph_Depth_l6_h : Sh := ⟨[(.one (.ptr 0 0)), (.one (.val .str)), (.one (.map 2)), (.one (.arr 3)), (.one (.val (.int .i64))), (.one (.val (.int .i64)))], [(.obj 55 [(.map 1)]), (.map .str ty13 false), (.map .str (.int .i64) false), (.arr 9 .str)]⟩
abbrev deps_Graph_Depth_l6_o : List Out := [⟨(.exit 0), [1, 7], ⟨[(.one (.val .str)), (.one (.map 2))], [(.obj 55 [(.map 1)]), (.map .str ty13 false), (.map .str (.int .i64) false)]⟩⟩]
def deps_Graph_Depth_l6 (n : Nat) : Nat → deps_Graph_Depth_l6_h.T → Option (OutT deps_Graph_Depth_l6_o)
  | 0, _ => none
  | k + 1, ((_, x1, _, _, x2, x3, _), ((_, _), m4, m5, l6, _)) =>
    if decide (x3 < x2) then
      if 0 ≤ x3 ∧ x3 < (l6.length : Int) then (
        let v7 : List ByteArray := (mfind (keyEq (.str : Ty)) (rdT (.str : Ty) l6 x3) m4).getD []
        match deps_Graph_Depth_l9 n n (((), x1, (), rdT (.str : Ty) l6 x3, (), x2, x3, v7, (v7.length : Int), 0, ()), (((), ()), m4, m5, l6, ())) with
        | some (.inl ((_, x8, _, x9, _, x10, x11, _), ((_, _), m12, m13, l14, _))) => (
          let v15 : Int := (mfind (keyEq (.str : Ty)) x9 m13).getD 0
          let v16 : Int := IntKind.i64.wrap (v15 + 1)
          let v17 : Int := IntKind.i64.wrap (x11 + 1)
          deps_Graph_Depth_l6 n k (((), x8, (), (), x10, v17, ()), (((), ()), m12, mset (keyEq (.str : Ty)) x9 v16 m13, l14, ())))
        | some (.inr (_)) => none
        | none => none) else none
    else
      some (.inl ((x1, (), ()), (((), ()), m4, m5, ())))
def deps_Graph_Depth : Nat → deps_Graph_Depth_ins.T → Option (OutsT deps_Graph_Depth_outs)
  | 0, _ => none
  | n + 1, ((_, x1, _), ((_, _), m2, _)) =>
    match deps_Graph_All n (((), x1, ()), (((), ()), m2, ())) with
    | some ((((_, _), (x3, _), _), _), ((_, _), m4, l5, _)) => (
      if !(errNil x3) then
        some ((0, ()), (((), ()), m4, ()))
      else
        match deps_Graph_Depth_l6 n n (((), x1, (), (), (l5.length : Int), 0, ()), (((), ()), m4, [], l5, ())) with
        | some (.inl ((x6, _, _), ((_, _), m7, m8, _))) => (
          let v9 : Int := (mfind (keyEq (.str : Ty)) x6 m8).getD 0
          some ((v9, ()), (((), ()), m7, ())))
        | some (.inr (_)) => none
        | none => none)
    | none => none
def deps_Graph_Depth_H (n : Nat) : Hints := ⟨[], fun _ => [], fun k => match k with | 9 => some ⟨[0, 1, 7, 9, 21, 22, 23, 32, 33, 34], deps_Graph_Depth_l9_h, deps_Graph_Depth_l9_o, deps_Graph_Depth_l9 n⟩ | 6 => some ⟨[0, 1, 7, 21, 22, 23], deps_Graph_Depth_l6_h, deps_Graph_Depth_l6_o, deps_Graph_Depth_l6 n⟩ | _ => none, fun _ => none, fun _ => none⟩
def deps_Graph_Depth_O (n : Nat) : FuncId → List FSpec := asc [(10, ⟨deps_Graph_All_ins, deps_Graph_All_outs, deps_Graph_All n⟩)]
def b11 : Code := bodyOf Tryd.f11
theorem deps_Graph_Depth_l6_k0 (n : Nat) : LoopOk P CC (deps_Graph_Depth_O n) n 2 56 (deps_Graph_Depth_H n) ⟨[0, 1, 7, 21, 22, 23], deps_Graph_Depth_l6_h, deps_Graph_Depth_l6_o, deps_Graph_Depth_l6 n⟩ ((loopsOf b11).getD 0 .skip) := by
  refine ⟨fun _ => by kernel_rfl, ?_⟩
  rintro k ⟨⟨⟨⟩, x1, ⟨⟩, ⟨⟩, x2, x3, ⟨⟩⟩, ⟨⟨⟨⟩, ⟨⟩⟩, x4, x5, x6, ⟨⟩⟩⟩
  kernel_rfl
theorem deps_Graph_Depth_l9_k1 (n : Nat) : LoopOk P CC (deps_Graph_Depth_O n) n 2 56 (deps_Graph_Depth_H n) ⟨[0, 1, 7, 9, 21, 22, 23, 32, 33, 34], deps_Graph_Depth_l9_h, deps_Graph_Depth_l9_o, deps_Graph_Depth_l9 n⟩ ((loopsOf b11).getD 1 .skip) := by
  refine ⟨fun _ => by kernel_rfl, ?_⟩
  rintro k ⟨⟨⟨⟩, x1, ⟨⟩, x2, ⟨⟩, x3, x4, x5, x6, x7, ⟨⟩⟩, ⟨⟨⟨⟩, ⟨⟩⟩, x8, x9, x10, ⟨⟩⟩⟩
  kernel_rfl
theorem deps_Graph_Depth_ok {S : Nat → Addr} (ok : CfgOk P CC S) : ∀ n, SpecOk P CC S 11 ⟨deps_Graph_Depth_ins, deps_Graph_Depth_outs, deps_Graph_Depth n⟩ :=
  fn_all ok (O := deps_Graph_Depth_O) (H := deps_Graph_Depth_H) (fn := Tryd.f11) (body := b11) (by kernel_rfl) (by kernel_rfl) (by kernel_rfl) (by decide) (by kernel_rfl)
    (fun x => by kernel_rfl) (fun n => by
      rintro ⟨⟨⟨⟩, x1, ⟨⟩⟩, ⟨⟨⟨⟩, ⟨⟩⟩, x2, ⟨⟩⟩⟩
      kernel_rfl)
    (fun n => obl_of (by kernel_rfl) (by kernel_rfl) (ls (ls (lz) (by kernel_rfl) (deps_Graph_Depth_l6_k0 n)) (by kernel_rfl) (deps_Graph_Depth_l9_k1 n)) (cn (cn (cn (cn (cn (cn (cn (cn (cn (cn (cn (cn (cn (cn (cn (cn (cn (cn (cn (cz) (by kernel_rfl)) (by kernel_rfl)) (by kernel_rfl)) (by kernel_rfl)) (by kernel_rfl)) (by kernel_rfl)) (by kernel_rfl)) (by kernel_rfl)) (by kernel_rfl)) (by kernel_rfl)) (by kernel_rfl)) (by kernel_rfl)) (by kernel_rfl)) (by kernel_rfl)) (by kernel_rfl)) (by kernel_rfl)) (by kernel_rfl)) (by kernel_rfl)) (by kernel_rfl)) (hn fun _ => rfl))
    (fun n ih => asc_cons (deps_Graph_All_ok ok n) <| asc_nil)
/-! ### pendulum/pendulumlaw24.DepsFits -/
abbrev law24_DepsFits_ins : Sh := ⟨[(.one (.val (.int .i64))), (.one (.val ty22))], []⟩
abbrev law24_DepsFits_outs : List Sh := [⟨[(.one (.val .bool))], []⟩]
abbrev law24_DepsFits_l13_h : Sh := ⟨[(.one (.val (.int .i64))), (.one (.val ty22)), (.one (.arr 0)), (.one (.val (.int .i64))), (.one (.ptr 1 0)), (.one (.val (.int .i64)))], [(.arr 35 ty0), (.obj 35 [(.val .str), (.emp true), (.emp true), (.emp true), (.arr 2)]), (.arr 31 ty11)]⟩
abbrev law24_DepsFits_l13_o : List Out := [⟨(.exit 2), [0, 1, 6, 7, 8], ⟨[(.one (.val (.int .i64))), (.one (.val ty22)), (.one (.arr 0)), (.one (.val (.int .i64))), (.one (.ptr 1 0))], [(.arr 35 ty0), (.obj 35 [(.val .str), (.emp true), (.emp true), (.emp true), (.arr 2)]), (.arr 31 ty11)]⟩⟩]
def law24_DepsFits_l13 (n : Nat) : Nat → law24_DepsFits_l13_h.T → Option (OutT law24_DepsFits_l13_o)
  | 0, _ => none
  | k + 1, ((x1, x2, _, x3, _, x4, _), (l5, (x6, _, _, _, _, _), l7, _)) =>
    if decide (x4 < x1) then
      if decide (x3 < (x2.length : Int)) then
        if 0 ≤ x3 ∧ x3 < (x2.length : Int) then (
          let v8 : Int := rdT ((.int .i64) : Ty) x2 x3
          if IntKind.u64.wrap x4 < 0 then
            none
          else
            let v9 : Int := shrOp .i64 v8 (IntKind.u64.wrap x4)
            if bitsOp .and .i64 v9 1 == 1 then
              match world_Num n ((x4, ()), ()) with
              | some ((x10, _), _) => (
                if (⟨#[110]⟩ : ByteArray).size + x10.size ≤ 9223372036854775807 then (
                  if (l7.length + ([(0, ([], ((0, (0, (0, ((⟨#[]⟩ : ByteArray), [])))), ((⟨#[110]⟩ : ByteArray) ++ x10, ([], (⟨#[]⟩ : ByteArray))))))] : List ty11.T).length) * 152 ≤ 140737488355328 then (
                    let v11 : Int := IntKind.i64.wrap (x4 + 1)
                    law24_DepsFits_l13 n k ((x1, x2, (), x3, (), v11, ()), (l5, (x6, (), (), (), (), ()), l7 ++ [(0, ([], ((0, (0, (0, ((⟨#[]⟩ : ByteArray), [])))), ((⟨#[110]⟩ : ByteArray) ++ x10, ([], (⟨#[]⟩ : ByteArray))))))], ()))) else none) else none)
              | none => none
            else
              let v12 : Int := IntKind.i64.wrap (x4 + 1)
              law24_DepsFits_l13 n k ((x1, x2, (), x3, (), v12, ()), (l5, (x6, (), (), (), (), ()), l7, ()))) else none
      else
        let v13 : Int := IntKind.i64.wrap (x4 + 1)
        law24_DepsFits_l13 n k ((x1, x2, (), x3, (), v13, ()), (l5, (x6, (), (), (), (), ()), l7, ()))
    else
      some (.inl ((x1, x2, (), x3, (), ()), (l5, (x6, (), (), (), (), ()), l7, ())))
abbrev law24_DepsFits_l9_h : Sh := ⟨[(.one (.val (.int .i64))), (.one (.val ty22)), (.one (.arr 0)), (.one (.val (.int .i64)))], [(.arr 35 ty0)]⟩
abbrev law24_DepsFits_l9_o : List Out := [⟨(.exit 0), [6], ⟨[(.one (.arr 0))], [(.arr 35 ty0)]⟩⟩]
def law24_DepsFits_l9 (n : Nat) : Nat → law24_DepsFits_l9_h.T → Option (OutT law24_DepsFits_l9_o)
  | 0, _ => none
  | k + 1, ((x1, x2, _, x3, _), (l4, _)) =>
    if decide (x3 < x1) then
      match world_Num n ((x3, ()), ()) with
      | some ((x5, _), _) => (
        if (⟨#[110]⟩ : ByteArray).size + x5.size ≤ 9223372036854775807 then (
          let v6 : Int := IntKind.i64.wrap (x3 + 1)
          match law24_DepsFits_l13 n n ((x1, x2, (), x3, (), v6, ()), (l4, ((⟨#[110]⟩ : ByteArray) ++ x5, (), (), (), (), ()), [], ())) with
          | some (.inl ((x7, x8, _, x9, _, _), (l10, (x11, _, _, _, _, _), l12, _))) => (
            if (l10.length + ([(x11, ([], ([], ([], l12))))] : List ty0.T).length) * 112 ≤ 140737488355328 then (
              let v13 : Int := IntKind.i64.wrap (x9 + 1)
              law24_DepsFits_l9 n k ((x7, x8, (), v13, ()), (l10 ++ [(x11, ([], ([], ([], l12))))], ()))) else none)
          | some (.inr (_)) => none
          | none => none) else none)
      | none => none
    else
      some (.inl (((), ()), (l4, ())))
abbrev law24_DepsFits_l29_h : Sh := ⟨[(.one (.ptr 0 0)), (.one (.val ty13)), (.one (.val (.int .i64))), (.one (.arr 1)), (.one (.val (.int .i64)))], [(.obj 55 [(.map 2)]), (.arr 9 .str), (.map .str ty13 false)]⟩
abbrev law24_DepsFits_l29_o : List Out := [⟨(.exit 6), [10, 12, 14], ⟨[(.one (.ptr 0 0)), (.one (.val ty13)), (.one (.val (.int .i64)))], [(.obj 55 [(.map 1)]), (.map .str ty13 false)]⟩⟩, ⟨.ret, [4], ⟨[(.one (.val .bool))], []⟩⟩]
def law24_DepsFits_l29 (n : Nat) : Nat → law24_DepsFits_l29_h.T → Option (OutT law24_DepsFits_l29_o)
  | 0, _ => none
  | k + 1, ((_, x1, x2, _, x3, _), ((_, _), l4, m5, _)) =>
    if decide (x3 < (l4.length : Int)) then
      if 0 ≤ x2 ∧ x2 ≤ (x1.length : Int) then (
        if 0 ≤ x3 ∧ x3 < (l4.length : Int) then (
          match ref_Among n ((cutL x1 0 x2, rdT (.str : Ty) l4 x3, ()), ()) with
          | some ((x6, _), _) => (
            if decide (x6 < 0) then
              some (.inr (.inl ((false, ()), ())))
            else
              if 0 ≤ x3 ∧ x3 < (l4.length : Int) then (
                match deps_Graph_Used n (((), rdT (.str : Ty) l4 x3, ()), (((), ()), m5, ())) with
                | some ((_, _), ((_, _), m7, l8, _)) => (
                  if 0 ≤ x2 ∧ x2 < (x1.length : Int) then (
                    match ref_Among_2 n (((), rdT (.str : Ty) x1 x2, ()), (l8, ())) with
                    | some ((x9, _), (l10, _)) => (
                      if decide (x9 < 0) then
                        some (.inr (.inl ((false, ()), ())))
                      else
                        let v11 : Int := IntKind.i64.wrap (x3 + 1)
                        law24_DepsFits_l29 n k (((), x1, x2, (), v11, ()), (((), ()), l4, m7, ())))
                    | none => none) else none)
                | none => none) else none)
          | none => none) else none) else none
    else
      some (.inl (((), x1, x2, ()), (((), ()), m5, ())))
abbrev law24_DepsFits_l25_h : Sh := ⟨[(.one (.ptr 0 0)), (.one (.val ty13)), (.one (.val (.int .i64)))], [(.obj 55 [(.map 1)]), (.map .str ty13 false)]⟩
abbrev law24_DepsFits_l25_o : List Out := [⟨(.exit 4), [10, 12], ⟨[(.one (.ptr 0 0)), (.one (.val ty13))], [(.obj 55 [(.map 1)]), (.map .str ty13 false)]⟩⟩, ⟨.ret, [4], ⟨[(.one (.val .bool))], []⟩⟩]
def law24_DepsFits_l25 (n : Nat) : Nat → law24_DepsFits_l25_h.T → Option (OutT law24_DepsFits_l25_o)
  | 0, _ => none
  | k + 1, ((_, x1, x2, _), ((_, _), m3, _)) =>
    if decide (x2 < (x1.length : Int)) then
      if 0 ≤ x2 ∧ x2 < (x1.length : Int) then (
        match deps_Graph_Uses n (((), rdT (.str : Ty) x1 x2, ()), (((), ()), m3, ())) with
        | some ((_, _), ((_, _), m4, l5, _)) => (
          match law24_DepsFits_l29 n n (((), x1, x2, (), 0, ()), (((), ()), l5, m4, ())) with
          | some (.inl ((_, x6, x7, _), ((_, _), m8, _))) => (
            if 0 ≤ x7 ∧ x7 ≤ (x6.length : Int) then (
              if 0 ≤ x7 ∧ x7 < (x6.length : Int) then (
                match ref_Among n ((cutL x6 0 x7, rdT (.str : Ty) x6 x7, ()), ()) with
                | some ((x10, _), _) => (
                  if decide (x10 ≥ 0) then
                    some (.inr (.inl ((false, ()), ())))
                  else
                    let v11 : Int := IntKind.i64.wrap (x7 + 1)
                    law24_DepsFits_l25 n k (((), x6, v11, ()), (((), ()), m8, ())))
                | none => none) else none) else none)
          | some (.inr (.inl ((x9, _), _))) => (
            some (.inr (.inl ((x9, ()), ()))))
          | some (.inr (.inr (_))) => none
          | none => none)
        | none => none) else none
    else
      some (.inl (((), x1, ()), (((), ()), m3, ())))
def law24_DepsFits : Nat → law24_DepsFits_ins.T → Option (OutsT law24_DepsFits_outs)
  | 0, _ => none
  | n + 1, ((x1, x2, _), _) =>
    match law24_first n ((), ()) with
    | some ((x3, _), _) => (
      if !x3 then
        some ((false, ()), ())
      else
        match world_Number n ((x1, 16, ()), ()) with
        | some ((x4, _), _) => (
          let v5 : Int := IntKind.i64.wrap (x4 + 1)
          if decide ((x2.length : Int) > 16) then
            some ((x3, ()), ())
          else
            if !x3 then
              some ((x3, ()), ())
            else
              match law24_DepsFits_l9 n n ((v5, x2, (), 0, ()), ([], ())) with
              | some (.inl ((_, _), (l6, _))) => (
                match deps_New n (((), ()), (l6, ())) with
                | some (.inl ((((_, _), (x7, _), _), _), (l8, (_, _), m9, _))) => (
                  if !(errNil x7) then
                    some ((false, ()), ())
                  else
                    match deps_Graph_All n (((), (⟨#[110, 48]⟩ : ByteArray), ()), (((), ()), m9, ())) with
                    | some ((((_, _), (x12, _), _), _), ((_, _), m13, l14, _)) => (
                      if !(errNil x12) then
                        some ((false, ()), ())
                      else
                        if (l14.length : Int) == 0 then
                          some ((false, ()), ())
                        else
                          let v15 : Int := IntKind.i64.wrap ((l14.length : Int) - 1)
                          if 0 ≤ v15 ∧ v15 < (l14.length : Int) then (
                            if !strEq (rdT (.str : Ty) l14 v15) (⟨#[110, 48]⟩ : ByteArray) then
                              some ((false, ()), ())
                            else
                              match law24_DepsFits_l25 n n (((), l14, 0, ()), (((), ()), m13, ())) with
                              | some (.inl ((_, x16, _), ((_, _), m17, _))) => (
                                match deps_Graph_Depth n (((), (⟨#[110, 48]⟩ : ByteArray), ()), (((), ()), m17, ())) with
                                | some ((x19, _), ((_, _), m20, _)) => (
                                  some ((decide (x19 ≤ (x16.length : Int)), ()), ()))
                                | none => none)
                              | some (.inr (.inl ((x18, _), _))) => (
                                some ((x18, ()), ()))
                              | some (.inr (.inr (_))) => none
                              | none => none) else none)
                    | none => none)
                | some (.inr (((((_, _), (x10, _), _), _), (l11, _)))) => (
                  some ((false, ()), ()))
                | none => none)
              | some (.inr (_)) => none
              | none => none)
        | none => none)
    | none => none
def law24_DepsFits_H (n : Nat) : Hints := ⟨[], fun k => match k with | 31 => [12] | _ => [], fun k => match k with | 13 => some ⟨[0, 1, 6, 7, 8, 9], law24_DepsFits_l13_h, law24_DepsFits_l13_o, law24_DepsFits_l13 n⟩ | 9 => some ⟨[0, 1, 6, 7], law24_DepsFits_l9_h, law24_DepsFits_l9_o, law24_DepsFits_l9 n⟩ | 29 => some ⟨[10, 12, 14, 15, 16], law24_DepsFits_l29_h, law24_DepsFits_l29_o, law24_DepsFits_l29 n⟩ | 25 => some ⟨[10, 12, 14], law24_DepsFits_l25_h, law24_DepsFits_l25_o, law24_DepsFits_l25 n⟩ | _ => none, fun _ => none, fun _ => none⟩
def law24_DepsFits_O (n : Nat) : FuncId → List FSpec := asc [(6, ⟨law24_first_ins, law24_first_outs, law24_first n⟩), (7, ⟨world_Number_ins, world_Number_outs, world_Number n⟩), (8, ⟨world_Num_ins, world_Num_outs, world_Num n⟩), (9, ⟨deps_New_ins, deps_New_outs, deps_New n⟩), (10, ⟨deps_Graph_All_ins, deps_Graph_All_outs, deps_Graph_All n⟩), (11, ⟨deps_Graph_Depth_ins, deps_Graph_Depth_outs, deps_Graph_Depth n⟩), (14, ⟨deps_Graph_Used_ins, deps_Graph_Used_outs, deps_Graph_Used n⟩), (15, ⟨deps_Graph_Uses_ins, deps_Graph_Uses_outs, deps_Graph_Uses n⟩), (16, ⟨ref_Among_2_ins, ref_Among_2_outs, ref_Among_2 n⟩), (16, ⟨ref_Among_ins, ref_Among_outs, ref_Among n⟩)]
def b5 : Code := bodyOf Tryd.f5
theorem law24_DepsFits_l9_k0 (n : Nat) : LoopOk P CC (law24_DepsFits_O n) n 0 162 (law24_DepsFits_H n) ⟨[0, 1, 6, 7], law24_DepsFits_l9_h, law24_DepsFits_l9_o, law24_DepsFits_l9 n⟩ ((loopsOf b5).getD 0 .skip) := by
  refine ⟨fun _ => by kernel_rfl, ?_⟩
  rintro k ⟨⟨x1, x2, ⟨⟩, x3, ⟨⟩⟩, ⟨x4, ⟨⟩⟩⟩
  kernel_rfl
theorem law24_DepsFits_l13_k1 (n : Nat) : LoopOk P CC (law24_DepsFits_O n) n 0 162 (law24_DepsFits_H n) ⟨[0, 1, 6, 7, 8, 9], law24_DepsFits_l13_h, law24_DepsFits_l13_o, law24_DepsFits_l13 n⟩ ((loopsOf b5).getD 1 .skip) := by
  refine ⟨fun _ => by kernel_rfl, ?_⟩
  rintro k ⟨⟨x1, x2, ⟨⟩, x3, ⟨⟩, x4, ⟨⟩⟩, ⟨x5, ⟨x6, ⟨⟩, ⟨⟩, ⟨⟩, ⟨⟩, ⟨⟩⟩, x7, ⟨⟩⟩⟩
  kernel_rfl
theorem law24_DepsFits_l25_k2 (n : Nat) : LoopOk P CC (law24_DepsFits_O n) n 0 162 (law24_DepsFits_H n) ⟨[10, 12, 14], law24_DepsFits_l25_h, law24_DepsFits_l25_o, law24_DepsFits_l25 n⟩ ((loopsOf b5).getD 2 .skip) := by
  refine ⟨fun _ => by kernel_rfl, ?_⟩
  rintro k ⟨⟨⟨⟩, x1, x2, ⟨⟩⟩, ⟨⟨⟨⟩, ⟨⟩⟩, x3, ⟨⟩⟩⟩
  kernel_rfl
theorem law24_DepsFits_l29_k3 (n : Nat) : LoopOk P CC (law24_DepsFits_O n) n 0 162 (law24_DepsFits_H n) ⟨[10, 12, 14, 15, 16], law24_DepsFits_l29_h, law24_DepsFits_l29_o, law24_DepsFits_l29 n⟩ ((loopsOf b5).getD 3 .skip) := by
  refine ⟨fun _ => by kernel_rfl, ?_⟩
  rintro k ⟨⟨⟨⟩, x1, x2, ⟨⟩, x3, ⟨⟩⟩, ⟨⟨⟨⟩, ⟨⟩⟩, x4, x5, ⟨⟩⟩⟩
  kernel_rfl
theorem law24_DepsFits_ok {S : Nat → Addr} (ok : CfgOk P CC S) : ∀ n, SpecOk P CC S 5 ⟨law24_DepsFits_ins, law24_DepsFits_outs, law24_DepsFits n⟩ :=
  fn_all ok (O := law24_DepsFits_O) (H := law24_DepsFits_H) (fn := Tryd.f5) (body := b5) (by kernel_rfl) (by kernel_rfl) (by kernel_rfl) (by decide) (by kernel_rfl)
    (fun x => by kernel_rfl) (fun n => by
      rintro ⟨⟨x1, x2, ⟨⟩⟩, ⟨⟩⟩
      kernel_rfl)
    (fun n => obl_of (by kernel_rfl) (by kernel_rfl) (ls (ls (ls (ls (lz) (by kernel_rfl) (law24_DepsFits_l9_k0 n)) (by kernel_rfl) (law24_DepsFits_l13_k1 n)) (by kernel_rfl) (law24_DepsFits_l25_k2 n)) (by kernel_rfl) (law24_DepsFits_l29_k3 n)) (cn (cn (cn (cn (cn (cn (cn (cn (cn (cn (cn (cn (cn (cn (cn (cn (cn (cn (cn (cn (cn (cn (cn (cn (cn (cn (cn (cn (cn (cn (cn (cn (cn (cn (cn (cn (cn (cn (cn (cn (cn (cn (cn (cn (cn (cn (cz) (by kernel_rfl)) (by kernel_rfl)) (by kernel_rfl)) (by kernel_rfl)) (by kernel_rfl)) (by kernel_rfl)) (by kernel_rfl)) (by kernel_rfl)) (by kernel_rfl)) (by kernel_rfl)) (by kernel_rfl)) (by kernel_rfl)) (by kernel_rfl)) (by kernel_rfl)) (by kernel_rfl)) (by kernel_rfl)) (by kernel_rfl)) (by kernel_rfl)) (by kernel_rfl)) (by kernel_rfl)) (by kernel_rfl)) (by kernel_rfl)) (by kernel_rfl)) (by kernel_rfl)) (by kernel_rfl)) (by kernel_rfl)) (by kernel_rfl)) (by kernel_rfl)) (by kernel_rfl)) (by kernel_rfl)) (by kernel_rfl)) (by kernel_rfl)) (by kernel_rfl)) (by kernel_rfl)) (by kernel_rfl)) (by kernel_rfl)) (by kernel_rfl)) (by kernel_rfl)) (by kernel_rfl)) (by kernel_rfl)) (by kernel_rfl)) (by kernel_rfl)) (by kernel_rfl)) (by kernel_rfl)) (by kernel_rfl)) (by kernel_rfl)) (hn fun _ => rfl))
    (fun n ih => asc_cons (law24_first_ok ok n) <| asc_cons (world_Number_ok ok n) <| asc_cons (world_Num_ok ok n) <| asc_cons (deps_New_ok ok n) <| asc_cons (deps_Graph_All_ok ok n) <| asc_cons (deps_Graph_Depth_ok ok n) <| asc_cons (deps_Graph_Used_ok ok n) <| asc_cons (deps_Graph_Uses_ok ok n) <| asc_cons (ref_Among_2_ok ok n) <| asc_cons (ref_Among_ok ok n) <| asc_nil)
end
end Go.Proofs.YtkmeghmhgbbmhaaDoor.Cm

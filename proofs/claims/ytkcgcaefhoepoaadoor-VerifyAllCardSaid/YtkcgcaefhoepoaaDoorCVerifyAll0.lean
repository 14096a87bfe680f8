/- Printed by cmtext.py: the code as plain functions. -/
import Derived.Test.YtkcgcaefhoepoaaDoorCmFo
import Derived.Test.YtkcgcaefhoepoaaDoorCmSq
import Derived.Test.YtkcgcaefhoepoaaDoorShelf
import Derived.Test.YtkcgcaefhoepoaaDoorCmFs
import Derived.Test.YtkcgcaefhoepoaaDoorCmUs
namespace Go.Proofs.YtkcgcaefhoepoaaDoor.Cm
open Go
noncomputable section
set_option linter.unusedVariables false
set_option maxRecDepth 100000
abbrev P := Tryd.prog
abbrev CC : Cfg := ⟨167, 89, 93, [(101, 2), (102, 0), (103, 4), (104, 3), (105, 8), (106, 9), (107, 10), (108, 6), (109, 11), (110, 7), (111, 12), (112, 13), (113, 5), (114, 14), (115, 15), (116, 1), (117, 16), (118, 17), (119, 18), (120, 19), (121, 20)], [(21, tabP (fun z => Value.int .u64 z) Lib.pow10Tab)], [], [(34, 5)]⟩
abbrev ty1 : Ty := (.pair (.int .i64) (.int .i64))
abbrev ty0 : Ty := (.pair .str ty1)
abbrev ty2 : Ty := (.pair .str .str)
abbrev ty5 : Ty := (.slice 3 (.int .i64))
abbrev ty4 : Ty := (.pair ty5 ty5)
abbrev ty3 : Ty := (.pair .str ty4)
abbrev ty9 : Ty := (.pair (.int .i64) ty1)
abbrev ty8 : Ty := (.pair (.int .i64) ty9)
abbrev ty7 : Ty := (.pair (.int .i64) ty8)
abbrev ty6 : Ty := (.pair (.int .i64) ty7)
abbrev ty15 : Ty := (.slice 108 ty0)
abbrev ty17 : Ty := (.fl 36 ty2)
abbrev ty18 : Ty := (.slice 27 ty6)
abbrev ty16 : Ty := (.pair ty17 ty18)
abbrev ty14 : Ty := (.pair ty15 ty16)
abbrev ty13 : Ty := (.pair (.int .i64) ty14)
abbrev ty12 : Ty := (.pair ty5 ty13)
abbrev ty11 : Ty := (.pair ty5 ty12)
abbrev ty10 : Ty := (.pair .str ty11)
abbrev ty19 : Ty := (.slice 9 .str)
abbrev ty20 : Ty := (.slice 36 ty2)
abbrev ty21 : Ty := (.slice 56 ty3)
abbrev ty22 : Ty := (.slice 34 ty10)
/-! ### pendulum/pendulumlaw22.end -/
abbrev law22_end_ins : Sh := ⟨[], []⟩
abbrev law22_end_outs : List Sh := [⟨[(.agg [(.val (.int .i64)), (.val (.int .i64)), (.val (.int .i64)), (.val (.int .i64)), (.val (.int .i64)), (.val (.int .i64))])], []⟩]
def law22_end : Nat → law22_end_ins.T → Option (OutsT law22_end_outs)
  | 0, _ => none
  | n + 1, (_, _) =>
    some (((12, 0, 0, 0, 0, 0, ()), ()), ())
def law22_end_H (n : Nat) : Hints := ⟨[], fun _ => [], fun _ => none, fun _ => none, fun _ => none⟩
def law22_end_O (n : Nat) : FuncId → List FSpec := asc []
def b7 : Code := bodyOf Tryd.f7
theorem law22_end_ok {S : Nat → Addr} (ok : CfgOk P CC S) : ∀ n, SpecOk P CC S 7 ⟨law22_end_ins, law22_end_outs, law22_end n⟩ :=
  fn_all ok (O := law22_end_O) (H := law22_end_H) (fn := Tryd.f7) (body := b7) (by kernel_rfl) (by kernel_rfl) (by kernel_rfl) (by decide) (by kernel_rfl)
    (fun x => by kernel_rfl) (fun n => by
      rintro ⟨⟨⟩, ⟨⟩⟩
      kernel_rfl)
    (fun n => obl_of (by kernel_rfl) (by kernel_rfl) (lz) (cn (cn (cz) (by kernel_rfl)) (by kernel_rfl)) (hn fun _ => rfl))
    (fun n ih => asc_nil)
/-! ### pendulum/verify.kind -/
abbrev verify_kind_ins : Sh := ⟨[(.one (.val (.int .i64)))], []⟩
abbrev verify_kind_outs : List Sh := [⟨[(.one (.val .bool))], []⟩]
def verify_kind : Nat → verify_kind_ins.T → Option (OutsT verify_kind_outs)
  | 0, _ => none
  | n + 1, ((x1, _), _) =>
    if x1 != 1 then
      some ((x1 != 2, ()), ())
    else
      some ((false, ()), ())
def verify_kind_H (n : Nat) : Hints := ⟨[], fun _ => [], fun _ => none, fun _ => none, fun _ => none⟩
def verify_kind_O (n : Nat) : FuncId → List FSpec := asc []
def b47 : Code := bodyOf Tryd.f47
theorem verify_kind_ok {S : Nat → Addr} (ok : CfgOk P CC S) : ∀ n, SpecOk P CC S 47 ⟨verify_kind_ins, verify_kind_outs, verify_kind n⟩ :=
  fn_all ok (O := verify_kind_O) (H := verify_kind_H) (fn := Tryd.f47) (body := b47) (by kernel_rfl) (by kernel_rfl) (by kernel_rfl) (by decide) (by kernel_rfl)
    (fun x => by kernel_rfl) (fun n => by
      rintro ⟨⟨x1, ⟨⟩⟩, ⟨⟩⟩
      kernel_rfl)
    (fun n => obl_of (by kernel_rfl) (by kernel_rfl) (lz) (cn (cn (cz) (by kernel_rfl)) (by kernel_rfl)) (hn fun _ => rfl))
    (fun n ih => asc_nil)
/-! ### slices.IndexFunc[[]int,int] -/
abbrev slices_IndexFunc_int_int_ins : Sh := ⟨[(.one (.val ty5)), (.one (.fn 47 []))], []⟩
abbrev slices_IndexFunc_int_int_outs : List Sh := [⟨[(.one (.val (.int .i64)))], []⟩]
abbrev slices_IndexFunc_int_int_l2_h : Sh := ⟨[(.one (.val ty5)), (.one (.fn 47 [])), (.one (.val (.int .i64))), (.one (.val (.int .i64)))], []⟩
abbrev slices_IndexFunc_int_int_l2_o : List Out := [⟨(.exit 0), [], ⟨[], []⟩⟩, ⟨.ret, [4], ⟨[(.one (.val (.int .i64)))], []⟩⟩]
def slices_IndexFunc_int_int_l2 (n : Nat) : Nat → slices_IndexFunc_int_int_l2_h.T → Option (OutT slices_IndexFunc_int_int_l2_o)
  | 0, _ => none
  | k + 1, ((x1, _, x2, x3, _), _) =>
    if decide (x3 < x2) then
      if 0 ≤ x3 ∧ x3 < (x1.length : Int) then (
        let v4 : Int := rdT ((.int .i64) : Ty) x1 x3
        match verify_kind n ((v4, ()), ()) with
        | some ((x5, _), _) => (
          if x5 then
            some (.inr (.inl ((x3, ()), ())))
          else
            let v6 : Int := IntKind.i64.wrap (x3 + 1)
            slices_IndexFunc_int_int_l2 n k ((x1, (), x2, v6, ()), ()))
        | none => none) else none
    else
      some (.inl ((), ()))
def slices_IndexFunc_int_int : Nat → slices_IndexFunc_int_int_ins.T → Option (OutsT slices_IndexFunc_int_int_outs)
  | 0, _ => none
  | n + 1, ((x1, _, _), _) =>
    match slices_IndexFunc_int_int_l2 n n ((x1, (), (x1.length : Int), 0, ()), ()) with
    | some (.inl (_, _)) => (
      some (((-1), ()), ()))
    | some (.inr (.inl ((x2, _), _))) => (
      some ((x2, ()), ()))
    | some (.inr (.inr (_))) => none
    | none => none
def slices_IndexFunc_int_int_H (n : Nat) : Hints := ⟨[], fun _ => [], fun k => match k with | 2 => some ⟨[0, 1, 7, 8], slices_IndexFunc_int_int_l2_h, slices_IndexFunc_int_int_l2_o, slices_IndexFunc_int_int_l2 n⟩ | _ => none, fun _ => none, fun _ => none⟩
def slices_IndexFunc_int_int_O (n : Nat) : FuncId → List FSpec := asc [(47, ⟨verify_kind_ins, verify_kind_outs, verify_kind n⟩)]
def b59 : Code := bodyOf Tryd.f59
theorem slices_IndexFunc_int_int_l2_k0 (n : Nat) : LoopOk P CC (slices_IndexFunc_int_int_O n) n 0 19 (slices_IndexFunc_int_int_H n) ⟨[0, 1, 7, 8], slices_IndexFunc_int_int_l2_h, slices_IndexFunc_int_int_l2_o, slices_IndexFunc_int_int_l2 n⟩ ((loopsOf b59).getD 0 .skip) := by
  refine ⟨fun _ => by kernel_rfl, ?_⟩
  rintro k ⟨⟨x1, ⟨⟩, x2, x3, ⟨⟩⟩, ⟨⟩⟩
  kernel_rfl
theorem slices_IndexFunc_int_int_ok {S : Nat → Addr} (ok : CfgOk P CC S) : ∀ n, SpecOk P CC S 59 ⟨slices_IndexFunc_int_int_ins, slices_IndexFunc_int_int_outs, slices_IndexFunc_int_int n⟩ :=
  fn_all ok (O := slices_IndexFunc_int_int_O) (H := slices_IndexFunc_int_int_H) (fn := Tryd.f59) (body := b59) (by kernel_rfl) (by kernel_rfl) (by kernel_rfl) (by decide) (by kernel_rfl)
    (fun x => by kernel_rfl) (fun n => by
      rintro ⟨⟨x1, ⟨⟩, ⟨⟩⟩, ⟨⟩⟩
      kernel_rfl)
    (fun n => obl_of (by kernel_rfl) (by kernel_rfl) (ls (lz) (by kernel_rfl) (slices_IndexFunc_int_int_l2_k0 n)) (cn (cn (cn (cn (cn (cn (cn (cn (cn (cn (cz) (by kernel_rfl)) (by kernel_rfl)) (by kernel_rfl)) (by kernel_rfl)) (by kernel_rfl)) (by kernel_rfl)) (by kernel_rfl)) (by kernel_rfl)) (by kernel_rfl)) (by kernel_rfl)) (hn fun _ => rfl))
    (fun n ih => asc_cons (verify_kind_ok ok n) <| asc_nil)
/-! ### slices.ContainsFunc[[]int,int] -/
abbrev slices_ContainsFunc_int_int_ins : Sh := ⟨[(.one (.val ty5)), (.one (.fn 47 []))], []⟩
abbrev slices_ContainsFunc_int_int_outs : List Sh := [⟨[(.one (.val .bool))], []⟩]
def slices_ContainsFunc_int_int : Nat → slices_ContainsFunc_int_int_ins.T → Option (OutsT slices_ContainsFunc_int_int_outs)
  | 0, _ => none
  | n + 1, ((x1, _, _), _) =>
    match slices_IndexFunc_int_int n ((x1, (), ()), ()) with
    | some ((x2, _), _) => (
      some ((decide (x2 ≥ 0), ()), ()))
    | none => none
def slices_ContainsFunc_int_int_H (n : Nat) : Hints := ⟨[], fun _ => [], fun _ => none, fun _ => none, fun _ => none⟩
def slices_ContainsFunc_int_int_O (n : Nat) : FuncId → List FSpec := asc [(59, ⟨slices_IndexFunc_int_int_ins, slices_IndexFunc_int_int_outs, slices_IndexFunc_int_int n⟩)]
def b46 : Code := bodyOf Tryd.f46
theorem slices_ContainsFunc_int_int_ok {S : Nat → Addr} (ok : CfgOk P CC S) : ∀ n, SpecOk P CC S 46 ⟨slices_ContainsFunc_int_int_ins, slices_ContainsFunc_int_int_outs, slices_ContainsFunc_int_int n⟩ :=
  fn_all ok (O := slices_ContainsFunc_int_int_O) (H := slices_ContainsFunc_int_int_H) (fn := Tryd.f46) (body := b46) (by kernel_rfl) (by kernel_rfl) (by kernel_rfl) (by decide) (by kernel_rfl)
    (fun x => by kernel_rfl) (fun n => by
      rintro ⟨⟨x1, ⟨⟩, ⟨⟩⟩, ⟨⟩⟩
      kernel_rfl)
    (fun n => obl_of (by kernel_rfl) (by kernel_rfl) (lz) (cn (cn (cz) (by kernel_rfl)) (by kernel_rfl)) (hn fun _ => rfl))
    (fun n ih => asc_cons (slices_IndexFunc_int_int_ok ok n) <| asc_nil)
/-! ### slices.Values[[]string,string] -/
abbrev slices_Values_string_string_ins : Sh := ⟨[(.one (.val ty19))], []⟩
abbrev slices_Values_string_string_outs : List Sh := [⟨[(.one (.fn 83 [0]))], [(.obj 50 [(.val ty19)])]⟩]
def slices_Values_string_string : Nat → slices_Values_string_string_ins.T → Option (OutsT slices_Values_string_string_outs)
  | 0, _ => none
  | n + 1, ((x1, _), _) =>
    some (((), ()), ((x1, ()), ()))
def slices_Values_string_string_H (n : Nat) : Hints := ⟨[], fun _ => [], fun _ => none, fun _ => none, fun _ => none⟩
def slices_Values_string_string_O (n : Nat) : FuncId → List FSpec := asc []
def b61 : Code := bodyOf Tryd.f61
theorem slices_Values_string_string_ok {S : Nat → Addr} (ok : CfgOk P CC S) : ∀ n, SpecOk P CC S 61 ⟨slices_Values_string_string_ins, slices_Values_string_string_outs, slices_Values_string_string n⟩ :=
  fn_all ok (O := slices_Values_string_string_O) (H := slices_Values_string_string_H) (fn := Tryd.f61) (body := b61) (by kernel_rfl) (by kernel_rfl) (by kernel_rfl) (by decide) (by kernel_rfl)
    (fun x => by kernel_rfl) (fun n => by
      rintro ⟨⟨x1, ⟨⟩⟩, ⟨⟩⟩
      kernel_rfl)
    (fun n => obl_of (by kernel_rfl) (by kernel_rfl) (lz) (cn (cn (cz) (by kernel_rfl)) (by kernel_rfl)) (hn fun _ => rfl))
    (fun n ih => asc_nil)
/-! ### slices.AppendSeq[[]string,string] (by hand) -/
abbrev slices_AppendSeq_string_ins : Sh := ⟨[(.one (.emp true)), (.one (.fn 83 [0]))], [(.obj 50 [(.val ty19)])]⟩
abbrev slices_AppendSeq_string_outs : List Sh := [⟨[(.one (.arr 1))], [(.obj 50 [(.val ty19)]), (.arr 9 .str)]⟩]
def slices_AppendSeq_string : Nat → slices_AppendSeq_string_ins.T → Option (OutsT slices_AppendSeq_string_outs) := fun _ => apSem 9 50 83
theorem slices_AppendSeq_string_ok {S : Nat → Addr} (ok : CfgOk P CC S) : ∀ n, SpecOk P CC S 95 ⟨slices_AppendSeq_string_ins, slices_AppendSeq_string_outs, slices_AppendSeq_string n⟩ := fun n => apseq_spec ⟨Tryd.f95, by kernel_rfl, by kernel_rfl, by kernel_rfl⟩ Sq.appendSeq_calls
/-! ### slices.Collect[string] -/
abbrev slices_Collect_string_ins : Sh := ⟨[(.one (.fn 83 [0]))], [(.obj 50 [(.val ty19)])]⟩
abbrev slices_Collect_string_outs : List Sh := [⟨[(.one (.arr 1))], [(.obj 50 [(.val ty19)]), (.arr 9 .str)]⟩]
def slices_Collect_string : Nat → slices_Collect_string_ins.T → Option (OutsT slices_Collect_string_outs)
  | 0, _ => none
  | n + 1, ((_, _), ((x1, _), _)) =>
    match slices_AppendSeq_string n (((), (), ()), ((x1, ()), ())) with
    | some ((_, _), ((x2, _), l3, _)) => (
      some (((), ()), ((x2, ()), l3, ())))
    | none => none
def slices_Collect_string_H (n : Nat) : Hints := ⟨[], fun _ => [], fun _ => none, fun _ => none, fun _ => none⟩
def slices_Collect_string_O (n : Nat) : FuncId → List FSpec := asc [(95, ⟨slices_AppendSeq_string_ins, slices_AppendSeq_string_outs, slices_AppendSeq_string n⟩)]
def b82 : Code := bodyOf Tryd.f82
theorem slices_Collect_string_ok {S : Nat → Addr} (ok : CfgOk P CC S) : ∀ n, SpecOk P CC S 82 ⟨slices_Collect_string_ins, slices_Collect_string_outs, slices_Collect_string n⟩ :=
  fn_all ok (O := slices_Collect_string_O) (H := slices_Collect_string_H) (fn := Tryd.f82) (body := b82) (by kernel_rfl) (by kernel_rfl) (by kernel_rfl) (by decide) (by kernel_rfl)
    (fun x => by kernel_rfl) (fun n => by
      rintro ⟨⟨⟨⟩, ⟨⟩⟩, ⟨⟨x1, ⟨⟩⟩, ⟨⟩⟩⟩
      kernel_rfl)
    (fun n => obl_of (by kernel_rfl) (by kernel_rfl) (lz) (cn (cn (cz) (by kernel_rfl)) (by kernel_rfl)) (hn fun _ => rfl))
    (fun n ih => asc_cons (slices_AppendSeq_string_ok ok n) <| asc_nil)
/-! ### slices.Sort[[]string,string] (by hand) -/
abbrev slices_Sort_string_ins : Sh := ⟨[(.one (.arr 0))], [(.arr 9 .str)]⟩
abbrev slices_Sort_string_outs : List Sh := [⟨[(.tup [])], [(.arr 9 .str)]⟩]
def slices_Sort_string : Nat → slices_Sort_string_ins.T → Option (OutsT slices_Sort_string_outs) := fun _ => sortSem 9
theorem slices_Sort_string_ok {S : Nat → Addr} (ok : CfgOk P CC S) : ∀ n, SpecOk P CC S 34 ⟨slices_Sort_string_ins, slices_Sort_string_outs, slices_Sort_string n⟩ := fun n => sort_spec ⟨Tryd.f34, by kernel_rfl, by kernel_rfl, by kernel_rfl⟩ Tryd.slices_Sort_string_none Tryd.slices_Sort_string
/-! ### slices.Sorted[string] -/
abbrev slices_Sorted_string_ins : Sh := ⟨[(.one (.fn 83 [0]))], [(.obj 50 [(.val ty19)])]⟩
abbrev slices_Sorted_string_outs : List Sh := [⟨[(.one (.arr 1))], [(.obj 50 [(.val ty19)]), (.arr 9 .str)]⟩]
def slices_Sorted_string : Nat → slices_Sorted_string_ins.T → Option (OutsT slices_Sorted_string_outs)
  | 0, _ => none
  | n + 1, ((_, _), ((x1, _), _)) =>
    match slices_Collect_string n (((), ()), ((x1, ()), ())) with
    | some ((_, _), ((x2, _), l3, _)) => (
      match slices_Sort_string n (((), ()), (l3, ())) with
      | some ((_, _), (l4, _)) => (
        some (((), ()), ((x2, ()), l4, ())))
      | none => none)
    | none => none
def slices_Sorted_string_H (n : Nat) : Hints := ⟨[], fun _ => [], fun _ => none, fun _ => none, fun _ => none⟩
def slices_Sorted_string_O (n : Nat) : FuncId → List FSpec := asc [(34, ⟨slices_Sort_string_ins, slices_Sort_string_outs, slices_Sort_string n⟩), (82, ⟨slices_Collect_string_ins, slices_Collect_string_outs, slices_Collect_string n⟩)]
def b60 : Code := bodyOf Tryd.f60
theorem slices_Sorted_string_ok {S : Nat → Addr} (ok : CfgOk P CC S) : ∀ n, SpecOk P CC S 60 ⟨slices_Sorted_string_ins, slices_Sorted_string_outs, slices_Sorted_string n⟩ :=
  fn_all ok (O := slices_Sorted_string_O) (H := slices_Sorted_string_H) (fn := Tryd.f60) (body := b60) (by kernel_rfl) (by kernel_rfl) (by kernel_rfl) (by decide) (by kernel_rfl)
    (fun x => by kernel_rfl) (fun n => by
      rintro ⟨⟨⟨⟩, ⟨⟩⟩, ⟨⟨x1, ⟨⟩⟩, ⟨⟩⟩⟩
      kernel_rfl)
    (fun n => obl_of (by kernel_rfl) (by kernel_rfl) (lz) (cn (cn (cn (cn (cz) (by kernel_rfl)) (by kernel_rfl)) (by kernel_rfl)) (by kernel_rfl)) (hn fun _ => rfl))
    (fun n ih => asc_cons (slices_Sort_string_ok ok n) <| asc_cons (slices_Collect_string_ok ok n) <| asc_nil)
/-! ### slices.Compact[[]string,string] (by hand) -/
abbrev slices_Compact_string_ins : Sh := ⟨[(.one (.arr 0))], [(.arr 9 .str)]⟩
abbrev slices_Compact_string_outs : List Sh := [⟨[(.one (.arr 1))], [.dead, (.arr 9 .str)]⟩]
def slices_Compact_string : Nat → slices_Compact_string_ins.T → Option (OutsT slices_Compact_string_outs) := fun _ => compSem 9
theorem slices_Compact_string_ok {S : Nat → Addr} (ok : CfgOk P CC S) : ∀ n, SpecOk P CC S 62 ⟨slices_Compact_string_ins, slices_Compact_string_outs, slices_Compact_string n⟩ := fun n => comp_spec ⟨Tryd.f62, by kernel_rfl, by kernel_rfl, by kernel_rfl⟩ Tryd.slices_Compact_string_empty Tryd.slices_Compact_string
/-! ### pendulum/verify.twice -/
abbrev verify_twice_ins : Sh := ⟨[(.one (.val ty19))], []⟩
abbrev verify_twice_outs : List Sh := [⟨[(.one (.val .bool))], []⟩]
def verify_twice : Nat → verify_twice_ins.T → Option (OutsT verify_twice_outs)
  | 0, _ => none
  | n + 1, ((x1, _), _) =>
    match slices_Values_string_string n ((x1, ()), ()) with
    | some ((_, _), ((x2, _), _)) => (
      match slices_Sorted_string n (((), ()), ((x2, ()), ())) with
      | some ((_, _), ((x3, _), l4, _)) => (
        match slices_Compact_string n (((), ()), (l4, ())) with
        | some ((_, _), (_, l5, _)) => (
          some ((decide ((l5.length : Int) < (x1.length : Int)), ()), ()))
        | none => none)
      | none => none)
    | none => none
def verify_twice_H (n : Nat) : Hints := ⟨[], fun _ => [], fun _ => none, fun _ => none, fun _ => none⟩
def verify_twice_O (n : Nat) : FuncId → List FSpec := asc [(60, ⟨slices_Sorted_string_ins, slices_Sorted_string_outs, slices_Sorted_string n⟩), (61, ⟨slices_Values_string_string_ins, slices_Values_string_string_outs, slices_Values_string_string n⟩), (62, ⟨slices_Compact_string_ins, slices_Compact_string_outs, slices_Compact_string n⟩)]
def b48 : Code := bodyOf Tryd.f48
theorem verify_twice_ok {S : Nat → Addr} (ok : CfgOk P CC S) : ∀ n, SpecOk P CC S 48 ⟨verify_twice_ins, verify_twice_outs, verify_twice n⟩ :=
  fn_all ok (O := verify_twice_O) (H := verify_twice_H) (fn := Tryd.f48) (body := b48) (by kernel_rfl) (by kernel_rfl) (by kernel_rfl) (by decide) (by kernel_rfl)
    (fun x => by kernel_rfl) (fun n => by
      rintro ⟨⟨x1, ⟨⟩⟩, ⟨⟩⟩
      kernel_rfl)
    (fun n => obl_of (by kernel_rfl) (by kernel_rfl) (lz) (cn (cn (cn (cz) (by kernel_rfl)) (by kernel_rfl)) (by kernel_rfl)) (hn fun _ => rfl))
    (fun n ih => asc_cons (slices_Sorted_string_ok ok n) <| asc_cons (slices_Values_string_string_ok ok n) <| asc_cons (slices_Compact_string_ok ok n) <| asc_nil)
/-! ### pendulum/verify.shape -/
abbrev verify_shape_ins : Sh := ⟨[(.agg [(.val .str), (.val ty5), (.val ty5), (.val (.int .i64)), (.val ty15), (.val ty20), (.val ty18)])], []⟩
abbrev verify_shape_outs : List Sh := [⟨[(.one (.val .bool))], []⟩]
abbrev verify_shape_l7_h : Sh := ⟨[(.one (.ptr 0 0)), (.one (.arr 1)), (.one (.emp true)), (.one (.val ty15)), (.one (.val (.int .i64))), (.one (.val (.int .i64)))], [(.obj 34 [(.val .str), (.val ty5), (.val ty5), (.val (.int .i64)), (.val ty15), (.val ty20), (.val ty18)]), (.arr 9 .str)]⟩
abbrev verify_shape_l7_o : List Out := [⟨(.exit 0), [1, 3, 4], ⟨[(.one (.ptr 0 0)), (.one (.arr 1)), (.one (.emp true))], [(.obj 34 [(.val .str), (.val ty5), (.val ty5), (.val (.int .i64)), (.val ty15), (.val ty20), (.val ty18)]), (.arr 9 .str)]⟩⟩, ⟨.ret, [2], ⟨[(.one (.val .bool))], []⟩⟩]
def verify_shape_l7 (n : Nat) : Nat → verify_shape_l7_h.T → Option (OutT verify_shape_l7_o)
  | 0, _ => none
  | k + 1, ((_, _, _, x1, x2, x3, _), ((x4, x5, x6, x7, x8, x9, x10, _), l11, _)) =>
    if decide (x3 < x2) then
      if 0 ≤ x3 ∧ x3 < (x1.length : Int) then (
        match verify_kind n ((((rdT ty0 x1 x3).2).1, ()), ()) with
        | some ((x12, _), _) => (
          if x12 then
            some (.inr (.inl ((false, ()), ())))
          else
            if ((rdT ty0 x1 x3).2).1 == 2 then
              if ((rdT ty0 x1 x3).2).2 != 0 then
                if ((rdT ty0 x1 x3).2).2 != 1 then
                  some (.inr (.inl ((false, ()), ())))
                else
                  if (l11.length + ([(rdT ty0 x1 x3).1] : List (.str : Ty).T).length) * 16 ≤ 140737488355328 then (
                    let v13 : Int := IntKind.i64.wrap (x3 + 1)
                    verify_shape_l7 n k (((), (), (), x1, x2, v13, ()), ((x4, x5, x6, x7, x8, x9, x10, ()), l11 ++ [(rdT ty0 x1 x3).1], ()))) else none
              else
                if (l11.length + ([(rdT ty0 x1 x3).1] : List (.str : Ty).T).length) * 16 ≤ 140737488355328 then (
                  let v14 : Int := IntKind.i64.wrap (x3 + 1)
                  verify_shape_l7 n k (((), (), (), x1, x2, v14, ()), ((x4, x5, x6, x7, x8, x9, x10, ()), l11 ++ [(rdT ty0 x1 x3).1], ()))) else none
            else
              if (l11.length + ([(rdT ty0 x1 x3).1] : List (.str : Ty).T).length) * 16 ≤ 140737488355328 then (
                let v15 : Int := IntKind.i64.wrap (x3 + 1)
                verify_shape_l7 n k (((), (), (), x1, x2, v15, ()), ((x4, x5, x6, x7, x8, x9, x10, ()), l11 ++ [(rdT ty0 x1 x3).1], ()))) else none)
        | none => none) else none
    else
      some (.inl (((), (), (), ()), ((x4, x5, x6, x7, x8, x9, x10, ()), l11, ())))
abbrev verify_shape_l14_h : Sh := ⟨[(.one (.arr 0)), (.one (.arr 1)), (.one (.val ty20)), (.one (.val (.int .i64))), (.one (.val (.int .i64)))], [(.arr 9 .str), (.arr 9 .str)]⟩
abbrev verify_shape_l14_o : List Out := [⟨(.exit 2), [3, 4], ⟨[(.one (.arr 0)), (.one (.arr 1))], [(.arr 9 .str), (.arr 9 .str)]⟩⟩]
def verify_shape_l14 (n : Nat) : Nat → verify_shape_l14_h.T → Option (OutT verify_shape_l14_o)
  | 0, _ => none
  | k + 1, ((_, _, x1, x2, x3, _), (l4, l5, _)) =>
    if decide (x3 < x2) then
      if 0 ≤ x3 ∧ x3 < (x1.length : Int) then (
        if (l5.length + ([(rdT ty2 x1 x3).1] : List (.str : Ty).T).length) * 16 ≤ 140737488355328 then (
          let v6 : Int := IntKind.i64.wrap (x3 + 1)
          verify_shape_l14 n k (((), (), x1, x2, v6, ()), (l4, l5 ++ [(rdT ty2 x1 x3).1], ()))) else none) else none
    else
      some (.inl (((), (), ()), (l4, l5, ())))
def verify_shape : Nat → verify_shape_ins.T → Option (OutsT verify_shape_outs)
  | 0, _ => none
  | n + 1, (((x1, x2, x3, x4, x5, x6, x7, _), _), _) =>
    if decide (x4 > 1024) then
      some ((false, ()), ())
    else
      if decide ((x2.length : Int) > x4) then
        some ((false, ()), ())
      else
        let v8 : Int := IntKind.i64.wrap (x4 - (x2.length : Int))
        if decide ((x3.length : Int) > v8) then
          some ((false, ()), ())
        else
          match slices_ContainsFunc_int_int n ((x2, (), ()), ()) with
          | some ((x9, _), _) => (
            if x9 then
              some ((false, ()), ())
            else
              match slices_ContainsFunc_int_int n ((x3, (), ()), ()) with
              | some ((x10, _), _) => (
                if x10 then
                  some ((false, ()), ())
                else
                  match verify_shape_l7 n n (((), (), (), x5, (x5.length : Int), 0, ()), ((x1, x2, x3, x4, x5, x6, x7, ()), [], ())) with
                  | some (.inl ((_, _, _, _), ((x11, x12, x13, x14, x15, x16, x17, _), l18, _))) => (
                    match verify_shape_l14 n n (((), (), x16, (x16.length : Int), 0, ()), (l18, [], ())) with
                    | some (.inl ((_, _, _), (l20, l21, _))) => (
                      match verify_twice n ((l20, ()), ()) with
                      | some ((x22, _), _) => (
                        if !x22 then
                          match verify_twice n ((l21, ()), ()) with
                          | some ((x23, _), _) => (
                            some ((!x23, ()), ()))
                          | none => none
                        else
                          some ((false, ()), ()))
                      | none => none)
                    | some (.inr (_)) => none
                    | none => none)
                  | some (.inr (.inl ((x19, _), _))) => (
                    some ((x19, ()), ()))
                  | some (.inr (.inr (_))) => none
                  | none => none)
              | none => none)
          | none => none
def verify_shape_H (n : Nat) : Hints := ⟨[], fun _ => [], fun k => match k with | 7 => some ⟨[1, 3, 4, 41, 42, 43], verify_shape_l7_h, verify_shape_l7_o, verify_shape_l7 n⟩ | 14 => some ⟨[3, 4, 72, 73, 74], verify_shape_l14_h, verify_shape_l14_o, verify_shape_l14 n⟩ | _ => none, fun _ => none, fun _ => none⟩
def verify_shape_O (n : Nat) : FuncId → List FSpec := asc [(46, ⟨slices_ContainsFunc_int_int_ins, slices_ContainsFunc_int_int_outs, slices_ContainsFunc_int_int n⟩), (47, ⟨verify_kind_ins, verify_kind_outs, verify_kind n⟩), (48, ⟨verify_twice_ins, verify_twice_outs, verify_twice n⟩)]
def b26 : Code := bodyOf Tryd.f26
theorem verify_shape_l7_k0 (n : Nat) : LoopOk P CC (verify_shape_O n) n 0 92 (verify_shape_H n) ⟨[1, 3, 4, 41, 42, 43], verify_shape_l7_h, verify_shape_l7_o, verify_shape_l7 n⟩ ((loopsOf b26).getD 0 .skip) := by
  refine ⟨fun _ => by kernel_rfl, ?_⟩
  rintro k ⟨⟨⟨⟩, ⟨⟩, ⟨⟩, x1, x2, x3, ⟨⟩⟩, ⟨⟨x4, x5, x6, x7, x8, x9, x10, ⟨⟩⟩, x11, ⟨⟩⟩⟩
  kernel_rfl
theorem verify_shape_l14_k1 (n : Nat) : LoopOk P CC (verify_shape_O n) n 0 92 (verify_shape_H n) ⟨[3, 4, 72, 73, 74], verify_shape_l14_h, verify_shape_l14_o, verify_shape_l14 n⟩ ((loopsOf b26).getD 1 .skip) := by
  refine ⟨fun _ => by kernel_rfl, ?_⟩
  rintro k ⟨⟨⟨⟩, ⟨⟩, x1, x2, x3, ⟨⟩⟩, ⟨x4, x5, ⟨⟩⟩⟩
  kernel_rfl
theorem verify_shape_ok {S : Nat → Addr} (ok : CfgOk P CC S) : ∀ n, SpecOk P CC S 26 ⟨verify_shape_ins, verify_shape_outs, verify_shape n⟩ :=
  fn_all ok (O := verify_shape_O) (H := verify_shape_H) (fn := Tryd.f26) (body := b26) (by kernel_rfl) (by kernel_rfl) (by kernel_rfl) (by decide) (by kernel_rfl)
    (fun x => by kernel_rfl) (fun n => by
      rintro ⟨⟨⟨x1, x2, x3, x4, x5, x6, x7, ⟨⟩⟩, ⟨⟩⟩, ⟨⟩⟩
      kernel_rfl)
    (fun n => obl_of (by kernel_rfl) (by kernel_rfl) (ls (ls (lz) (by kernel_rfl) (verify_shape_l7_k0 n)) (by kernel_rfl) (verify_shape_l14_k1 n)) (cn (cn (cn (cn (cn (cn (cn (cn (cn (cn (cn (cn (cn (cn (cn (cn (cn (cn (cn (cn (cn (cn (cn (cn (cz) (by kernel_rfl)) (by kernel_rfl)) (by kernel_rfl)) (by kernel_rfl)) (by kernel_rfl)) (by kernel_rfl)) (by kernel_rfl)) (by kernel_rfl)) (by kernel_rfl)) (by kernel_rfl)) (by kernel_rfl)) (by kernel_rfl)) (by kernel_rfl)) (by kernel_rfl)) (by kernel_rfl)) (by kernel_rfl)) (by kernel_rfl)) (by kernel_rfl)) (by kernel_rfl)) (by kernel_rfl)) (by kernel_rfl)) (by kernel_rfl)) (by kernel_rfl)) (by kernel_rfl)) (hn fun _ => rfl))
    (fun n ih => asc_cons (slices_ContainsFunc_int_int_ok ok n) <| asc_cons (verify_kind_ok ok n) <| asc_cons (verify_twice_ok ok n) <| asc_nil)
/-! ### pendulum/verify.at -/
abbrev verify_at_ins : Sh := ⟨[(.one (.val (.int .i64))), (.one (.val .err))], []⟩
abbrev verify_at_outs : List Sh := [⟨[(.one (.val .err))], []⟩]
def verify_at : Nat → verify_at_ins.T → Option (OutsT verify_at_outs)
  | 0, _ => none
  | n + 1, ((x1, x2, _), _) =>
    some ((ErrV.at_ x1 x2, ()), ())
def verify_at_H (n : Nat) : Hints := ⟨[], fun _ => [], fun _ => none, fun _ => none, fun _ => none⟩
def verify_at_O (n : Nat) : FuncId → List FSpec := asc []
def b27 : Code := bodyOf Tryd.f27
theorem verify_at_ok {S : Nat → Addr} (ok : CfgOk P CC S) : ∀ n, SpecOk P CC S 27 ⟨verify_at_ins, verify_at_outs, verify_at n⟩ :=
  fn_all ok (O := verify_at_O) (H := verify_at_H) (fn := Tryd.f27) (body := b27) (by kernel_rfl) (by kernel_rfl) (by kernel_rfl) (by decide) (by kernel_rfl)
    (fun x => by kernel_rfl) (fun n => by
      rintro ⟨⟨x1, x2, ⟨⟩⟩, ⟨⟩⟩
      kernel_rfl)
    (fun n => obl_of (by kernel_rfl) (by kernel_rfl) (lz) (cn (cn (cz) (by kernel_rfl)) (by kernel_rfl)) (hn fun _ => rfl))
    (fun n ih => asc_nil)
/-! ### pendulum/verify.Object$1 -/
abbrev verify_Object_1_ins : Sh := ⟨[(.agg [(.val .str), (.val ty5), (.val ty5)]), (.one (.ptr 0 0))], [(.obj 36 [(.val .str), (.val .str)])]⟩
abbrev verify_Object_1_outs : List Sh := [⟨[(.one (.val .bool))], [(.obj 36 [(.val .str), (.val .str)])]⟩]
def verify_Object_1 : Nat → verify_Object_1_ins.T → Option (OutsT verify_Object_1_outs)
  | 0, _ => none
  | n + 1, (((x1, x2, x3, _), _, _), ((x4, x5, _), _)) =>
    some ((strEq x1 x5, ()), ((x4, x5, ()), ()))
def verify_Object_1_H (n : Nat) : Hints := ⟨[], fun _ => [], fun _ => none, fun _ => none, fun _ => none⟩
def verify_Object_1_O (n : Nat) : FuncId → List FSpec := asc []
def b29 : Code := bodyOf Tryd.f29
theorem verify_Object_1_ok {S : Nat → Addr} (ok : CfgOk P CC S) : ∀ n, SpecOk P CC S 29 ⟨verify_Object_1_ins, verify_Object_1_outs, verify_Object_1 n⟩ :=
  fn_all ok (O := verify_Object_1_O) (H := verify_Object_1_H) (fn := Tryd.f29) (body := b29) (by kernel_rfl) (by kernel_rfl) (by kernel_rfl) (by decide) (by kernel_rfl)
    (fun x => by kernel_rfl) (fun n => by
      rintro ⟨⟨⟨x1, x2, x3, ⟨⟩⟩, ⟨⟩, ⟨⟩⟩, ⟨⟨x4, x5, ⟨⟩⟩, ⟨⟩⟩⟩
      kernel_rfl)
    (fun n => obl_of (by kernel_rfl) (by kernel_rfl) (lz) (cn (cn (cz) (by kernel_rfl)) (by kernel_rfl)) (hn fun _ => rfl))
    (fun n ih => asc_nil)
/-! ### slices.IndexFunc[[]pendulum/api.Face,pendulum/api.Face] -/
abbrev slices_IndexFunc_api_Face_api_Face_ins : Sh := ⟨[(.one (.val ty21)), (.one (.fn 29 [0]))], [(.obj 36 [(.val .str), (.val .str)])]⟩
abbrev slices_IndexFunc_api_Face_api_Face_outs : List Sh := [⟨[(.one (.val (.int .i64)))], [(.obj 36 [(.val .str), (.val .str)])]⟩]
abbrev slices_IndexFunc_api_Face_api_Face_l2_h : Sh := ⟨[(.one (.val ty21)), (.one (.fn 29 [0])), (.one (.val (.int .i64))), (.one (.val (.int .i64)))], [(.obj 36 [(.val .str), (.val .str)])]⟩
abbrev slices_IndexFunc_api_Face_api_Face_l2_o : List Out := [⟨(.exit 0), [], ⟨[], [(.obj 36 [(.val .str), (.val .str)])]⟩⟩, ⟨.ret, [4], ⟨[(.one (.val (.int .i64)))], [(.obj 36 [(.val .str), (.val .str)])]⟩⟩]
def slices_IndexFunc_api_Face_api_Face_l2 (n : Nat) : Nat → slices_IndexFunc_api_Face_api_Face_l2_h.T → Option (OutT slices_IndexFunc_api_Face_api_Face_l2_o)
  | 0, _ => none
  | k + 1, ((x1, _, x2, x3, _), ((x4, x5, _), _)) =>
    if decide (x3 < x2) then
      if 0 ≤ x3 ∧ x3 < (x1.length : Int) then (
        match verify_Object_1 n ((((rdT ty3 x1 x3).1, ((rdT ty3 x1 x3).2).1, ((rdT ty3 x1 x3).2).2, ()), (), ()), ((x4, x5, ()), ())) with
        | some ((x6, _), ((x7, x8, _), _)) => (
          if x6 then
            some (.inr (.inl ((x3, ()), ((x7, x8, ()), ()))))
          else
            let v9 : Int := IntKind.i64.wrap (x3 + 1)
            slices_IndexFunc_api_Face_api_Face_l2 n k ((x1, (), x2, v9, ()), ((x7, x8, ()), ())))
        | none => none) else none
    else
      some (.inl ((), ((x4, x5, ()), ())))
def slices_IndexFunc_api_Face_api_Face : Nat → slices_IndexFunc_api_Face_api_Face_ins.T → Option (OutsT slices_IndexFunc_api_Face_api_Face_outs)
  | 0, _ => none
  | n + 1, ((x1, _, _), ((x2, x3, _), _)) =>
    match slices_IndexFunc_api_Face_api_Face_l2 n n ((x1, (), (x1.length : Int), 0, ()), ((x2, x3, ()), ())) with
    | some (.inl (_, ((x4, x5, _), _))) => (
      some (((-1), ()), ((x4, x5, ()), ())))
    | some (.inr (.inl ((x6, _), ((x7, x8, _), _)))) => (
      some ((x6, ()), ((x7, x8, ()), ())))
    | some (.inr (.inr (_))) => none
    | none => none
def slices_IndexFunc_api_Face_api_Face_H (n : Nat) : Hints := ⟨[], fun _ => [], fun k => match k with | 2 => some ⟨[0, 1, 7, 8], slices_IndexFunc_api_Face_api_Face_l2_h, slices_IndexFunc_api_Face_api_Face_l2_o, slices_IndexFunc_api_Face_api_Face_l2 n⟩ | _ => none, fun _ => none, fun _ => none⟩
def slices_IndexFunc_api_Face_api_Face_O (n : Nat) : FuncId → List FSpec := asc [(29, ⟨verify_Object_1_ins, verify_Object_1_outs, verify_Object_1 n⟩)]
def b28 : Code := bodyOf Tryd.f28
theorem slices_IndexFunc_api_Face_api_Face_l2_k0 (n : Nat) : LoopOk P CC (slices_IndexFunc_api_Face_api_Face_O n) n 1 19 (slices_IndexFunc_api_Face_api_Face_H n) ⟨[0, 1, 7, 8], slices_IndexFunc_api_Face_api_Face_l2_h, slices_IndexFunc_api_Face_api_Face_l2_o, slices_IndexFunc_api_Face_api_Face_l2 n⟩ ((loopsOf b28).getD 0 .skip) := by
  refine ⟨fun _ => by kernel_rfl, ?_⟩
  rintro k ⟨⟨x1, ⟨⟩, x2, x3, ⟨⟩⟩, ⟨⟨x4, x5, ⟨⟩⟩, ⟨⟩⟩⟩
  kernel_rfl
theorem slices_IndexFunc_api_Face_api_Face_ok {S : Nat → Addr} (ok : CfgOk P CC S) : ∀ n, SpecOk P CC S 28 ⟨slices_IndexFunc_api_Face_api_Face_ins, slices_IndexFunc_api_Face_api_Face_outs, slices_IndexFunc_api_Face_api_Face n⟩ :=
  fn_all ok (O := slices_IndexFunc_api_Face_api_Face_O) (H := slices_IndexFunc_api_Face_api_Face_H) (fn := Tryd.f28) (body := b28) (by kernel_rfl) (by kernel_rfl) (by kernel_rfl) (by decide) (by kernel_rfl)
    (fun x => by kernel_rfl) (fun n => by
      rintro ⟨⟨x1, ⟨⟩, ⟨⟩⟩, ⟨⟨x2, x3, ⟨⟩⟩, ⟨⟩⟩⟩
      kernel_rfl)
    (fun n => obl_of (by kernel_rfl) (by kernel_rfl) (ls (lz) (by kernel_rfl) (slices_IndexFunc_api_Face_api_Face_l2_k0 n)) (cn (cn (cn (cn (cn (cn (cn (cn (cn (cn (cz) (by kernel_rfl)) (by kernel_rfl)) (by kernel_rfl)) (by kernel_rfl)) (by kernel_rfl)) (by kernel_rfl)) (by kernel_rfl)) (by kernel_rfl)) (by kernel_rfl)) (by kernel_rfl)) (hn fun _ => rfl))
    (fun n ih => asc_cons (verify_Object_1_ok ok n) <| asc_nil)
/-! ### (*pendulum/verify.checker).regs$1 -/
abbrev verify_checker_regs_1_ins : Sh := ⟨[(.one (.val (.int .i64))), (.one (.ptr 0 0))], [(.obj 71 [(.ptr 1 0)]), (.obj 74 [(.val .str), (.val ty5), (.val ty5), (.val (.int .i64)), (.val ty15), (.val ty20), (.val ty18), (.arr 2), (.map 3)]), (.arr 56 ty3), (.map (.int .i64) (.int .i64) false)]⟩
abbrev verify_checker_regs_1_outs : List Sh := [⟨[(.one (.val .bool))], [(.obj 71 [(.ptr 1 0)]), (.obj 74 [(.val .str), (.val ty5), (.val ty5), (.val (.int .i64)), (.val ty15), (.val ty20), (.val ty18), (.arr 2), (.map 3)]), (.arr 56 ty3), (.map (.int .i64) (.int .i64) false)]⟩]
def verify_checker_regs_1 : Nat → verify_checker_regs_1_ins.T → Option (OutsT verify_checker_regs_1_outs)
  | 0, _ => none
  | n + 1, ((x1, _, _), ((_, _), (x2, x3, x4, x5, x6, x7, x8, _, _, _), l9, m10, _)) =>
    if decide (x1 < 0) then
      some ((true, ()), (((), ()), (x2, x3, x4, x5, x6, x7, x8, (), (), ()), l9, m10, ()))
    else
      some ((decide (x1 ≥ x5), ()), (((), ()), (x2, x3, x4, x5, x6, x7, x8, (), (), ()), l9, m10, ()))
def verify_checker_regs_1_H (n : Nat) : Hints := ⟨[], fun _ => [], fun _ => none, fun _ => none, fun _ => none⟩
def verify_checker_regs_1_O (n : Nat) : FuncId → List FSpec := asc []
def b84 : Code := bodyOf Tryd.f84
theorem verify_checker_regs_1_ok {S : Nat → Addr} (ok : CfgOk P CC S) : ∀ n, SpecOk P CC S 84 ⟨verify_checker_regs_1_ins, verify_checker_regs_1_outs, verify_checker_regs_1 n⟩ :=
  fn_all ok (O := verify_checker_regs_1_O) (H := verify_checker_regs_1_H) (fn := Tryd.f84) (body := b84) (by kernel_rfl) (by kernel_rfl) (by kernel_rfl) (by decide) (by kernel_rfl)
    (fun x => by kernel_rfl) (fun n => by
      rintro ⟨⟨x1, ⟨⟩, ⟨⟩⟩, ⟨⟨⟨⟩, ⟨⟩⟩, ⟨x2, x3, x4, x5, x6, x7, x8, ⟨⟩, ⟨⟩, ⟨⟩⟩, x9, x10, ⟨⟩⟩⟩
      kernel_rfl)
    (fun n => obl_of (by kernel_rfl) (by kernel_rfl) (lz) (cn (cn (cz) (by kernel_rfl)) (by kernel_rfl)) (hn fun _ => rfl))
    (fun n ih => asc_nil)
/-! ### slices.IndexFunc[[]int,int] -/
abbrev slices_IndexFunc_int_int_2_ins : Sh := ⟨[(.one (.val ty5)), (.one (.fn 84 [0]))], [(.obj 71 [(.ptr 1 0)]), (.obj 74 [(.val .str), (.val ty5), (.val ty5), (.val (.int .i64)), (.val ty15), (.val ty20), (.val ty18), (.arr 2), (.map 3)]), (.arr 56 ty3), (.map (.int .i64) (.int .i64) false)]⟩
abbrev slices_IndexFunc_int_int_2_outs : List Sh := [⟨[(.one (.val (.int .i64)))], [(.obj 71 [(.ptr 1 0)]), (.obj 74 [(.val .str), (.val ty5), (.val ty5), (.val (.int .i64)), (.val ty15), (.val ty20), (.val ty18), (.arr 2), (.map 3)]), (.arr 56 ty3), (.map (.int .i64) (.int .i64) false)]⟩]
abbrev slices_IndexFunc_int_int_2_l2_h : Sh := ⟨[(.one (.val ty5)), (.one (.fn 84 [0])), (.one (.val (.int .i64))), (.one (.val (.int .i64)))], [(.obj 71 [(.ptr 1 0)]), (.obj 74 [(.val .str), (.val ty5), (.val ty5), (.val (.int .i64)), (.val ty15), (.val ty20), (.val ty18), (.arr 2), (.map 3)]), (.arr 56 ty3), (.map (.int .i64) (.int .i64) false)]⟩
abbrev slices_IndexFunc_int_int_2_l2_o : List Out := [⟨(.exit 0), [], ⟨[], [(.obj 71 [(.ptr 1 0)]), (.obj 74 [(.val .str), (.val ty5), (.val ty5), (.val (.int .i64)), (.val ty15), (.val ty20), (.val ty18), (.arr 2), (.map 3)]), (.arr 56 ty3), (.map (.int .i64) (.int .i64) false)]⟩⟩, ⟨.ret, [4], ⟨[(.one (.val (.int .i64)))], [(.obj 71 [(.ptr 1 0)]), (.obj 74 [(.val .str), (.val ty5), (.val ty5), (.val (.int .i64)), (.val ty15), (.val ty20), (.val ty18), (.arr 2), (.map 3)]), (.arr 56 ty3), (.map (.int .i64) (.int .i64) false)]⟩⟩]
def slices_IndexFunc_int_int_2_l2 (n : Nat) : Nat → slices_IndexFunc_int_int_2_l2_h.T → Option (OutT slices_IndexFunc_int_int_2_l2_o)
  | 0, _ => none
  | k + 1, ((x1, _, x2, x3, _), ((_, _), (x4, x5, x6, x7, x8, x9, x10, _, _, _), l11, m12, _)) =>
    if decide (x3 < x2) then
      if 0 ≤ x3 ∧ x3 < (x1.length : Int) then (
        let v13 : Int := rdT ((.int .i64) : Ty) x1 x3
        match verify_checker_regs_1 n ((v13, (), ()), (((), ()), (x4, x5, x6, x7, x8, x9, x10, (), (), ()), l11, m12, ())) with
        | some ((x14, _), ((_, _), (x15, x16, x17, x18, x19, x20, x21, _, _, _), l22, m23, _)) => (
          if x14 then
            some (.inr (.inl ((x3, ()), (((), ()), (x15, x16, x17, x18, x19, x20, x21, (), (), ()), l22, m23, ()))))
          else
            let v24 : Int := IntKind.i64.wrap (x3 + 1)
            slices_IndexFunc_int_int_2_l2 n k ((x1, (), x2, v24, ()), (((), ()), (x15, x16, x17, x18, x19, x20, x21, (), (), ()), l22, m23, ())))
        | none => none) else none
    else
      some (.inl ((), (((), ()), (x4, x5, x6, x7, x8, x9, x10, (), (), ()), l11, m12, ())))
def slices_IndexFunc_int_int_2 : Nat → slices_IndexFunc_int_int_2_ins.T → Option (OutsT slices_IndexFunc_int_int_2_outs)
  | 0, _ => none
  | n + 1, ((x1, _, _), ((_, _), (x2, x3, x4, x5, x6, x7, x8, _, _, _), l9, m10, _)) =>
    match slices_IndexFunc_int_int_2_l2 n n ((x1, (), (x1.length : Int), 0, ()), (((), ()), (x2, x3, x4, x5, x6, x7, x8, (), (), ()), l9, m10, ())) with
    | some (.inl (_, ((_, _), (x11, x12, x13, x14, x15, x16, x17, _, _, _), l18, m19, _))) => (
      some (((-1), ()), (((), ()), (x11, x12, x13, x14, x15, x16, x17, (), (), ()), l18, m19, ())))
    | some (.inr (.inl ((x20, _), ((_, _), (x21, x22, x23, x24, x25, x26, x27, _, _, _), l28, m29, _)))) => (
      some ((x20, ()), (((), ()), (x21, x22, x23, x24, x25, x26, x27, (), (), ()), l28, m29, ())))
    | some (.inr (.inr (_))) => none
    | none => none
def slices_IndexFunc_int_int_2_H (n : Nat) : Hints := ⟨[], fun _ => [], fun k => match k with | 2 => some ⟨[0, 1, 7, 8], slices_IndexFunc_int_int_2_l2_h, slices_IndexFunc_int_int_2_l2_o, slices_IndexFunc_int_int_2_l2 n⟩ | _ => none, fun _ => none, fun _ => none⟩
def slices_IndexFunc_int_int_2_O (n : Nat) : FuncId → List FSpec := asc [(84, ⟨verify_checker_regs_1_ins, verify_checker_regs_1_outs, verify_checker_regs_1 n⟩)]
theorem slices_IndexFunc_int_int_2_l2_k0 (n : Nat) : LoopOk P CC (slices_IndexFunc_int_int_2_O n) n 4 19 (slices_IndexFunc_int_int_2_H n) ⟨[0, 1, 7, 8], slices_IndexFunc_int_int_2_l2_h, slices_IndexFunc_int_int_2_l2_o, slices_IndexFunc_int_int_2_l2 n⟩ ((loopsOf b59).getD 0 .skip) := by
  refine ⟨fun _ => by kernel_rfl, ?_⟩
  rintro k ⟨⟨x1, ⟨⟩, x2, x3, ⟨⟩⟩, ⟨⟨⟨⟩, ⟨⟩⟩, ⟨x4, x5, x6, x7, x8, x9, x10, ⟨⟩, ⟨⟩, ⟨⟩⟩, x11, x12, ⟨⟩⟩⟩
  kernel_rfl
theorem slices_IndexFunc_int_int_2_ok {S : Nat → Addr} (ok : CfgOk P CC S) : ∀ n, SpecOk P CC S 59 ⟨slices_IndexFunc_int_int_2_ins, slices_IndexFunc_int_int_2_outs, slices_IndexFunc_int_int_2 n⟩ :=
  fn_all ok (O := slices_IndexFunc_int_int_2_O) (H := slices_IndexFunc_int_int_2_H) (fn := Tryd.f59) (body := b59) (by kernel_rfl) (by kernel_rfl) (by kernel_rfl) (by decide) (by kernel_rfl)
    (fun x => by kernel_rfl) (fun n => by
      rintro ⟨⟨x1, ⟨⟩, ⟨⟩⟩, ⟨⟨⟨⟩, ⟨⟩⟩, ⟨x2, x3, x4, x5, x6, x7, x8, ⟨⟩, ⟨⟩, ⟨⟩⟩, x9, x10, ⟨⟩⟩⟩
      kernel_rfl)
    (fun n => obl_of (by kernel_rfl) (by kernel_rfl) (ls (lz) (by kernel_rfl) (slices_IndexFunc_int_int_2_l2_k0 n)) (cn (cn (cn (cn (cn (cn (cn (cn (cn (cn (cz) (by kernel_rfl)) (by kernel_rfl)) (by kernel_rfl)) (by kernel_rfl)) (by kernel_rfl)) (by kernel_rfl)) (by kernel_rfl)) (by kernel_rfl)) (by kernel_rfl)) (by kernel_rfl)) (hn fun _ => rfl))
    (fun n ih => asc_cons (verify_checker_regs_1_ok ok n) <| asc_nil)
/-! ### slices.ContainsFunc[[]int,int] -/
abbrev slices_ContainsFunc_int_int_2_ins : Sh := ⟨[(.one (.val ty5)), (.one (.fn 84 [0]))], [(.obj 71 [(.ptr 1 0)]), (.obj 74 [(.val .str), (.val ty5), (.val ty5), (.val (.int .i64)), (.val ty15), (.val ty20), (.val ty18), (.arr 2), (.map 3)]), (.arr 56 ty3), (.map (.int .i64) (.int .i64) false)]⟩
abbrev slices_ContainsFunc_int_int_2_outs : List Sh := [⟨[(.one (.val .bool))], [(.obj 71 [(.ptr 1 0)]), (.obj 74 [(.val .str), (.val ty5), (.val ty5), (.val (.int .i64)), (.val ty15), (.val ty20), (.val ty18), (.arr 2), (.map 3)]), (.arr 56 ty3), (.map (.int .i64) (.int .i64) false)]⟩]
def slices_ContainsFunc_int_int_2 : Nat → slices_ContainsFunc_int_int_2_ins.T → Option (OutsT slices_ContainsFunc_int_int_2_outs)
  | 0, _ => none
  | n + 1, ((x1, _, _), ((_, _), (x2, x3, x4, x5, x6, x7, x8, _, _, _), l9, m10, _)) =>
    match slices_IndexFunc_int_int_2 n ((x1, (), ()), (((), ()), (x2, x3, x4, x5, x6, x7, x8, (), (), ()), l9, m10, ())) with
    | some ((x11, _), ((_, _), (x12, x13, x14, x15, x16, x17, x18, _, _, _), l19, m20, _)) => (
      some ((decide (x11 ≥ 0), ()), (((), ()), (x12, x13, x14, x15, x16, x17, x18, (), (), ()), l19, m20, ())))
    | none => none
def slices_ContainsFunc_int_int_2_H (n : Nat) : Hints := ⟨[], fun _ => [], fun _ => none, fun _ => none, fun _ => none⟩
def slices_ContainsFunc_int_int_2_O (n : Nat) : FuncId → List FSpec := asc [(59, ⟨slices_IndexFunc_int_int_2_ins, slices_IndexFunc_int_int_2_outs, slices_IndexFunc_int_int_2 n⟩)]
theorem slices_ContainsFunc_int_int_2_ok {S : Nat → Addr} (ok : CfgOk P CC S) : ∀ n, SpecOk P CC S 46 ⟨slices_ContainsFunc_int_int_2_ins, slices_ContainsFunc_int_int_2_outs, slices_ContainsFunc_int_int_2 n⟩ :=
  fn_all ok (O := slices_ContainsFunc_int_int_2_O) (H := slices_ContainsFunc_int_int_2_H) (fn := Tryd.f46) (body := b46) (by kernel_rfl) (by kernel_rfl) (by kernel_rfl) (by decide) (by kernel_rfl)
    (fun x => by kernel_rfl) (fun n => by
      rintro ⟨⟨x1, ⟨⟩, ⟨⟩⟩, ⟨⟨⟨⟩, ⟨⟩⟩, ⟨x2, x3, x4, x5, x6, x7, x8, ⟨⟩, ⟨⟩, ⟨⟩⟩, x9, x10, ⟨⟩⟩⟩
      kernel_rfl)
    (fun n => obl_of (by kernel_rfl) (by kernel_rfl) (lz) (cn (cn (cz) (by kernel_rfl)) (by kernel_rfl)) (hn fun _ => rfl))
    (fun n ih => asc_cons (slices_IndexFunc_int_int_2_ok ok n) <| asc_nil)
/-! ### (*pendulum/verify.checker).regs -/
abbrev verify_checker_regs_ins : Sh := ⟨[(.one (.ptr 0 0)), (.one (.val ty5))], [(.obj 74 [(.val .str), (.val ty5), (.val ty5), (.val (.int .i64)), (.val ty15), (.val ty20), (.val ty18), (.arr 1), (.map 2)]), (.arr 56 ty3), (.map (.int .i64) (.int .i64) false)]⟩
abbrev verify_checker_regs_outs : List Sh := [⟨[(.one (.val .bool))], [(.obj 74 [(.val .str), (.val ty5), (.val ty5), (.val (.int .i64)), (.val ty15), (.val ty20), (.val ty18), (.arr 1), (.map 2)]), (.arr 56 ty3), (.map (.int .i64) (.int .i64) false)]⟩]
def verify_checker_regs : Nat → verify_checker_regs_ins.T → Option (OutsT verify_checker_regs_outs)
  | 0, _ => none
  | n + 1, ((_, x1, _), ((x2, x3, x4, x5, x6, x7, x8, _, _, _), l9, m10, _)) =>
    match slices_ContainsFunc_int_int_2 n ((x1, (), ()), (((), ()), (x2, x3, x4, x5, x6, x7, x8, (), (), ()), l9, m10, ())) with
    | some ((x11, _), ((_, _), (x12, x13, x14, x15, x16, x17, x18, _, _, _), l19, m20, _)) => (
      some ((!x11, ()), ((x12, x13, x14, x15, x16, x17, x18, (), (), ()), l19, m20, ())))
    | none => none
def verify_checker_regs_H (n : Nat) : Hints := ⟨[], fun _ => [], fun _ => none, fun _ => none, fun _ => none⟩
def verify_checker_regs_O (n : Nat) : FuncId → List FSpec := asc [(46, ⟨slices_ContainsFunc_int_int_2_ins, slices_ContainsFunc_int_int_2_outs, slices_ContainsFunc_int_int_2 n⟩)]
def b63 : Code := bodyOf Tryd.f63
theorem verify_checker_regs_ok {S : Nat → Addr} (ok : CfgOk P CC S) : ∀ n, SpecOk P CC S 63 ⟨verify_checker_regs_ins, verify_checker_regs_outs, verify_checker_regs n⟩ :=
  fn_all ok (O := verify_checker_regs_O) (H := verify_checker_regs_H) (fn := Tryd.f63) (body := b63) (by kernel_rfl) (by kernel_rfl) (by kernel_rfl) (by decide) (by kernel_rfl)
    (fun x => by kernel_rfl) (fun n => by
      rintro ⟨⟨⟨⟩, x1, ⟨⟩⟩, ⟨⟨x2, x3, x4, x5, x6, x7, x8, ⟨⟩, ⟨⟩, ⟨⟩⟩, x9, x10, ⟨⟩⟩⟩
      kernel_rfl)
    (fun n => obl_of (by kernel_rfl) (by kernel_rfl) (lz) (cn (cn (cz) (by kernel_rfl)) (by kernel_rfl)) (hn fun _ => rfl))
    (fun n ih => asc_cons (slices_ContainsFunc_int_int_2_ok ok n) <| asc_nil)
/-! ### (*pendulum/verify.checker).cell -/
abbrev verify_checker_cell_ins : Sh := ⟨[(.one (.ptr 0 0)), (.one (.val (.int .i64)))], [(.obj 74 [(.val .str), (.val ty5), (.val ty5), (.val (.int .i64)), (.val ty15), (.val ty20), (.val ty18), (.arr 1), (.map 2)]), (.arr 56 ty3), (.map (.int .i64) (.int .i64) false)]⟩
abbrev verify_checker_cell_outs : List Sh := [⟨[(.one (.val .bool))], [(.obj 74 [(.val .str), (.val ty5), (.val ty5), (.val (.int .i64)), (.val ty15), (.val ty20), (.val ty18), (.arr 1), (.map 2)]), (.arr 56 ty3), (.map (.int .i64) (.int .i64) false)]⟩]
def verify_checker_cell : Nat → verify_checker_cell_ins.T → Option (OutsT verify_checker_cell_outs)
  | 0, _ => none
  | n + 1, ((_, x1, _), ((x2, x3, x4, x5, x6, x7, x8, _, _, _), l9, m10, _)) =>
    if decide (x1 ≥ 0) then
      some ((decide (x1 < (x6.length : Int)), ()), ((x2, x3, x4, x5, x6, x7, x8, (), (), ()), l9, m10, ()))
    else
      some ((false, ()), ((x2, x3, x4, x5, x6, x7, x8, (), (), ()), l9, m10, ()))
def verify_checker_cell_H (n : Nat) : Hints := ⟨[], fun _ => [], fun _ => none, fun _ => none, fun _ => none⟩
def verify_checker_cell_O (n : Nat) : FuncId → List FSpec := asc []
def b64 : Code := bodyOf Tryd.f64
theorem verify_checker_cell_ok {S : Nat → Addr} (ok : CfgOk P CC S) : ∀ n, SpecOk P CC S 64 ⟨verify_checker_cell_ins, verify_checker_cell_outs, verify_checker_cell n⟩ :=
  fn_all ok (O := verify_checker_cell_O) (H := verify_checker_cell_H) (fn := Tryd.f64) (body := b64) (by kernel_rfl) (by kernel_rfl) (by kernel_rfl) (by decide) (by kernel_rfl)
    (fun x => by kernel_rfl) (fun n => by
      rintro ⟨⟨⟨⟩, x1, ⟨⟩⟩, ⟨⟨x2, x3, x4, x5, x6, x7, x8, ⟨⟩, ⟨⟩, ⟨⟩⟩, x9, x10, ⟨⟩⟩⟩
      kernel_rfl)
    (fun n => obl_of (by kernel_rfl) (by kernel_rfl) (lz) (cn (cn (cz) (by kernel_rfl)) (by kernel_rfl)) (hn fun _ => rfl))
    (fun n ih => asc_nil)
/-! ### (*pendulum/verify.checker).inst -/
abbrev verify_checker_inst_ins : Sh := ⟨[(.one (.ptr 0 0)), (.one (.val (.int .i64)))], [(.obj 74 [(.val .str), (.val ty5), (.val ty5), (.val (.int .i64)), (.val ty15), (.val ty20), (.val ty18), (.arr 1), (.map 2)]), (.arr 56 ty3), (.map (.int .i64) (.int .i64) false)]⟩
abbrev verify_checker_inst_outs : List Sh := [⟨[(.one (.val .bool))], [(.obj 74 [(.val .str), (.val ty5), (.val ty5), (.val (.int .i64)), (.val ty15), (.val ty20), (.val ty18), (.arr 1), (.map 2)]), (.arr 56 ty3), (.map (.int .i64) (.int .i64) false)]⟩]
def verify_checker_inst : Nat → verify_checker_inst_ins.T → Option (OutsT verify_checker_inst_outs)
  | 0, _ => none
  | n + 1, ((_, x1, _), ((x2, x3, x4, x5, x6, x7, x8, _, _, _), l9, m10, _)) =>
    if decide (x1 ≥ 0) then
      some ((decide (x1 < (l9.length : Int)), ()), ((x2, x3, x4, x5, x6, x7, x8, (), (), ()), l9, m10, ()))
    else
      some ((false, ()), ((x2, x3, x4, x5, x6, x7, x8, (), (), ()), l9, m10, ()))
def verify_checker_inst_H (n : Nat) : Hints := ⟨[], fun _ => [], fun _ => none, fun _ => none, fun _ => none⟩
def verify_checker_inst_O (n : Nat) : FuncId → List FSpec := asc []
def b65 : Code := bodyOf Tryd.f65
theorem verify_checker_inst_ok {S : Nat → Addr} (ok : CfgOk P CC S) : ∀ n, SpecOk P CC S 65 ⟨verify_checker_inst_ins, verify_checker_inst_outs, verify_checker_inst n⟩ :=
  fn_all ok (O := verify_checker_inst_O) (H := verify_checker_inst_H) (fn := Tryd.f65) (body := b65) (by kernel_rfl) (by kernel_rfl) (by kernel_rfl) (by decide) (by kernel_rfl)
    (fun x => by kernel_rfl) (fun n => by
      rintro ⟨⟨⟨⟩, x1, ⟨⟩⟩, ⟨⟨x2, x3, x4, x5, x6, x7, x8, ⟨⟩, ⟨⟩, ⟨⟩⟩, x9, x10, ⟨⟩⟩⟩
      kernel_rfl)
    (fun n => obl_of (by kernel_rfl) (by kernel_rfl) (lz) (cn (cn (cz) (by kernel_rfl)) (by kernel_rfl)) (hn fun _ => rfl))
    (fun n ih => asc_nil)
/-! ### (*pendulum/verify.checker).row -/
abbrev verify_checker_row_ins : Sh := ⟨[(.one (.ptr 0 0)), (.one (.val (.int .i64))), (.one (.val (.int .i64)))], [(.obj 74 [(.val .str), (.val ty5), (.val ty5), (.val (.int .i64)), (.val ty15), (.val ty20), (.val ty18), (.arr 1), (.map 2)]), (.arr 56 ty3), (.map (.int .i64) (.int .i64) false)]⟩
abbrev verify_checker_row_outs : List Sh := [⟨[(.one (.val .bool))], [(.obj 74 [(.val .str), (.val ty5), (.val ty5), (.val (.int .i64)), (.val ty15), (.val ty20), (.val ty18), (.arr 1), (.map 2)]), (.arr 56 ty3), (.map (.int .i64) (.int .i64) false)]⟩]
def verify_checker_row : Nat → verify_checker_row_ins.T → Option (OutsT verify_checker_row_outs)
  | 0, _ => none
  | n + 1, ((_, x1, x2, _), ((x3, x4, x5, x6, x7, x8, x9, _, _, _), l10, m11, _)) =>
    if decide (x1 ≥ 0) then
      if decide (x1 ≤ x6) then
        let v12 : Int := IntKind.i64.wrap (x6 - x1)
        some ((decide (x2 ≤ v12), ()), ((x3, x4, x5, x6, x7, x8, x9, (), (), ()), l10, m11, ()))
      else
        some ((false, ()), ((x3, x4, x5, x6, x7, x8, x9, (), (), ()), l10, m11, ()))
    else
      some ((false, ()), ((x3, x4, x5, x6, x7, x8, x9, (), (), ()), l10, m11, ()))
def verify_checker_row_H (n : Nat) : Hints := ⟨[], fun _ => [], fun _ => none, fun _ => none, fun _ => none⟩
def verify_checker_row_O (n : Nat) : FuncId → List FSpec := asc []
def b66 : Code := bodyOf Tryd.f66
theorem verify_checker_row_ok {S : Nat → Addr} (ok : CfgOk P CC S) : ∀ n, SpecOk P CC S 66 ⟨verify_checker_row_ins, verify_checker_row_outs, verify_checker_row n⟩ :=
  fn_all ok (O := verify_checker_row_O) (H := verify_checker_row_H) (fn := Tryd.f66) (body := b66) (by kernel_rfl) (by kernel_rfl) (by kernel_rfl) (by decide) (by kernel_rfl)
    (fun x => by kernel_rfl) (fun n => by
      rintro ⟨⟨⟨⟩, x1, x2, ⟨⟩⟩, ⟨⟨x3, x4, x5, x6, x7, x8, x9, ⟨⟩, ⟨⟩, ⟨⟩⟩, x10, x11, ⟨⟩⟩⟩
      kernel_rfl)
    (fun n => obl_of (by kernel_rfl) (by kernel_rfl) (lz) (cn (cn (cz) (by kernel_rfl)) (by kernel_rfl)) (hn fun _ => rfl))
    (fun n ih => asc_nil)
/-! ### (*pendulum/verify.checker).there -/
abbrev verify_checker_there_ins : Sh := ⟨[(.one (.ptr 0 0)), (.agg [(.val (.int .i64)), (.val (.int .i64)), (.val (.int .i64)), (.val (.int .i64)), (.val (.int .i64)), (.val (.int .i64))])], [(.obj 74 [(.val .str), (.val ty5), (.val ty5), (.val (.int .i64)), (.val ty15), (.val ty20), (.val ty18), (.arr 1), (.map 2)]), (.arr 56 ty3), (.map (.int .i64) (.int .i64) false)]⟩
abbrev verify_checker_there_outs : List Sh := [⟨[(.one (.val .bool))], [(.obj 74 [(.val .str), (.val ty5), (.val ty5), (.val (.int .i64)), (.val ty15), (.val ty20), (.val ty18), (.arr 1), (.map 2)]), (.arr 56 ty3), (.map (.int .i64) (.int .i64) false)]⟩]
abbrev verify_checker_there_c4_h : Sh := ⟨[(.one (.ptr 0 0)), (.one (.ptr 3 0)), (.one (.val (.int .i64)))], [(.obj 74 [(.val .str), (.val ty5), (.val ty5), (.val (.int .i64)), (.val ty15), (.val ty20), (.val ty18), (.arr 1), (.map 2)]), (.arr 56 ty3), (.map (.int .i64) (.int .i64) false), (.obj 27 [(.val (.int .i64)), (.val (.int .i64)), (.val (.int .i64)), (.val (.int .i64)), (.val (.int .i64)), (.val (.int .i64))])]⟩
abbrev verify_checker_there_c4_o : List Out := [⟨.normal, [0, 3, 6, 7], ⟨[(.one (.ptr 0 0)), (.one (.ptr 3 0)), (.one (.val (.int .i64))), (.one (.val .bool))], [(.obj 74 [(.val .str), (.val ty5), (.val ty5), (.val (.int .i64)), (.val ty15), (.val ty20), (.val ty18), (.arr 1), (.map 2)]), (.arr 56 ty3), (.map (.int .i64) (.int .i64) false), (.obj 27 [(.val (.int .i64)), (.val (.int .i64)), (.val (.int .i64)), (.val (.int .i64)), (.val (.int .i64)), (.val (.int .i64))])]⟩⟩]
def verify_checker_there_c4 (n : Nat) : verify_checker_there_c4_h.T → Option (OutT verify_checker_there_c4_o)
  | ((_, _, x1, _), ((x2, x3, x4, x5, x6, x7, x8, _, _, _), l9, m10, (x11, x12, x13, x14, x15, x16, _), _)) =>
    if x1 == 1 then
      some (.inl (((), (), x1, x1 == 1, ()), ((x2, x3, x4, x5, x6, x7, x8, (), (), ()), l9, m10, (x11, x12, x13, x14, x15, x16, ()), ())))
    else
      some (.inl (((), (), x1, x1 == 8, ()), ((x2, x3, x4, x5, x6, x7, x8, (), (), ()), l9, m10, (x11, x12, x13, x14, x15, x16, ()), ())))
abbrev verify_checker_there_c7_h : Sh := ⟨[(.one (.ptr 0 0)), (.one (.ptr 3 0)), (.one (.val (.int .i64)))], [(.obj 74 [(.val .str), (.val ty5), (.val ty5), (.val (.int .i64)), (.val ty15), (.val ty20), (.val ty18), (.arr 1), (.map 2)]), (.arr 56 ty3), (.map (.int .i64) (.int .i64) false), (.obj 27 [(.val (.int .i64)), (.val (.int .i64)), (.val (.int .i64)), (.val (.int .i64)), (.val (.int .i64)), (.val (.int .i64))])]⟩
abbrev verify_checker_there_c7_o : List Out := [⟨.normal, [0, 3, 6, 15], ⟨[(.one (.ptr 0 0)), (.one (.ptr 3 0)), (.one (.val (.int .i64))), (.one (.val .bool))], [(.obj 74 [(.val .str), (.val ty5), (.val ty5), (.val (.int .i64)), (.val ty15), (.val ty20), (.val ty18), (.arr 1), (.map 2)]), (.arr 56 ty3), (.map (.int .i64) (.int .i64) false), (.obj 27 [(.val (.int .i64)), (.val (.int .i64)), (.val (.int .i64)), (.val (.int .i64)), (.val (.int .i64)), (.val (.int .i64))])]⟩⟩]
def verify_checker_there_c7 (n : Nat) : verify_checker_there_c7_h.T → Option (OutT verify_checker_there_c7_o)
  | ((_, _, x1, _), ((x2, x3, x4, x5, x6, x7, x8, _, _, _), l9, m10, (x11, x12, x13, x14, x15, x16, _), _)) =>
    if x1 == 2 then
      some (.inl (((), (), x1, x1 == 2, ()), ((x2, x3, x4, x5, x6, x7, x8, (), (), ()), l9, m10, (x11, x12, x13, x14, x15, x16, ()), ())))
    else
      some (.inl (((), (), x1, x1 == 5, ()), ((x2, x3, x4, x5, x6, x7, x8, (), (), ()), l9, m10, (x11, x12, x13, x14, x15, x16, ()), ())))
def verify_checker_there : Nat → verify_checker_there_ins.T → Option (OutsT verify_checker_there_outs)
  | 0, _ => none
  | n + 1, ((_, (x1, x2, x3, x4, x5, x6, _), _), ((x7, x8, x9, x10, x11, x12, x13, _, _, _), l14, m15, _)) =>
    match verify_checker_there_c4 n (((), (), x1, ()), ((x7, x8, x9, x10, x11, x12, x13, (), (), ()), l14, m15, (x1, x2, x3, x4, x5, x6, ()), ())) with
    | some (.inl ((_, _, x16, x17, _), ((x18, x19, x20, x21, x22, x23, x24, _, _, _), l25, m26, (x27, x28, x29, x30, x31, x32, _), _))) => (
      if x17 then
        match verify_checker_regs n (((), [x28], ()), ((x18, x19, x20, x21, x22, x23, x24, (), (), ()), l25, m26, ())) with
        | some ((x33, _), ((x34, x35, x36, x37, x38, x39, x40, _, _, _), l41, m42, _)) => (
          some ((x33, ()), ((x34, x35, x36, x37, x38, x39, x40, (), (), ()), l41, m42, ())))
        | none => none
      else
        match verify_checker_there_c7 n (((), (), x16, ()), ((x18, x19, x20, x21, x22, x23, x24, (), (), ()), l25, m26, (x27, x28, x29, x30, x31, x32, ()), ())) with
        | some (.inl ((_, _, x43, x44, _), ((x45, x46, x47, x48, x49, x50, x51, _, _, _), l52, m53, (x54, x55, x56, x57, x58, x59, _), _))) => (
          if x44 then
            match verify_checker_regs n (((), [x55, x56], ()), ((x45, x46, x47, x48, x49, x50, x51, (), (), ()), l52, m53, ())) with
            | some ((x60, _), ((x61, x62, x63, x64, x65, x66, x67, _, _, _), l68, m69, _)) => (
              some ((x60, ()), ((x61, x62, x63, x64, x65, x66, x67, (), (), ()), l68, m69, ())))
            | none => none
          else
            if x43 == 3 then
              match verify_checker_regs n (((), [x55], ()), ((x45, x46, x47, x48, x49, x50, x51, (), (), ()), l52, m53, ())) with
              | some ((x70, _), ((x71, x72, x73, x74, x75, x76, x77, _, _, _), l78, m79, _)) => (
                if x70 then
                  match verify_checker_cell n (((), x56, ()), ((x71, x72, x73, x74, x75, x76, x77, (), (), ()), l78, m79, ())) with
                  | some ((x80, _), ((x81, x82, x83, x84, x85, x86, x87, _, _, _), l88, m89, _)) => (
                    some ((x80, ()), ((x81, x82, x83, x84, x85, x86, x87, (), (), ()), l88, m89, ())))
                  | none => none
                else
                  some ((false, ()), ((x71, x72, x73, x74, x75, x76, x77, (), (), ()), l78, m79, ())))
              | none => none
            else
              if x43 == 4 then
                match verify_checker_regs n (((), [x56], ()), ((x45, x46, x47, x48, x49, x50, x51, (), (), ()), l52, m53, ())) with
                | some ((x90, _), ((x91, x92, x93, x94, x95, x96, x97, _, _, _), l98, m99, _)) => (
                  if x90 then
                    match verify_checker_cell n (((), x55, ()), ((x91, x92, x93, x94, x95, x96, x97, (), (), ()), l98, m99, ())) with
                    | some ((x100, _), ((x101, x102, x103, x104, x105, x106, x107, _, _, _), l108, m109, _)) => (
                      some ((x100, ()), ((x101, x102, x103, x104, x105, x106, x107, (), (), ()), l108, m109, ())))
                    | none => none
                  else
                    some ((false, ()), ((x91, x92, x93, x94, x95, x96, x97, (), (), ()), l98, m99, ())))
                | none => none
              else
                if x43 == 6 then
                  match verify_checker_regs n (((), [x55, x56, x57], ()), ((x45, x46, x47, x48, x49, x50, x51, (), (), ()), l52, m53, ())) with
                  | some ((x110, _), ((x111, x112, x113, x114, x115, x116, x117, _, _, _), l118, m119, _)) => (
                    some ((x110, ()), ((x111, x112, x113, x114, x115, x116, x117, (), (), ()), l118, m119, ())))
                  | none => none
                else
                  if x43 == 7 then
                    match verify_checker_regs n (((), [x55, x56, x57, x58], ()), ((x45, x46, x47, x48, x49, x50, x51, (), (), ()), l52, m53, ())) with
                    | some ((x120, _), ((x121, x122, x123, x124, x125, x126, x127, _, _, _), l128, m129, _)) => (
                      some ((x120, ()), ((x121, x122, x123, x124, x125, x126, x127, (), (), ()), l128, m129, ())))
                    | none => none
                  else
                    if x43 == 10 then
                      match verify_checker_inst n (((), x55, ()), ((x45, x46, x47, x48, x49, x50, x51, (), (), ()), l52, m53, ())) with
                      | some ((x130, _), ((x131, x132, x133, x134, x135, x136, x137, _, _, _), l138, m139, _)) => (
                        some ((x130, ()), ((x131, x132, x133, x134, x135, x136, x137, (), (), ()), l138, m139, ())))
                      | none => none
                    else
                      if x43 == 11 then
                        match verify_checker_inst n (((), x55, ()), ((x45, x46, x47, x48, x49, x50, x51, (), (), ()), l52, m53, ())) with
                        | some ((x140, _), ((x141, x142, x143, x144, x145, x146, x147, _, _, _), l148, m149, _)) => (
                          if x140 then
                            if 0 ≤ x55 ∧ x55 < (l148.length : Int) then (
                              match verify_checker_row n (((), x56, ((((rdT ty3 l148 x55).2).1).length : Int), ()), ((x141, x142, x143, x144, x145, x146, x147, (), (), ()), l148, m149, ())) with
                              | some ((x150, _), ((x151, x152, x153, x154, x155, x156, x157, _, _, _), l158, m159, _)) => (
                                if x150 then
                                  if 0 ≤ x55 ∧ x55 < (l158.length : Int) then (
                                    match verify_checker_row n (((), x57, ((((rdT ty3 l158 x55).2).2).length : Int), ()), ((x151, x152, x153, x154, x155, x156, x157, (), (), ()), l158, m159, ())) with
                                    | some ((x160, _), ((x161, x162, x163, x164, x165, x166, x167, _, _, _), l168, m169, _)) => (
                                      some ((x160, ()), ((x161, x162, x163, x164, x165, x166, x167, (), (), ()), l168, m169, ())))
                                    | none => none) else none
                                else
                                  some ((false, ()), ((x151, x152, x153, x154, x155, x156, x157, (), (), ()), l158, m159, ())))
                              | none => none) else none
                          else
                            some ((false, ()), ((x141, x142, x143, x144, x145, x146, x147, (), (), ()), l148, m149, ())))
                        | none => none
                      else
                        some ((true, ()), ((x45, x46, x47, x48, x49, x50, x51, (), (), ()), l52, m53, ())))
        | some (.inr (_)) => none
        | none => none)
    | some (.inr (_)) => none
    | none => none
def verify_checker_there_H (n : Nat) : Hints := ⟨[], fun _ => [], fun _ => none, fun k => match k with | 4 => some ⟨[0, 3, 6], verify_checker_there_c4_h, verify_checker_there_c4_o, fun n => verify_checker_there_c4 n⟩ | 7 => some ⟨[0, 3, 6], verify_checker_there_c7_h, verify_checker_there_c7_o, fun n => verify_checker_there_c7 n⟩ | _ => none, fun _ => none⟩
def verify_checker_there_O (n : Nat) : FuncId → List FSpec := asc [(63, ⟨verify_checker_regs_ins, verify_checker_regs_outs, verify_checker_regs n⟩), (64, ⟨verify_checker_cell_ins, verify_checker_cell_outs, verify_checker_cell n⟩), (65, ⟨verify_checker_inst_ins, verify_checker_inst_outs, verify_checker_inst n⟩), (66, ⟨verify_checker_row_ins, verify_checker_row_outs, verify_checker_row n⟩)]
def b49 : Code := bodyOf Tryd.f49
theorem verify_checker_there_c4_k3 (n : Nat) : CutOk P CC (verify_checker_there_O n) n 3 119 (verify_checker_there_H n) ⟨[0, 3, 6], verify_checker_there_c4_h, verify_checker_there_c4_o, fun n => verify_checker_there_c4 n⟩ ((cutsOf b49).getD 3 (0, .skip)).2 := by
  rintro ⟨⟨⟨⟩, ⟨⟩, x1, ⟨⟩⟩, ⟨⟨x2, x3, x4, x5, x6, x7, x8, ⟨⟩, ⟨⟩, ⟨⟩⟩, x9, x10, ⟨x11, x12, x13, x14, x15, x16, ⟨⟩⟩, ⟨⟩⟩⟩
  kernel_rfl
theorem verify_checker_there_c7_k6 (n : Nat) : CutOk P CC (verify_checker_there_O n) n 3 119 (verify_checker_there_H n) ⟨[0, 3, 6], verify_checker_there_c7_h, verify_checker_there_c7_o, fun n => verify_checker_there_c7 n⟩ ((cutsOf b49).getD 6 (0, .skip)).2 := by
  rintro ⟨⟨⟨⟩, ⟨⟩, x1, ⟨⟩⟩, ⟨⟨x2, x3, x4, x5, x6, x7, x8, ⟨⟩, ⟨⟩, ⟨⟩⟩, x9, x10, ⟨x11, x12, x13, x14, x15, x16, ⟨⟩⟩, ⟨⟩⟩⟩
  kernel_rfl
theorem verify_checker_there_ok {S : Nat → Addr} (ok : CfgOk P CC S) : ∀ n, SpecOk P CC S 49 ⟨verify_checker_there_ins, verify_checker_there_outs, verify_checker_there n⟩ :=
  fn_all ok (O := verify_checker_there_O) (H := verify_checker_there_H) (fn := Tryd.f49) (body := b49) (by kernel_rfl) (by kernel_rfl) (by kernel_rfl) (by decide) (by kernel_rfl)
    (fun x => by kernel_rfl) (fun n => by
      rintro ⟨⟨⟨⟩, ⟨x1, x2, x3, x4, x5, x6, ⟨⟩⟩, ⟨⟩⟩, ⟨⟨x7, x8, x9, x10, x11, x12, x13, ⟨⟩, ⟨⟩, ⟨⟩⟩, x14, x15, ⟨⟩⟩⟩
      kernel_rfl)
    (fun n => obl_of (by kernel_rfl) (by kernel_rfl) (lz) (cn (cn (cn (cn (cn (cn (cn (cn (cn (cn (cn (cn (cn (cn (cn (cs (cn (cn (cs (cn (cn (cn (cz) (by kernel_rfl)) (by kernel_rfl)) (by kernel_rfl)) (by kernel_rfl) (verify_checker_there_c4_k3 n)) (by kernel_rfl)) (by kernel_rfl)) (by kernel_rfl) (verify_checker_there_c7_k6 n)) (by kernel_rfl)) (by kernel_rfl)) (by kernel_rfl)) (by kernel_rfl)) (by kernel_rfl)) (by kernel_rfl)) (by kernel_rfl)) (by kernel_rfl)) (by kernel_rfl)) (by kernel_rfl)) (by kernel_rfl)) (by kernel_rfl)) (by kernel_rfl)) (by kernel_rfl)) (by kernel_rfl)) (hn fun _ => rfl))
    (fun n ih => asc_cons (verify_checker_regs_ok ok n) <| asc_cons (verify_checker_cell_ok ok n) <| asc_cons (verify_checker_inst_ok ok n) <| asc_cons (verify_checker_row_ok ok n) <| asc_nil)
/-! ### (*pendulum/verify.checker).instr -/
abbrev verify_checker_instr_ins : Sh := ⟨[(.one (.ptr 0 0)), (.one (.val (.int .i64)))], [(.obj 74 [(.val .str), (.val ty5), (.val ty5), (.val (.int .i64)), (.val ty15), (.val ty20), (.val ty18), (.arr 1), (.map 2)]), (.arr 56 ty3), (.map (.int .i64) (.int .i64) false)]⟩
abbrev verify_checker_instr_outs : List Sh := [⟨[(.one (.val .err))], [(.obj 74 [(.val .str), (.val ty5), (.val ty5), (.val (.int .i64)), (.val ty15), (.val ty20), (.val ty18), (.arr 1), (.map 2)]), (.arr 56 ty3), (.map (.int .i64) (.int .i64) false)]⟩]
abbrev verify_checker_instr_c16_h : Sh := ⟨[(.one (.ptr 0 0)), (.one (.val (.int .i64))), (.one (.ptr 3 0))], [(.obj 74 [(.val .str), (.val ty5), (.val ty5), (.val (.int .i64)), (.val ty15), (.val ty20), (.val ty18), (.arr 1), (.map 2)]), (.arr 56 ty3), (.map (.int .i64) (.int .i64) false), (.obj 27 [(.val (.int .i64)), (.val (.int .i64)), (.val (.int .i64)), (.val (.int .i64)), (.val (.int .i64)), (.val (.int .i64))])]⟩
abbrev verify_checker_instr_c16_o : List Out := [⟨.normal, [0, 1, 5, 89], ⟨[(.one (.ptr 0 0)), (.one (.val (.int .i64))), (.one (.ptr 3 0)), (.one (.val .bool))], [(.obj 74 [(.val .str), (.val ty5), (.val ty5), (.val (.int .i64)), (.val ty15), (.val ty20), (.val ty18), (.arr 1), (.map 2)]), (.arr 56 ty3), (.map (.int .i64) (.int .i64) false), (.obj 27 [(.val (.int .i64)), (.val (.int .i64)), (.val (.int .i64)), (.val (.int .i64)), (.val (.int .i64)), (.val (.int .i64))])]⟩⟩]
def verify_checker_instr_c16 (n : Nat) : verify_checker_instr_c16_h.T → Option (OutT verify_checker_instr_c16_o)
  | ((_, x1, _, _), ((x2, x3, x4, x5, x6, x7, x8, _, _, _), l9, m10, (x11, x12, x13, x14, x15, x16, _), _)) =>
    if x11 == 8 then
      some (.inl (((), x1, (), x11 == 8, ()), ((x2, x3, x4, x5, x6, x7, x8, (), (), ()), l9, m10, (x11, x12, x13, x14, x15, x16, ()), ())))
    else
      some (.inl (((), x1, (), x11 == 9, ()), ((x2, x3, x4, x5, x6, x7, x8, (), (), ()), l9, m10, (x11, x12, x13, x14, x15, x16, ()), ())))
def verify_checker_instr : Nat → verify_checker_instr_ins.T → Option (OutsT verify_checker_instr_outs)
  | 0, _ => none
  | n + 1, ((_, x1, _), ((x2, x3, x4, x5, x6, x7, x8, _, _, _), l9, m10, _)) =>
    if 0 ≤ x1 ∧ x1 < (x8.length : Int) then (
      if decide ((rdT ty6 x8 x1).1 < 1) then
        match verify_at n ((x1, ErrV.sent 102, ()), ()) with
        | some ((x11, _), _) => (
          some ((x11, ()), ((x2, x3, x4, x5, x6, x7, x8, (), (), ()), l9, m10, ())))
        | none => none
      else
        if decide ((rdT ty6 x8 x1).1 > 12) then
          match verify_at n ((x1, ErrV.sent 102, ()), ()) with
          | some ((x12, _), _) => (
            some ((x12, ()), ((x2, x3, x4, x5, x6, x7, x8, (), (), ()), l9, m10, ())))
          | none => none
        else
          match verify_checker_there n (((), ((rdT ty6 x8 x1).1, ((rdT ty6 x8 x1).2).1, (((rdT ty6 x8 x1).2).2).1, ((((rdT ty6 x8 x1).2).2).2).1, (((((rdT ty6 x8 x1).2).2).2).2).1, (((((rdT ty6 x8 x1).2).2).2).2).2, ()), ()), ((x2, x3, x4, x5, x6, x7, x8, (), (), ()), l9, m10, ())) with
          | some ((x13, _), ((x14, x15, x16, x17, x18, x19, x20, _, _, _), l21, m22, _)) => (
            if !x13 then
              match verify_at n ((x1, ErrV.sent 104, ()), ()) with
              | some ((x23, _), _) => (
                some ((x23, ()), ((x14, x15, x16, x17, x18, x19, x20, (), (), ()), l21, m22, ())))
              | none => none
            else
              if (rdT ty6 x8 x1).1 == 5 then
                if ((((rdT ty6 x8 x1).2).2).2).1 != 4 then
                  if ((((rdT ty6 x8 x1).2).2).2).1 != 5 then
                    match verify_at n ((x1, ErrV.sent 102, ()), ()) with
                    | some ((x24, _), _) => (
                      some ((x24, ()), ((x14, x15, x16, x17, x18, x19, x20, (), (), ()), l21, m22, ())))
                    | none => none
                  else
                    if (rdT ty6 x8 x1).1 == 6 then
                      if decide ((((((rdT ty6 x8 x1).2).2).2).2).2 < 6) then
                        match verify_at n ((x1, ErrV.sent 102, ()), ()) with
                        | some ((x25, _), _) => (
                          some ((x25, ()), ((x14, x15, x16, x17, x18, x19, x20, (), (), ()), l21, m22, ())))
                        | none => none
                      else
                        if decide ((((((rdT ty6 x8 x1).2).2).2).2).2 > 19) then
                          match verify_at n ((x1, ErrV.sent 102, ()), ()) with
                          | some ((x26, _), _) => (
                            some ((x26, ()), ((x14, x15, x16, x17, x18, x19, x20, (), (), ()), l21, m22, ())))
                          | none => none
                        else
                          if (rdT ty6 x8 x1).1 == 11 then
                            let v27 : Int := (mfind (keyEq ((.int .i64) : Ty)) (((rdT ty6 x8 x1).2).1) m22).getD 0
                            if decide (v27 > 0) then
                              match verify_at n ((x1, ErrV.sent 103, ()), ()) with
                              | some ((x28, _), _) => (
                                some ((x28, ()), ((x14, x15, x16, x17, x18, x19, x20, (), (), ()), l21, m22, ())))
                              | none => none
                            else
                              some ((ErrV.nil, ()), ((x14, x15, x16, x17, x18, x19, x20, (), (), ()), l21, mset (keyEq ((.int .i64) : Ty)) (((rdT ty6 x8 x1).2).1) 1 m22, ()))
                          else
                            match verify_checker_instr_c16 n (((), x1, (), ()), ((x14, x15, x16, x17, x18, x19, x20, (), (), ()), l21, m22, ((rdT ty6 x8 x1).1, ((rdT ty6 x8 x1).2).1, (((rdT ty6 x8 x1).2).2).1, ((((rdT ty6 x8 x1).2).2).2).1, (((((rdT ty6 x8 x1).2).2).2).2).1, (((((rdT ty6 x8 x1).2).2).2).2).2, ()), ())) with
                            | some (.inl ((_, x29, _, x30, _), ((x31, x32, x33, x34, x35, x36, x37, _, _, _), l38, m39, (x40, x41, x42, x43, x44, x45, _), _))) => (
                              if x30 then
                                if decide (x45 ≤ x29) then
                                  match verify_at n ((x29, ErrV.sent 104, ()), ()) with
                                  | some ((x46, _), _) => (
                                    some ((x46, ()), ((x31, x32, x33, x34, x35, x36, x37, (), (), ()), l38, m39, ())))
                                  | none => none
                                else
                                  if decide (x45 ≥ (x37.length : Int)) then
                                    match verify_at n ((x29, ErrV.sent 104, ()), ()) with
                                    | some ((x47, _), _) => (
                                      some ((x47, ()), ((x31, x32, x33, x34, x35, x36, x37, (), (), ()), l38, m39, ())))
                                    | none => none
                                  else
                                    some ((ErrV.nil, ()), ((x31, x32, x33, x34, x35, x36, x37, (), (), ()), l38, m39, ()))
                              else
                                some ((ErrV.nil, ()), ((x31, x32, x33, x34, x35, x36, x37, (), (), ()), l38, m39, ())))
                            | some (.inr (_)) => none
                            | none => none
                    else
                      if (rdT ty6 x8 x1).1 == 11 then
                        let v48 : Int := (mfind (keyEq ((.int .i64) : Ty)) (((rdT ty6 x8 x1).2).1) m22).getD 0
                        if decide (v48 > 0) then
                          match verify_at n ((x1, ErrV.sent 103, ()), ()) with
                          | some ((x49, _), _) => (
                            some ((x49, ()), ((x14, x15, x16, x17, x18, x19, x20, (), (), ()), l21, m22, ())))
                          | none => none
                        else
                          some ((ErrV.nil, ()), ((x14, x15, x16, x17, x18, x19, x20, (), (), ()), l21, mset (keyEq ((.int .i64) : Ty)) (((rdT ty6 x8 x1).2).1) 1 m22, ()))
                      else
                        match verify_checker_instr_c16 n (((), x1, (), ()), ((x14, x15, x16, x17, x18, x19, x20, (), (), ()), l21, m22, ((rdT ty6 x8 x1).1, ((rdT ty6 x8 x1).2).1, (((rdT ty6 x8 x1).2).2).1, ((((rdT ty6 x8 x1).2).2).2).1, (((((rdT ty6 x8 x1).2).2).2).2).1, (((((rdT ty6 x8 x1).2).2).2).2).2, ()), ())) with
                        | some (.inl ((_, x50, _, x51, _), ((x52, x53, x54, x55, x56, x57, x58, _, _, _), l59, m60, (x61, x62, x63, x64, x65, x66, _), _))) => (
                          if x51 then
                            if decide (x66 ≤ x50) then
                              match verify_at n ((x50, ErrV.sent 104, ()), ()) with
                              | some ((x67, _), _) => (
                                some ((x67, ()), ((x52, x53, x54, x55, x56, x57, x58, (), (), ()), l59, m60, ())))
                              | none => none
                            else
                              if decide (x66 ≥ (x58.length : Int)) then
                                match verify_at n ((x50, ErrV.sent 104, ()), ()) with
                                | some ((x68, _), _) => (
                                  some ((x68, ()), ((x52, x53, x54, x55, x56, x57, x58, (), (), ()), l59, m60, ())))
                                | none => none
                              else
                                some ((ErrV.nil, ()), ((x52, x53, x54, x55, x56, x57, x58, (), (), ()), l59, m60, ()))
                          else
                            some ((ErrV.nil, ()), ((x52, x53, x54, x55, x56, x57, x58, (), (), ()), l59, m60, ())))
                        | some (.inr (_)) => none
                        | none => none
                else
                  if (rdT ty6 x8 x1).1 == 6 then
                    if decide ((((((rdT ty6 x8 x1).2).2).2).2).2 < 6) then
                      match verify_at n ((x1, ErrV.sent 102, ()), ()) with
                      | some ((x69, _), _) => (
                        some ((x69, ()), ((x14, x15, x16, x17, x18, x19, x20, (), (), ()), l21, m22, ())))
                      | none => none
                    else
                      if decide ((((((rdT ty6 x8 x1).2).2).2).2).2 > 19) then
                        match verify_at n ((x1, ErrV.sent 102, ()), ()) with
                        | some ((x70, _), _) => (
                          some ((x70, ()), ((x14, x15, x16, x17, x18, x19, x20, (), (), ()), l21, m22, ())))
                        | none => none
                      else
                        if (rdT ty6 x8 x1).1 == 11 then
                          let v71 : Int := (mfind (keyEq ((.int .i64) : Ty)) (((rdT ty6 x8 x1).2).1) m22).getD 0
                          if decide (v71 > 0) then
                            match verify_at n ((x1, ErrV.sent 103, ()), ()) with
                            | some ((x72, _), _) => (
                              some ((x72, ()), ((x14, x15, x16, x17, x18, x19, x20, (), (), ()), l21, m22, ())))
                            | none => none
                          else
                            some ((ErrV.nil, ()), ((x14, x15, x16, x17, x18, x19, x20, (), (), ()), l21, mset (keyEq ((.int .i64) : Ty)) (((rdT ty6 x8 x1).2).1) 1 m22, ()))
                        else
                          match verify_checker_instr_c16 n (((), x1, (), ()), ((x14, x15, x16, x17, x18, x19, x20, (), (), ()), l21, m22, ((rdT ty6 x8 x1).1, ((rdT ty6 x8 x1).2).1, (((rdT ty6 x8 x1).2).2).1, ((((rdT ty6 x8 x1).2).2).2).1, (((((rdT ty6 x8 x1).2).2).2).2).1, (((((rdT ty6 x8 x1).2).2).2).2).2, ()), ())) with
                          | some (.inl ((_, x73, _, x74, _), ((x75, x76, x77, x78, x79, x80, x81, _, _, _), l82, m83, (x84, x85, x86, x87, x88, x89, _), _))) => (
                            if x74 then
                              if decide (x89 ≤ x73) then
                                match verify_at n ((x73, ErrV.sent 104, ()), ()) with
                                | some ((x90, _), _) => (
                                  some ((x90, ()), ((x75, x76, x77, x78, x79, x80, x81, (), (), ()), l82, m83, ())))
                                | none => none
                              else
                                if decide (x89 ≥ (x81.length : Int)) then
                                  match verify_at n ((x73, ErrV.sent 104, ()), ()) with
                                  | some ((x91, _), _) => (
                                    some ((x91, ()), ((x75, x76, x77, x78, x79, x80, x81, (), (), ()), l82, m83, ())))
                                  | none => none
                                else
                                  some ((ErrV.nil, ()), ((x75, x76, x77, x78, x79, x80, x81, (), (), ()), l82, m83, ()))
                            else
                              some ((ErrV.nil, ()), ((x75, x76, x77, x78, x79, x80, x81, (), (), ()), l82, m83, ())))
                          | some (.inr (_)) => none
                          | none => none
                  else
                    if (rdT ty6 x8 x1).1 == 11 then
                      let v92 : Int := (mfind (keyEq ((.int .i64) : Ty)) (((rdT ty6 x8 x1).2).1) m22).getD 0
                      if decide (v92 > 0) then
                        match verify_at n ((x1, ErrV.sent 103, ()), ()) with
                        | some ((x93, _), _) => (
                          some ((x93, ()), ((x14, x15, x16, x17, x18, x19, x20, (), (), ()), l21, m22, ())))
                        | none => none
                      else
                        some ((ErrV.nil, ()), ((x14, x15, x16, x17, x18, x19, x20, (), (), ()), l21, mset (keyEq ((.int .i64) : Ty)) (((rdT ty6 x8 x1).2).1) 1 m22, ()))
                    else
                      match verify_checker_instr_c16 n (((), x1, (), ()), ((x14, x15, x16, x17, x18, x19, x20, (), (), ()), l21, m22, ((rdT ty6 x8 x1).1, ((rdT ty6 x8 x1).2).1, (((rdT ty6 x8 x1).2).2).1, ((((rdT ty6 x8 x1).2).2).2).1, (((((rdT ty6 x8 x1).2).2).2).2).1, (((((rdT ty6 x8 x1).2).2).2).2).2, ()), ())) with
                      | some (.inl ((_, x94, _, x95, _), ((x96, x97, x98, x99, x100, x101, x102, _, _, _), l103, m104, (x105, x106, x107, x108, x109, x110, _), _))) => (
                        if x95 then
                          if decide (x110 ≤ x94) then
                            match verify_at n ((x94, ErrV.sent 104, ()), ()) with
                            | some ((x111, _), _) => (
                              some ((x111, ()), ((x96, x97, x98, x99, x100, x101, x102, (), (), ()), l103, m104, ())))
                            | none => none
                          else
                            if decide (x110 ≥ (x102.length : Int)) then
                              match verify_at n ((x94, ErrV.sent 104, ()), ()) with
                              | some ((x112, _), _) => (
                                some ((x112, ()), ((x96, x97, x98, x99, x100, x101, x102, (), (), ()), l103, m104, ())))
                              | none => none
                            else
                              some ((ErrV.nil, ()), ((x96, x97, x98, x99, x100, x101, x102, (), (), ()), l103, m104, ()))
                        else
                          some ((ErrV.nil, ()), ((x96, x97, x98, x99, x100, x101, x102, (), (), ()), l103, m104, ())))
                      | some (.inr (_)) => none
                      | none => none
              else
                if (rdT ty6 x8 x1).1 == 6 then
                  if decide ((((((rdT ty6 x8 x1).2).2).2).2).2 < 6) then
                    match verify_at n ((x1, ErrV.sent 102, ()), ()) with
                    | some ((x113, _), _) => (
                      some ((x113, ()), ((x14, x15, x16, x17, x18, x19, x20, (), (), ()), l21, m22, ())))
                    | none => none
                  else
                    if decide ((((((rdT ty6 x8 x1).2).2).2).2).2 > 19) then
                      match verify_at n ((x1, ErrV.sent 102, ()), ()) with
                      | some ((x114, _), _) => (
                        some ((x114, ()), ((x14, x15, x16, x17, x18, x19, x20, (), (), ()), l21, m22, ())))
                      | none => none
                    else
                      if (rdT ty6 x8 x1).1 == 11 then
                        let v115 : Int := (mfind (keyEq ((.int .i64) : Ty)) (((rdT ty6 x8 x1).2).1) m22).getD 0
                        if decide (v115 > 0) then
                          match verify_at n ((x1, ErrV.sent 103, ()), ()) with
                          | some ((x116, _), _) => (
                            some ((x116, ()), ((x14, x15, x16, x17, x18, x19, x20, (), (), ()), l21, m22, ())))
                          | none => none
                        else
                          some ((ErrV.nil, ()), ((x14, x15, x16, x17, x18, x19, x20, (), (), ()), l21, mset (keyEq ((.int .i64) : Ty)) (((rdT ty6 x8 x1).2).1) 1 m22, ()))
                      else
                        match verify_checker_instr_c16 n (((), x1, (), ()), ((x14, x15, x16, x17, x18, x19, x20, (), (), ()), l21, m22, ((rdT ty6 x8 x1).1, ((rdT ty6 x8 x1).2).1, (((rdT ty6 x8 x1).2).2).1, ((((rdT ty6 x8 x1).2).2).2).1, (((((rdT ty6 x8 x1).2).2).2).2).1, (((((rdT ty6 x8 x1).2).2).2).2).2, ()), ())) with
                        | some (.inl ((_, x117, _, x118, _), ((x119, x120, x121, x122, x123, x124, x125, _, _, _), l126, m127, (x128, x129, x130, x131, x132, x133, _), _))) => (
                          if x118 then
                            if decide (x133 ≤ x117) then
                              match verify_at n ((x117, ErrV.sent 104, ()), ()) with
                              | some ((x134, _), _) => (
                                some ((x134, ()), ((x119, x120, x121, x122, x123, x124, x125, (), (), ()), l126, m127, ())))
                              | none => none
                            else
                              if decide (x133 ≥ (x125.length : Int)) then
                                match verify_at n ((x117, ErrV.sent 104, ()), ()) with
                                | some ((x135, _), _) => (
                                  some ((x135, ()), ((x119, x120, x121, x122, x123, x124, x125, (), (), ()), l126, m127, ())))
                                | none => none
                              else
                                some ((ErrV.nil, ()), ((x119, x120, x121, x122, x123, x124, x125, (), (), ()), l126, m127, ()))
                          else
                            some ((ErrV.nil, ()), ((x119, x120, x121, x122, x123, x124, x125, (), (), ()), l126, m127, ())))
                        | some (.inr (_)) => none
                        | none => none
                else
                  if (rdT ty6 x8 x1).1 == 11 then
                    let v136 : Int := (mfind (keyEq ((.int .i64) : Ty)) (((rdT ty6 x8 x1).2).1) m22).getD 0
                    if decide (v136 > 0) then
                      match verify_at n ((x1, ErrV.sent 103, ()), ()) with
                      | some ((x137, _), _) => (
                        some ((x137, ()), ((x14, x15, x16, x17, x18, x19, x20, (), (), ()), l21, m22, ())))
                      | none => none
                    else
                      some ((ErrV.nil, ()), ((x14, x15, x16, x17, x18, x19, x20, (), (), ()), l21, mset (keyEq ((.int .i64) : Ty)) (((rdT ty6 x8 x1).2).1) 1 m22, ()))
                  else
                    match verify_checker_instr_c16 n (((), x1, (), ()), ((x14, x15, x16, x17, x18, x19, x20, (), (), ()), l21, m22, ((rdT ty6 x8 x1).1, ((rdT ty6 x8 x1).2).1, (((rdT ty6 x8 x1).2).2).1, ((((rdT ty6 x8 x1).2).2).2).1, (((((rdT ty6 x8 x1).2).2).2).2).1, (((((rdT ty6 x8 x1).2).2).2).2).2, ()), ())) with
                    | some (.inl ((_, x138, _, x139, _), ((x140, x141, x142, x143, x144, x145, x146, _, _, _), l147, m148, (x149, x150, x151, x152, x153, x154, _), _))) => (
                      if x139 then
                        if decide (x154 ≤ x138) then
                          match verify_at n ((x138, ErrV.sent 104, ()), ()) with
                          | some ((x155, _), _) => (
                            some ((x155, ()), ((x140, x141, x142, x143, x144, x145, x146, (), (), ()), l147, m148, ())))
                          | none => none
                        else
                          if decide (x154 ≥ (x146.length : Int)) then
                            match verify_at n ((x138, ErrV.sent 104, ()), ()) with
                            | some ((x156, _), _) => (
                              some ((x156, ()), ((x140, x141, x142, x143, x144, x145, x146, (), (), ()), l147, m148, ())))
                            | none => none
                          else
                            some ((ErrV.nil, ()), ((x140, x141, x142, x143, x144, x145, x146, (), (), ()), l147, m148, ()))
                      else
                        some ((ErrV.nil, ()), ((x140, x141, x142, x143, x144, x145, x146, (), (), ()), l147, m148, ())))
                    | some (.inr (_)) => none
                    | none => none)
          | none => none) else none
def verify_checker_instr_H (n : Nat) : Hints := ⟨[], fun _ => [], fun _ => none, fun k => match k with | 16 => some ⟨[0, 1, 5], verify_checker_instr_c16_h, verify_checker_instr_c16_o, fun n => verify_checker_instr_c16 n⟩ | _ => none, fun _ => none⟩
def verify_checker_instr_O (n : Nat) : FuncId → List FSpec := asc [(27, ⟨verify_at_ins, verify_at_outs, verify_at n⟩), (49, ⟨verify_checker_there_ins, verify_checker_there_outs, verify_checker_there n⟩)]
def b30 : Code := bodyOf Tryd.f30
theorem verify_checker_instr_c16_k15 (n : Nat) : CutOk P CC (verify_checker_instr_O n) n 3 114 (verify_checker_instr_H n) ⟨[0, 1, 5], verify_checker_instr_c16_h, verify_checker_instr_c16_o, fun n => verify_checker_instr_c16 n⟩ ((cutsOf b30).getD 15 (0, .skip)).2 := by
  rintro ⟨⟨⟨⟩, x1, ⟨⟩, ⟨⟩⟩, ⟨⟨x2, x3, x4, x5, x6, x7, x8, ⟨⟩, ⟨⟩, ⟨⟩⟩, x9, x10, ⟨x11, x12, x13, x14, x15, x16, ⟨⟩⟩, ⟨⟩⟩⟩
  kernel_rfl
theorem verify_checker_instr_ok {S : Nat → Addr} (ok : CfgOk P CC S) : ∀ n, SpecOk P CC S 30 ⟨verify_checker_instr_ins, verify_checker_instr_outs, verify_checker_instr n⟩ :=
  fn_all ok (O := verify_checker_instr_O) (H := verify_checker_instr_H) (fn := Tryd.f30) (body := b30) (by kernel_rfl) (by kernel_rfl) (by kernel_rfl) (by decide) (by kernel_rfl)
    (fun x => by kernel_rfl) (fun n => by
      rintro ⟨⟨⟨⟩, x1, ⟨⟩⟩, ⟨⟨x2, x3, x4, x5, x6, x7, x8, ⟨⟩, ⟨⟩, ⟨⟩⟩, x9, x10, ⟨⟩⟩⟩
      kernel_rfl)
    (fun n => obl_of (by kernel_rfl) (by kernel_rfl) (lz) (cn (cn (cn (cn (cs (cn (cn (cn (cn (cn (cn (cn (cn (cn (cn (cn (cn (cn (cn (cn (cz) (by kernel_rfl)) (by kernel_rfl)) (by kernel_rfl)) (by kernel_rfl)) (by kernel_rfl)) (by kernel_rfl)) (by kernel_rfl)) (by kernel_rfl)) (by kernel_rfl)) (by kernel_rfl)) (by kernel_rfl)) (by kernel_rfl)) (by kernel_rfl)) (by kernel_rfl)) (by kernel_rfl)) (by kernel_rfl) (verify_checker_instr_c16_k15 n)) (by kernel_rfl)) (by kernel_rfl)) (by kernel_rfl)) (by kernel_rfl)) (hn fun _ => rfl))
    (fun n ih => asc_cons (verify_at_ok ok n) <| asc_cons (verify_checker_there_ok ok n) <| asc_nil)
/-! ### pendulum/verify.Object -/
abbrev verify_Object_ins : Sh := ⟨[(.agg [(.val .str), (.val ty5), (.val ty5), (.val (.int .i64)), (.val ty15), (.val ty20), (.val ty18)]), (.one (.val ty21))], []⟩
abbrev verify_Object_outs : List Sh := [⟨[(.one (.val .err))], []⟩]
abbrev verify_Object_l5_h : Sh := ⟨[(.one (.val ty21)), (.one (.ptr 0 0)), (.one (.ptr 1 0)), (.one (.val ty20)), (.one (.val (.int .i64))), (.one (.val (.int .i64)))], [(.obj 34 [(.val .str), (.val ty5), (.val ty5), (.val (.int .i64)), (.val ty15), (.val ty20), (.val ty18)]), (.obj 74 [(.val .str), (.val ty5), (.val ty5), (.val (.int .i64)), (.val ty15), (.val ty20), (.val ty18), (.arr 2), (.map 3)]), (.arr 56 ty3), (.map (.int .i64) (.int .i64) false)]⟩
abbrev verify_Object_l5_o : List Out := [⟨(.exit 0), [2, 5], ⟨[(.one (.ptr 0 0)), (.one (.ptr 1 0))], [(.obj 34 [(.val .str), (.val ty5), (.val ty5), (.val (.int .i64)), (.val ty15), (.val ty20), (.val ty18)]), (.obj 74 [(.val .str), (.val ty5), (.val ty5), (.val (.int .i64)), (.val ty15), (.val ty20), (.val ty18), (.arr 2), (.map 3)]), (.arr 56 ty3), (.map (.int .i64) (.int .i64) false)]⟩⟩, ⟨.ret, [4], ⟨[(.one (.val .err))], []⟩⟩]
def verify_Object_l5 (n : Nat) : Nat → verify_Object_l5_h.T → Option (OutT verify_Object_l5_o)
  | 0, _ => none
  | k + 1, ((x1, _, _, x2, x3, x4, _), ((x5, x6, x7, x8, x9, x10, x11, _), (x12, x13, x14, x15, x16, x17, x18, _, _, _), l19, m20, _)) =>
    if decide (x4 < x3) then
      if 0 ≤ x4 ∧ x4 < (x2.length : Int) then (
        match slices_IndexFunc_api_Face_api_Face n ((x1, (), ()), (((rdT ty2 x2 x4).1, (rdT ty2 x2 x4).2, ()), ())) with
        | some ((x21, _), ((x22, x23, _), _)) => (
          if decide (x21 < 0) then
            match verify_at n (((-1), ErrV.sent 116, ()), ()) with
            | some ((x24, _), _) => (
              some (.inr (.inl ((x24, ()), ()))))
            | none => none
          else
            if 0 ≤ x21 ∧ x21 < (x1.length : Int) then (
              if (l19.length + ([((rdT ty3 x1 x21).1, ((rdT ty3 x1 x21).2))] : List ty3.T).length) * 64 ≤ 140737488355328 then (
                let v25 : Int := IntKind.i64.wrap (x4 + 1)
                verify_Object_l5 n k ((x1, (), (), x2, x3, v25, ()), ((x5, x6, x7, x8, x9, x10, x11, ()), (x12, x13, x14, x15, x16, x17, x18, (), (), ()), l19 ++ [((rdT ty3 x1 x21).1, ((rdT ty3 x1 x21).2))], m20, ()))) else none) else none)
        | none => none) else none
    else
      some (.inl (((), (), ()), ((x5, x6, x7, x8, x9, x10, x11, ()), (x12, x13, x14, x15, x16, x17, x18, (), (), ()), l19, m20, ())))
abbrev verify_Object_l16_h : Sh := ⟨[(.one (.ptr 0 0)), (.one (.val (.int .i64))), (.one (.val (.int .i64)))], [(.obj 74 [(.val .str), (.val ty5), (.val ty5), (.val (.int .i64)), (.val ty15), (.val ty20), (.val ty18), (.arr 1), (.map 2)]), (.arr 56 ty3), (.map (.int .i64) (.int .i64) false)]⟩
abbrev verify_Object_l16_o : List Out := [⟨(.exit 2), [], ⟨[], []⟩⟩, ⟨.ret, [4], ⟨[(.one (.val .err))], []⟩⟩]
def verify_Object_l16 (n : Nat) : Nat → verify_Object_l16_h.T → Option (OutT verify_Object_l16_o)
  | 0, _ => none
  | k + 1, ((_, x1, x2, _), ((x3, x4, x5, x6, x7, x8, x9, _, _, _), l10, m11, _)) =>
    if decide (x2 < x1) then
      match verify_checker_instr n (((), x2, ()), ((x3, x4, x5, x6, x7, x8, x9, (), (), ()), l10, m11, ())) with
      | some ((x12, _), ((x13, x14, x15, x16, x17, x18, x19, _, _, _), l20, m21, _)) => (
        if !(errNil x12) then
          some (.inr (.inl ((x12, ()), ())))
        else
          let v22 : Int := IntKind.i64.wrap (x2 + 1)
          verify_Object_l16 n k (((), x1, v22, ()), ((x13, x14, x15, x16, x17, x18, x19, (), (), ()), l20, m21, ())))
      | none => none
    else
      some (.inl ((), ()))
def verify_Object : Nat → verify_Object_ins.T → Option (OutsT verify_Object_outs)
  | 0, _ => none
  | n + 1, (((x1, x2, x3, x4, x5, x6, x7, _), x8, _), _) =>
    match verify_shape n (((x1, x2, x3, x4, x5, x6, x7, ()), ()), ()) with
    | some ((x9, _), _) => (
      if !x9 then
        match verify_at n (((-1), ErrV.sent 102, ()), ()) with
        | some ((x10, _), _) => (
          some ((x10, ()), ()))
        | none => none
      else
        match verify_Object_l5 n n ((x8, (), (), x6, (x6.length : Int), 0, ()), ((x1, x2, x3, x4, x5, x6, x7, ()), (x1, x2, x3, x4, x5, x6, x7, (), (), ()), [], [], ())) with
        | some (.inl ((_, _, _), ((x11, x12, x13, x14, x15, x16, x17, _), (x18, x19, x20, x21, x22, x23, x24, _, _, _), l25, m26, _))) => (
          if (x17.length : Int) == 0 then
            match verify_at n (((x17.length : Int), ErrV.sent 101, ()), ()) with
            | some ((x29, _), _) => (
              some ((x29, ()), ()))
            | none => none
          else
            let v28 : Int := IntKind.i64.wrap ((x17.length : Int) - 1)
            if 0 ≤ v28 ∧ v28 < (x17.length : Int) then (
              if (rdT ty6 x17 v28).1 != 12 then
                match verify_at n (((x17.length : Int), ErrV.sent 101, ()), ()) with
                | some ((x30, _), _) => (
                  some ((x30, ()), ()))
                | none => none
              else
                match verify_Object_l16 n n (((), (x17.length : Int), 0, ()), ((x18, x19, x20, x21, x22, x23, x24, (), (), ()), l25, m26, ())) with
                | some (.inl (_, _)) => (
                  some ((ErrV.nil, ()), ()))
                | some (.inr (.inl ((x31, _), _))) => (
                  some ((x31, ()), ()))
                | some (.inr (.inr (_))) => none
                | none => none) else none)
        | some (.inr (.inl ((x27, _), _))) => (
          some ((x27, ()), ()))
        | some (.inr (.inr (_))) => none
        | none => none)
    | none => none
def verify_Object_H (n : Nat) : Hints := ⟨[], fun _ => [], fun k => match k with | 5 => some ⟨[1, 2, 5, 22, 23, 24], verify_Object_l5_h, verify_Object_l5_o, verify_Object_l5 n⟩ | 16 => some ⟨[5, 69, 70], verify_Object_l16_h, verify_Object_l16_o, verify_Object_l16 n⟩ | _ => none, fun _ => none, fun _ => none⟩
def verify_Object_O (n : Nat) : FuncId → List FSpec := asc [(26, ⟨verify_shape_ins, verify_shape_outs, verify_shape n⟩), (27, ⟨verify_at_ins, verify_at_outs, verify_at n⟩), (28, ⟨slices_IndexFunc_api_Face_api_Face_ins, slices_IndexFunc_api_Face_api_Face_outs, slices_IndexFunc_api_Face_api_Face n⟩), (30, ⟨verify_checker_instr_ins, verify_checker_instr_outs, verify_checker_instr n⟩)]
def b12 : Code := bodyOf Tryd.f12
theorem verify_Object_l5_k0 (n : Nat) : LoopOk P CC (verify_Object_O n) n 0 80 (verify_Object_H n) ⟨[1, 2, 5, 22, 23, 24], verify_Object_l5_h, verify_Object_l5_o, verify_Object_l5 n⟩ ((loopsOf b12).getD 0 .skip) := by
  refine ⟨fun _ => by kernel_rfl, ?_⟩
  rintro k ⟨⟨x1, ⟨⟩, ⟨⟩, x2, x3, x4, ⟨⟩⟩, ⟨⟨x5, x6, x7, x8, x9, x10, x11, ⟨⟩⟩, ⟨x12, x13, x14, x15, x16, x17, x18, ⟨⟩, ⟨⟩, ⟨⟩⟩, x19, x20, ⟨⟩⟩⟩
  kernel_rfl
theorem verify_Object_l16_k1 (n : Nat) : LoopOk P CC (verify_Object_O n) n 0 80 (verify_Object_H n) ⟨[5, 69, 70], verify_Object_l16_h, verify_Object_l16_o, verify_Object_l16 n⟩ ((loopsOf b12).getD 1 .skip) := by
  refine ⟨fun _ => by kernel_rfl, ?_⟩
  rintro k ⟨⟨⟨⟩, x1, x2, ⟨⟩⟩, ⟨⟨x3, x4, x5, x6, x7, x8, x9, ⟨⟩, ⟨⟩, ⟨⟩⟩, x10, x11, ⟨⟩⟩⟩
  kernel_rfl
theorem verify_Object_ok {S : Nat → Addr} (ok : CfgOk P CC S) : ∀ n, SpecOk P CC S 12 ⟨verify_Object_ins, verify_Object_outs, verify_Object n⟩ :=
  fn_all ok (O := verify_Object_O) (H := verify_Object_H) (fn := Tryd.f12) (body := b12) (by kernel_rfl) (by kernel_rfl) (by kernel_rfl) (by decide) (by kernel_rfl)
    (fun x => by kernel_rfl) (fun n => by
      rintro ⟨⟨⟨x1, x2, x3, x4, x5, x6, x7, ⟨⟩⟩, x8, ⟨⟩⟩, ⟨⟩⟩
      kernel_rfl)
    (fun n => obl_of (by kernel_rfl) (by kernel_rfl) (ls (ls (lz) (by kernel_rfl) (verify_Object_l5_k0 n)) (by kernel_rfl) (verify_Object_l16_k1 n)) (cn (cn (cn (cn (cn (cn (cn (cn (cn (cn (cn (cn (cn (cn (cn (cn (cn (cn (cn (cn (cn (cn (cn (cn (cn (cn (cn (cn (cn (cz) (by kernel_rfl)) (by kernel_rfl)) (by kernel_rfl)) (by kernel_rfl)) (by kernel_rfl)) (by kernel_rfl)) (by kernel_rfl)) (by kernel_rfl)) (by kernel_rfl)) (by kernel_rfl)) (by kernel_rfl)) (by kernel_rfl)) (by kernel_rfl)) (by kernel_rfl)) (by kernel_rfl)) (by kernel_rfl)) (by kernel_rfl)) (by kernel_rfl)) (by kernel_rfl)) (by kernel_rfl)) (by kernel_rfl)) (by kernel_rfl)) (by kernel_rfl)) (by kernel_rfl)) (by kernel_rfl)) (by kernel_rfl)) (by kernel_rfl)) (by kernel_rfl)) (by kernel_rfl)) (hn fun _ => rfl))
    (fun n ih => asc_cons (verify_shape_ok ok n) <| asc_cons (verify_at_ok ok n) <| asc_cons (slices_IndexFunc_api_Face_api_Face_ok ok n) <| asc_cons (verify_checker_instr_ok ok n) <| asc_nil)
/-! ### pendulum/pendulumref.None -/
abbrev ref_None_ins : Sh := ⟨[], []⟩
abbrev ref_None_outs : List Sh := [⟨[(.agg [(.val (.int .i64)), (.val .bool), (.val .bool), (.val (.int .i64)), (.val (.int .i64))])], []⟩]
def ref_None : Nat → ref_None_ins.T → Option (OutsT ref_None_outs)
  | 0, _ => none
  | n + 1, (_, _) =>
    some (((0, false, false, 0, 0, ()), ()), ())
def ref_None_H (n : Nat) : Hints := ⟨[], fun _ => [], fun _ => none, fun _ => none, fun _ => none⟩
def ref_None_O (n : Nat) : FuncId → List FSpec := asc []
def b19 : Code := bodyOf Tryd.f19
theorem ref_None_ok {S : Nat → Addr} (ok : CfgOk P CC S) : ∀ n, SpecOk P CC S 19 ⟨ref_None_ins, ref_None_outs, ref_None n⟩ :=
  fn_all ok (O := ref_None_O) (H := ref_None_H) (fn := Tryd.f19) (body := b19) (by kernel_rfl) (by kernel_rfl) (by kernel_rfl) (by decide) (by kernel_rfl)
    (fun x => by kernel_rfl) (fun n => by
      rintro ⟨⟨⟩, ⟨⟩⟩
      kernel_rfl)
    (fun n => obl_of (by kernel_rfl) (by kernel_rfl) (lz) (cn (cn (cz) (by kernel_rfl)) (by kernel_rfl)) (hn fun _ => rfl))
    (fun n ih => asc_nil)
/-! ### pendulum/pendulumref.Placed -/
abbrev ref_Placed_ins : Sh := ⟨[(.one (.val (.int .i64))), (.one (.val (.int .i64)))], []⟩
abbrev ref_Placed_outs : List Sh := [⟨[(.agg [(.val (.int .i64)), (.val .bool), (.val .bool), (.val (.int .i64)), (.val (.int .i64))])], []⟩]
def ref_Placed : Nat → ref_Placed_ins.T → Option (OutsT ref_Placed_outs)
  | 0, _ => none
  | n + 1, ((x1, x2, _), _) =>
    if x1 == 0 then
      match ref_None n ((), ()) with
      | some (((x3, x4, x5, x6, x7, _), _), _) => (
        some (((x3, x4, x5, x6, x7, ()), ()), ()))
      | none => none
    else
      some (((x1, true, false, x2, 0, ()), ()), ())
def ref_Placed_H (n : Nat) : Hints := ⟨[], fun _ => [], fun _ => none, fun _ => none, fun _ => none⟩
def ref_Placed_O (n : Nat) : FuncId → List FSpec := asc [(19, ⟨ref_None_ins, ref_None_outs, ref_None n⟩)]
def b10 : Code := bodyOf Tryd.f10
theorem ref_Placed_ok {S : Nat → Addr} (ok : CfgOk P CC S) : ∀ n, SpecOk P CC S 10 ⟨ref_Placed_ins, ref_Placed_outs, ref_Placed n⟩ :=
  fn_all ok (O := ref_Placed_O) (H := ref_Placed_H) (fn := Tryd.f10) (body := b10) (by kernel_rfl) (by kernel_rfl) (by kernel_rfl) (by decide) (by kernel_rfl)
    (fun x => by kernel_rfl) (fun n => by
      rintro ⟨⟨x1, x2, ⟨⟩⟩, ⟨⟩⟩
      kernel_rfl)
    (fun n => obl_of (by kernel_rfl) (by kernel_rfl) (lz) (cn (cn (cn (cn (cn (cz) (by kernel_rfl)) (by kernel_rfl)) (by kernel_rfl)) (by kernel_rfl)) (by kernel_rfl)) (hn fun _ => rfl))
    (fun n ih => asc_cons (ref_None_ok ok n) <| asc_nil)
/-! ### pendulum/pendulumsee.sentinels -/
abbrev pendulumsee_sentinels_ins : Sh := ⟨[], []⟩
abbrev pendulumsee_sentinels_outs : List Sh := [⟨[(.one (.arr 0))], [(.arr 38 .err)]⟩]
def pendulumsee_sentinels : Nat → pendulumsee_sentinels_ins.T → Option (OutsT pendulumsee_sentinels_outs)
  | 0, _ => none
  | n + 1, (_, _) =>
    some (((), ()), ([ErrV.sent 101, ErrV.sent 102, ErrV.sent 103, ErrV.sent 104, ErrV.sent 105, ErrV.sent 106, ErrV.sent 107, ErrV.sent 108, ErrV.sent 109, ErrV.sent 110, ErrV.sent 111, ErrV.sent 112, ErrV.sent 113, ErrV.sent 114, ErrV.sent 115, ErrV.sent 116, ErrV.sent 117, ErrV.sent 118, ErrV.sent 119, ErrV.sent 120, ErrV.sent 121], ()))
def pendulumsee_sentinels_H (n : Nat) : Hints := ⟨[], fun _ => [], fun _ => none, fun _ => none, fun _ => none⟩
def pendulumsee_sentinels_O (n : Nat) : FuncId → List FSpec := asc []
def b55 : Code := bodyOf Tryd.f55
theorem pendulumsee_sentinels_ok {S : Nat → Addr} (ok : CfgOk P CC S) : ∀ n, SpecOk P CC S 55 ⟨pendulumsee_sentinels_ins, pendulumsee_sentinels_outs, pendulumsee_sentinels n⟩ :=
  fn_all ok (O := pendulumsee_sentinels_O) (H := pendulumsee_sentinels_H) (fn := Tryd.f55) (body := b55) (by kernel_rfl) (by kernel_rfl) (by kernel_rfl) (by decide) (by kernel_rfl)
    (fun x => by kernel_rfl) (fun n => by
      rintro ⟨⟨⟩, ⟨⟩⟩
      kernel_rfl)
    (fun n => obl_of (by kernel_rfl) (by kernel_rfl) (lz) (cn (cn (cz) (by kernel_rfl)) (by kernel_rfl)) (hn fun _ => rfl))
    (fun n ih => asc_nil)
/-! ### pendulum/pendulumsee.Alike -/
abbrev pendulumsee_Alike_ins : Sh := ⟨[(.one (.val .err)), (.one (.val .err))], []⟩
abbrev pendulumsee_Alike_outs : List Sh := [⟨[(.one (.val .bool))], []⟩]
def pendulumsee_Alike : Nat → pendulumsee_Alike_ins.T → Option (OutsT pendulumsee_Alike_outs)
  | 0, _ => none
  | n + 1, ((x1, x2, _), _) =>
    if errNil x1 then
      if errNil x1 then
        some ((errNil x2, ()), ())
      else
        some ((false, ()), ())
    else
      if errNil x2 then
        if errNil x1 then
          some ((errNil x2, ()), ())
        else
          some ((false, ()), ())
      else
        match errEq x1 x2 with
        | some b3 => (
          some ((b3, ()), ()))
        | none => none
def pendulumsee_Alike_H (n : Nat) : Hints := ⟨[], fun _ => [], fun _ => none, fun _ => none, fun _ => none⟩
def pendulumsee_Alike_O (n : Nat) : FuncId → List FSpec := asc []
def b56 : Code := bodyOf Tryd.f56
theorem pendulumsee_Alike_ok {S : Nat → Addr} (ok : CfgOk P CC S) : ∀ n, SpecOk P CC S 56 ⟨pendulumsee_Alike_ins, pendulumsee_Alike_outs, pendulumsee_Alike n⟩ :=
  fn_all ok (O := pendulumsee_Alike_O) (H := pendulumsee_Alike_H) (fn := Tryd.f56) (body := b56) (by kernel_rfl) (by kernel_rfl) (by kernel_rfl) (by decide) (by kernel_rfl)
    (fun x => by kernel_rfl) (fun n => by
      rintro ⟨⟨x1, x2, ⟨⟩⟩, ⟨⟩⟩
      kernel_rfl)
    (fun n => obl_of (by kernel_rfl) (by kernel_rfl) (lz) (cn (cn (cn (cn (cn (cz) (by kernel_rfl)) (by kernel_rfl)) (by kernel_rfl)) (by kernel_rfl)) (by kernel_rfl)) (hn fun _ => rfl))
    (fun n ih => asc_nil)
/-! ### pendulum/pendulumsee.sentinel -/
abbrev pendulumsee_sentinel_ins : Sh := ⟨[(.one (.val .err))], []⟩
abbrev pendulumsee_sentinel_outs : List Sh := [⟨[(.one (.val (.int .i64)))], []⟩]
abbrev pendulumsee_sentinel_l3_h : Sh := ⟨[(.one (.val .err)), (.one (.arr 0)), (.one (.val (.int .i64)))], [(.arr 38 .err)]⟩
abbrev pendulumsee_sentinel_l3_o : List Out := [⟨(.exit 0), [], ⟨[], []⟩⟩, ⟨.ret, [2], ⟨[(.one (.val (.int .i64)))], []⟩⟩]
def pendulumsee_sentinel_l3 (n : Nat) : Nat → pendulumsee_sentinel_l3_h.T → Option (OutT pendulumsee_sentinel_l3_o)
  | 0, _ => none
  | k + 1, ((x1, _, x2, _), (l3, _)) =>
    if decide (x2 < (l3.length : Int)) then
      if 0 ≤ x2 ∧ x2 < (l3.length : Int) then (
        match pendulumsee_Alike n ((x1, rdT (.err : Ty) l3 x2, ()), ()) with
        | some ((x4, _), _) => (
          if x4 then
            let v5 : Int := IntKind.i64.wrap (101 + x2)
            some (.inr (.inl ((v5, ()), ())))
          else
            let v6 : Int := IntKind.i64.wrap (x2 + 1)
            pendulumsee_sentinel_l3 n k ((x1, (), v6, ()), (l3, ())))
        | none => none) else none
    else
      some (.inl ((), ()))
def pendulumsee_sentinel : Nat → pendulumsee_sentinel_ins.T → Option (OutsT pendulumsee_sentinel_outs)
  | 0, _ => none
  | n + 1, ((x1, _), _) =>
    match pendulumsee_sentinels n ((), ()) with
    | some ((_, _), (l2, _)) => (
      match pendulumsee_sentinel_l3 n n ((x1, (), 0, ()), (l2, ())) with
      | some (.inl (_, _)) => (
        some (((-1), ()), ()))
      | some (.inr (.inl ((x3, _), _))) => (
        some ((x3, ()), ()))
      | some (.inr (.inr (_))) => none
      | none => none)
    | none => none
def pendulumsee_sentinel_H (n : Nat) : Hints := ⟨[], fun _ => [], fun k => match k with | 3 => some ⟨[0, 3, 4], pendulumsee_sentinel_l3_h, pendulumsee_sentinel_l3_o, pendulumsee_sentinel_l3 n⟩ | _ => none, fun _ => none, fun _ => none⟩
def pendulumsee_sentinel_O (n : Nat) : FuncId → List FSpec := asc [(55, ⟨pendulumsee_sentinels_ins, pendulumsee_sentinels_outs, pendulumsee_sentinels n⟩), (56, ⟨pendulumsee_Alike_ins, pendulumsee_Alike_outs, pendulumsee_Alike n⟩)]
def b36 : Code := bodyOf Tryd.f36
theorem pendulumsee_sentinel_l3_k0 (n : Nat) : LoopOk P CC (pendulumsee_sentinel_O n) n 0 20 (pendulumsee_sentinel_H n) ⟨[0, 3, 4], pendulumsee_sentinel_l3_h, pendulumsee_sentinel_l3_o, pendulumsee_sentinel_l3 n⟩ ((loopsOf b36).getD 0 .skip) := by
  refine ⟨fun _ => by kernel_rfl, ?_⟩
  rintro k ⟨⟨x1, ⟨⟩, x2, ⟨⟩⟩, ⟨x3, ⟨⟩⟩⟩
  kernel_rfl
theorem pendulumsee_sentinel_ok {S : Nat → Addr} (ok : CfgOk P CC S) : ∀ n, SpecOk P CC S 36 ⟨pendulumsee_sentinel_ins, pendulumsee_sentinel_outs, pendulumsee_sentinel n⟩ :=
  fn_all ok (O := pendulumsee_sentinel_O) (H := pendulumsee_sentinel_H) (fn := Tryd.f36) (body := b36) (by kernel_rfl) (by kernel_rfl) (by kernel_rfl) (by decide) (by kernel_rfl)
    (fun x => by kernel_rfl) (fun n => by
      rintro ⟨⟨x1, ⟨⟩⟩, ⟨⟩⟩
      kernel_rfl)
    (fun n => obl_of (by kernel_rfl) (by kernel_rfl) (ls (lz) (by kernel_rfl) (pendulumsee_sentinel_l3_k0 n)) (cn (cn (cn (cn (cn (cn (cn (cn (cn (cn (cz) (by kernel_rfl)) (by kernel_rfl)) (by kernel_rfl)) (by kernel_rfl)) (by kernel_rfl)) (by kernel_rfl)) (by kernel_rfl)) (by kernel_rfl)) (by kernel_rfl)) (by kernel_rfl)) (hn fun _ => rfl))
    (fun n ih => asc_cons (pendulumsee_sentinels_ok ok n) <| asc_cons (pendulumsee_Alike_ok ok n) <| asc_nil)
/-! ### pendulum/pendulumref.Bare -/
abbrev ref_Bare_ins : Sh := ⟨[(.one (.val (.int .i64)))], []⟩
abbrev ref_Bare_outs : List Sh := [⟨[(.agg [(.val (.int .i64)), (.val .bool), (.val .bool), (.val (.int .i64)), (.val (.int .i64))])], []⟩]
def ref_Bare : Nat → ref_Bare_ins.T → Option (OutsT ref_Bare_outs)
  | 0, _ => none
  | n + 1, ((x1, _), _) =>
    some (((x1, false, false, 0, 0, ()), ()), ())
def ref_Bare_H (n : Nat) : Hints := ⟨[], fun _ => [], fun _ => none, fun _ => none, fun _ => none⟩
def ref_Bare_O (n : Nat) : FuncId → List FSpec := asc []
def b21 : Code := bodyOf Tryd.f21
theorem ref_Bare_ok {S : Nat → Addr} (ok : CfgOk P CC S) : ∀ n, SpecOk P CC S 21 ⟨ref_Bare_ins, ref_Bare_outs, ref_Bare n⟩ :=
  fn_all ok (O := ref_Bare_O) (H := ref_Bare_H) (fn := Tryd.f21) (body := b21) (by kernel_rfl) (by kernel_rfl) (by kernel_rfl) (by decide) (by kernel_rfl)
    (fun x => by kernel_rfl) (fun n => by
      rintro ⟨⟨x1, ⟨⟩⟩, ⟨⟩⟩
      kernel_rfl)
    (fun n => obl_of (by kernel_rfl) (by kernel_rfl) (lz) (cn (cn (cz) (by kernel_rfl)) (by kernel_rfl)) (hn fun _ => rfl))
    (fun n ih => asc_nil)
/-! ### pendulum/pendulumref.Around -/
abbrev ref_Around_ins : Sh := ⟨[(.agg [(.val (.int .i64)), (.val .bool), (.val .bool), (.val (.int .i64)), (.val (.int .i64))]), (.one (.val (.int .i64)))], []⟩
abbrev ref_Around_outs : List Sh := [⟨[(.agg [(.val (.int .i64)), (.val .bool), (.val .bool), (.val (.int .i64)), (.val (.int .i64))])], []⟩]
def ref_Around : Nat → ref_Around_ins.T → Option (OutsT ref_Around_outs)
  | 0, _ => none
  | n + 1, (((x1, x2, x3, x4, x5, _), x6, _), _) =>
    if x1 == 0 then
      match ref_None n ((), ()) with
      | some (((x7, x8, x9, x10, x11, _), _), _) => (
        some (((x7, x8, x9, x10, x11, ()), ()), ()))
      | none => none
    else
      if x2 then
        some (((x1, true, true, x6, x4, ()), ()), ())
      else
        some (((x1, true, false, x6, 0, ()), ()), ())
def ref_Around_H (n : Nat) : Hints := ⟨[], fun _ => [], fun _ => none, fun _ => none, fun _ => none⟩
def ref_Around_O (n : Nat) : FuncId → List FSpec := asc [(19, ⟨ref_None_ins, ref_None_outs, ref_None n⟩)]
def b37 : Code := bodyOf Tryd.f37
theorem ref_Around_ok {S : Nat → Addr} (ok : CfgOk P CC S) : ∀ n, SpecOk P CC S 37 ⟨ref_Around_ins, ref_Around_outs, ref_Around n⟩ :=
  fn_all ok (O := ref_Around_O) (H := ref_Around_H) (fn := Tryd.f37) (body := b37) (by kernel_rfl) (by kernel_rfl) (by kernel_rfl) (by decide) (by kernel_rfl)
    (fun x => by kernel_rfl) (fun n => by
      rintro ⟨⟨⟨x1, x2, x3, x4, x5, ⟨⟩⟩, x6, ⟨⟩⟩, ⟨⟩⟩
      kernel_rfl)
    (fun n => obl_of (by kernel_rfl) (by kernel_rfl) (lz) (cn (cn (cn (cn (cn (cn (cn (cn (cz) (by kernel_rfl)) (by kernel_rfl)) (by kernel_rfl)) (by kernel_rfl)) (by kernel_rfl)) (by kernel_rfl)) (by kernel_rfl)) (by kernel_rfl)) (hn fun _ => rfl))
    (fun n ih => asc_cons (ref_None_ok ok n) <| asc_nil)
/-! ### pendulum/pendulumsee.Fault -/
abbrev pendulumsee_Fault_ins : Sh := ⟨[(.one (.val .err))], []⟩
abbrev pendulumsee_Fault_outs : List Sh := [⟨[(.agg [(.val (.int .i64)), (.val .bool), (.val .bool), (.val (.int .i64)), (.val (.int .i64))])], []⟩]
def pendulumsee_Fault : Nat → pendulumsee_Fault_ins.T → Option (OutsT pendulumsee_Fault_outs)
  | 0, _ => none
  | n + 1, ((x1, _), _) =>
    if errNil x1 then
      match ref_None n ((), ()) with
      | some (((x2, x3, x4, x5, x6, _), _), _) => (
        some (((x2, x3, x4, x5, x6, ()), ()), ()))
      | none => none
    else
      if !(errIsAt x1) then
        match pendulumsee_sentinel n ((x1, ()), ()) with
        | some ((x7, _), _) => (
          match ref_Bare n ((x7, ()), ()) with
          | some (((x8, x9, x10, x11, x12, _), _), _) => (
            some (((x8, x9, x10, x11, x12, ()), ()), ()))
          | none => none)
        | none => none
      else
        if Option.isNone (errAt x1) then
          match ref_Bare n (((-1), ()), ()) with
          | some (((x14, x15, x16, x17, x18, _), _), _) => (
            some (((x14, x15, x16, x17, x18, ()), ()), ()))
          | none => none
        else
          match errAt x1 with
          | some x13 => (
            if errNil x13.2 then
              match ref_Bare n (((-1), ()), ()) with
              | some (((x19, x20, x21, x22, x23, _), _), _) => (
                some (((x19, x20, x21, x22, x23, ()), ()), ()))
              | none => none
            else
              match errAt x1 with
              | some x24 => (
                if errIsAt x24.2 then
                  if Option.isNone (errAt x24.2) then
                    match ref_Bare n (((-1), ()), ()) with
                    | some (((x26, x27, x28, x29, x30, _), _), _) => (
                      some (((x26, x27, x28, x29, x30, ()), ()), ()))
                    | none => none
                  else
                    match errAt x24.2 with
                    | some x25 => (
                      if errNil x25.2 then
                        match ref_Bare n (((-1), ()), ()) with
                        | some (((x31, x32, x33, x34, x35, _), _), _) => (
                          some (((x31, x32, x33, x34, x35, ()), ()), ()))
                        | none => none
                      else
                        match errAt x24.2 with
                        | some x36 => (
                          match pendulumsee_sentinel n ((x36.2, ()), ()) with
                          | some ((x37, _), _) => (
                            match errAt x24.2 with
                            | some x38 => (
                              match ref_Placed n ((x37, x38.1, ()), ()) with
                              | some (((x39, x40, x41, x42, x43, _), _), _) => (
                                match errAt x1 with
                                | some x44 => (
                                  match ref_Around n (((x39, x40, x41, x42, x43, ()), x44.1, ()), ()) with
                                  | some (((x45, x46, x47, x48, x49, _), _), _) => (
                                    some (((x45, x46, x47, x48, x49, ()), ()), ()))
                                  | none => none)
                                | none => none)
                              | none => none)
                            | none => none)
                          | none => none)
                        | none => none)
                    | none => none
                else
                  match errAt x1 with
                  | some x50 => (
                    match pendulumsee_sentinel n ((x50.2, ()), ()) with
                    | some ((x51, _), _) => (
                      match errAt x1 with
                      | some x52 => (
                        match ref_Placed n ((x51, x52.1, ()), ()) with
                        | some (((x53, x54, x55, x56, x57, _), _), _) => (
                          some (((x53, x54, x55, x56, x57, ()), ()), ()))
                        | none => none)
                      | none => none)
                    | none => none)
                  | none => none)
              | none => none)
          | none => none
def pendulumsee_Fault_H (n : Nat) : Hints := ⟨[], fun _ => [], fun _ => none, fun _ => none, fun _ => none⟩
def pendulumsee_Fault_O (n : Nat) : FuncId → List FSpec := asc [(10, ⟨ref_Placed_ins, ref_Placed_outs, ref_Placed n⟩), (19, ⟨ref_None_ins, ref_None_outs, ref_None n⟩), (21, ⟨ref_Bare_ins, ref_Bare_outs, ref_Bare n⟩), (36, ⟨pendulumsee_sentinel_ins, pendulumsee_sentinel_outs, pendulumsee_sentinel n⟩), (37, ⟨ref_Around_ins, ref_Around_outs, ref_Around n⟩)]
def b18 : Code := bodyOf Tryd.f18
theorem pendulumsee_Fault_ok {S : Nat → Addr} (ok : CfgOk P CC S) : ∀ n, SpecOk P CC S 18 ⟨pendulumsee_Fault_ins, pendulumsee_Fault_outs, pendulumsee_Fault n⟩ :=
  fn_all ok (O := pendulumsee_Fault_O) (H := pendulumsee_Fault_H) (fn := Tryd.f18) (body := b18) (by kernel_rfl) (by kernel_rfl) (by kernel_rfl) (by decide) (by kernel_rfl)
    (fun x => by kernel_rfl) (fun n => by
      rintro ⟨⟨x1, ⟨⟩⟩, ⟨⟩⟩
      kernel_rfl)
    (fun n => obl_of (by kernel_rfl) (by kernel_rfl) (lz) (cn (cn (cn (cn (cn (cn (cn (cn (cn (cn (cn (cn (cn (cn (cn (cn (cn (cn (cn (cz) (by kernel_rfl)) (by kernel_rfl)) (by kernel_rfl)) (by kernel_rfl)) (by kernel_rfl)) (by kernel_rfl)) (by kernel_rfl)) (by kernel_rfl)) (by kernel_rfl)) (by kernel_rfl)) (by kernel_rfl)) (by kernel_rfl)) (by kernel_rfl)) (by kernel_rfl)) (by kernel_rfl)) (by kernel_rfl)) (by kernel_rfl)) (by kernel_rfl)) (by kernel_rfl)) (hn fun _ => rfl))
    (fun n ih => asc_cons (ref_Placed_ok ok n) <| asc_cons (ref_None_ok ok n) <| asc_cons (ref_Bare_ok ok n) <| asc_cons (pendulumsee_sentinel_ok ok n) <| asc_cons (ref_Around_ok ok n) <| asc_nil)
/-! ### pendulum/pendulumref.SameFault -/
abbrev ref_SameFault_ins : Sh := ⟨[(.agg [(.val (.int .i64)), (.val .bool), (.val .bool), (.val (.int .i64)), (.val (.int .i64))]), (.agg [(.val (.int .i64)), (.val .bool), (.val .bool), (.val (.int .i64)), (.val (.int .i64))])], []⟩
abbrev ref_SameFault_outs : List Sh := [⟨[(.one (.val .bool))], []⟩]
def ref_SameFault : Nat → ref_SameFault_ins.T → Option (OutsT ref_SameFault_outs)
  | 0, _ => none
  | n + 1, (((x1, x2, x3, x4, x5, _), (x6, x7, x8, x9, x10, _), _), _) =>
    if x1 == x6 then
      if x2 == x7 then
        if x4 == x9 then
          if x3 == x8 then
            some ((x5 == x10, ()), ())
          else
            some ((false, ()), ())
        else
          some ((false, ()), ())
      else
        some ((false, ()), ())
    else
      some ((false, ()), ())
def ref_SameFault_H (n : Nat) : Hints := ⟨[], fun _ => [], fun _ => none, fun _ => none, fun _ => none⟩
def ref_SameFault_O (n : Nat) : FuncId → List FSpec := asc []
def b17 : Code := bodyOf Tryd.f17
theorem ref_SameFault_ok {S : Nat → Addr} (ok : CfgOk P CC S) : ∀ n, SpecOk P CC S 17 ⟨ref_SameFault_ins, ref_SameFault_outs, ref_SameFault n⟩ :=
  fn_all ok (O := ref_SameFault_O) (H := ref_SameFault_H) (fn := Tryd.f17) (body := b17) (by kernel_rfl) (by kernel_rfl) (by kernel_rfl) (by decide) (by kernel_rfl)
    (fun x => by kernel_rfl) (fun n => by
      rintro ⟨⟨⟨x1, x2, x3, x4, x5, ⟨⟩⟩, ⟨x6, x7, x8, x9, x10, ⟨⟩⟩, ⟨⟩⟩, ⟨⟩⟩
      kernel_rfl)
    (fun n => obl_of (by kernel_rfl) (by kernel_rfl) (lz) (cn (cn (cz) (by kernel_rfl)) (by kernel_rfl)) (hn fun _ => rfl))
    (fun n ih => asc_nil)
/-! ### pendulum/pendulumsee.Same -/
abbrev pendulumsee_Same_ins : Sh := ⟨[(.one (.val .err)), (.agg [(.val (.int .i64)), (.val .bool), (.val .bool), (.val (.int .i64)), (.val (.int .i64))])], []⟩
abbrev pendulumsee_Same_outs : List Sh := [⟨[(.one (.val .bool))], []⟩]
def pendulumsee_Same : Nat → pendulumsee_Same_ins.T → Option (OutsT pendulumsee_Same_outs)
  | 0, _ => none
  | n + 1, ((x1, (x2, x3, x4, x5, x6, _), _), _) =>
    match pendulumsee_Fault n ((x1, ()), ()) with
    | some (((x7, x8, x9, x10, x11, _), _), _) => (
      match ref_SameFault n (((x7, x8, x9, x10, x11, ()), (x2, x3, x4, x5, x6, ()), ()), ()) with
      | some ((x12, _), _) => (
        some ((x12, ()), ()))
      | none => none)
    | none => none
def pendulumsee_Same_H (n : Nat) : Hints := ⟨[], fun _ => [], fun _ => none, fun _ => none, fun _ => none⟩
def pendulumsee_Same_O (n : Nat) : FuncId → List FSpec := asc [(17, ⟨ref_SameFault_ins, ref_SameFault_outs, ref_SameFault n⟩), (18, ⟨pendulumsee_Fault_ins, pendulumsee_Fault_outs, pendulumsee_Fault n⟩)]
def b9 : Code := bodyOf Tryd.f9
theorem pendulumsee_Same_ok {S : Nat → Addr} (ok : CfgOk P CC S) : ∀ n, SpecOk P CC S 9 ⟨pendulumsee_Same_ins, pendulumsee_Same_outs, pendulumsee_Same n⟩ :=
  fn_all ok (O := pendulumsee_Same_O) (H := pendulumsee_Same_H) (fn := Tryd.f9) (body := b9) (by kernel_rfl) (by kernel_rfl) (by kernel_rfl) (by decide) (by kernel_rfl)
    (fun x => by kernel_rfl) (fun n => by
      rintro ⟨⟨x1, ⟨x2, x3, x4, x5, x6, ⟨⟩⟩, ⟨⟩⟩, ⟨⟩⟩
      kernel_rfl)
    (fun n => obl_of (by kernel_rfl) (by kernel_rfl) (lz) (cn (cn (cz) (by kernel_rfl)) (by kernel_rfl)) (hn fun _ => rfl))
    (fun n ih => asc_cons (ref_SameFault_ok ok n) <| asc_cons (pendulumsee_Fault_ok ok n) <| asc_nil)
/-! ### pendulum/pendulumlaw22.first -/
abbrev law22_first_ins : Sh := ⟨[], []⟩
abbrev law22_first_outs : List Sh := [⟨[(.one (.val .bool))], []⟩]
def law22_first : Nat → law22_first_ins.T → Option (OutsT law22_first_outs)
  | 0, _ => none
  | n + 1, (_, _) =>
    match law22_end n ((), ()) with
    | some (((x1, x2, x3, x4, x5, x6, _), _), _) => (
      match verify_Object n ((((⟨#[102]⟩ : ByteArray), [], [], 0, [], [], [(9, (0, (0, (0, (0, 0))))), (x1, (x2, (x3, (x4, (x5, x6)))))], ()), [], ()), ()) with
      | some ((x7, _), _) => (
        match ref_Placed n ((104, 0, ()), ()) with
        | some (((x8, x9, x10, x11, x12, _), _), _) => (
          match pendulumsee_Same n ((x7, (x8, x9, x10, x11, x12, ()), ()), ()) with
          | some ((x13, _), _) => (
            some ((x13, ()), ()))
          | none => none)
        | none => none)
      | none => none)
    | none => none
def law22_first_H (n : Nat) : Hints := ⟨[], fun _ => [], fun _ => none, fun _ => none, fun _ => none⟩
def law22_first_O (n : Nat) : FuncId → List FSpec := asc [(7, ⟨law22_end_ins, law22_end_outs, law22_end n⟩), (9, ⟨pendulumsee_Same_ins, pendulumsee_Same_outs, pendulumsee_Same n⟩), (10, ⟨ref_Placed_ins, ref_Placed_outs, ref_Placed n⟩), (12, ⟨verify_Object_ins, verify_Object_outs, verify_Object n⟩)]
def b4 : Code := bodyOf Tryd.f4
theorem law22_first_ok {S : Nat → Addr} (ok : CfgOk P CC S) : ∀ n, SpecOk P CC S 4 ⟨law22_first_ins, law22_first_outs, law22_first n⟩ :=
  fn_all ok (O := law22_first_O) (H := law22_first_H) (fn := Tryd.f4) (body := b4) (by kernel_rfl) (by kernel_rfl) (by kernel_rfl) (by decide) (by kernel_rfl)
    (fun x => by kernel_rfl) (fun n => by
      rintro ⟨⟨⟩, ⟨⟩⟩
      kernel_rfl)
    (fun n => obl_of (by kernel_rfl) (by kernel_rfl) (lz) (cn (cn (cn (cz) (by kernel_rfl)) (by kernel_rfl)) (by kernel_rfl)) (hn fun _ => rfl))
    (fun n ih => asc_cons (law22_end_ok ok n) <| asc_cons (pendulumsee_Same_ok ok n) <| asc_cons (ref_Placed_ok ok n) <| asc_cons (verify_Object_ok ok n) <| asc_nil)
/-! ### pendulum/pendulumworld.Number -/
abbrev world_Number_ins : Sh := ⟨[(.one (.val (.int .i64))), (.one (.val (.int .i64)))], []⟩
abbrev world_Number_outs : List Sh := [⟨[(.one (.val (.int .i64)))], []⟩]
def world_Number : Nat → world_Number_ins.T → Option (OutsT world_Number_outs)
  | 0, _ => none
  | n + 1, ((x1, x2, _), _) =>
    if x2 = 0 then
      none
    else
      if decide (Int.tmod x1 x2 < 0) then
        let v3 : Int := IntKind.i64.wrap ((Int.tmod x1 x2) + x2)
        some ((v3, ()), ())
      else
        some ((Int.tmod x1 x2, ()), ())
def world_Number_H (n : Nat) : Hints := ⟨[], fun _ => [], fun _ => none, fun _ => none, fun _ => none⟩
def world_Number_O (n : Nat) : FuncId → List FSpec := asc []
def b5 : Code := bodyOf Tryd.f5
theorem world_Number_ok {S : Nat → Addr} (ok : CfgOk P CC S) : ∀ n, SpecOk P CC S 5 ⟨world_Number_ins, world_Number_outs, world_Number n⟩ :=
  fn_all ok (O := world_Number_O) (H := world_Number_H) (fn := Tryd.f5) (body := b5) (by kernel_rfl) (by kernel_rfl) (by kernel_rfl) (by decide) (by kernel_rfl)
    (fun x => by kernel_rfl) (fun n => by
      rintro ⟨⟨x1, x2, ⟨⟩⟩, ⟨⟩⟩
      kernel_rfl)
    (fun n => obl_of (by kernel_rfl) (by kernel_rfl) (lz) (cn (cn (cn (cn (cn (cz) (by kernel_rfl)) (by kernel_rfl)) (by kernel_rfl)) (by kernel_rfl)) (by kernel_rfl)) (hn fun _ => rfl))
    (fun n ih => asc_nil)
/-! ### strconv.Itoa (by hand) -/
abbrev strconv_Itoa_ins : Sh := ⟨[(.one (.val (.int .i64)))], []⟩
abbrev strconv_Itoa_outs : List Sh := [⟨[(.one (.val .str))], []⟩]
def strconv_Itoa : Nat → strconv_Itoa_ins.T → Option (OutsT strconv_Itoa_outs) := fun _ => itoaSem
theorem strconv_Itoa_ok {S : Nat → Addr} (ok : CfgOk P CC S) : ∀ n, SpecOk P CC S 13 ⟨strconv_Itoa_ins, strconv_Itoa_outs, strconv_Itoa n⟩ := fun n => itoa_spec ⟨Tryd.f13, by kernel_rfl, by kernel_rfl, by kernel_rfl⟩ (.head _) (by kernel_rfl) Tryd.strconv_Itoa
/-! ### pendulum/pendulumworld.Num -/
abbrev world_Num_ins : Sh := ⟨[(.one (.val (.int .i64)))], []⟩
abbrev world_Num_outs : List Sh := [⟨[(.one (.val .str))], []⟩]
def world_Num : Nat → world_Num_ins.T → Option (OutsT world_Num_outs)
  | 0, _ => none
  | n + 1, ((x1, _), _) =>
    match strconv_Itoa n ((x1, ()), ()) with
    | some ((x2, _), _) => (
      some ((x2, ()), ()))
    | none => none
def world_Num_H (n : Nat) : Hints := ⟨[], fun _ => [], fun _ => none, fun _ => none, fun _ => none⟩
def world_Num_O (n : Nat) : FuncId → List FSpec := asc [(13, ⟨strconv_Itoa_ins, strconv_Itoa_outs, strconv_Itoa n⟩)]
def b6 : Code := bodyOf Tryd.f6
theorem world_Num_ok {S : Nat → Addr} (ok : CfgOk P CC S) : ∀ n, SpecOk P CC S 6 ⟨world_Num_ins, world_Num_outs, world_Num n⟩ :=
  fn_all ok (O := world_Num_O) (H := world_Num_H) (fn := Tryd.f6) (body := b6) (by kernel_rfl) (by kernel_rfl) (by kernel_rfl) (by decide) (by kernel_rfl)
    (fun x => by kernel_rfl) (fun n => by
      rintro ⟨⟨x1, ⟨⟩⟩, ⟨⟩⟩
      kernel_rfl)
    (fun n => obl_of (by kernel_rfl) (by kernel_rfl) (lz) (cn (cn (cz) (by kernel_rfl)) (by kernel_rfl)) (hn fun _ => rfl))
    (fun n ih => asc_cons (strconv_Itoa_ok ok n) <| asc_nil)
/-! ### pendulum/lay.named -/
abbrev lay_named_ins : Sh := ⟨[(.one (.val ty22))], []⟩
abbrev lay_named_outs : List Sh := [⟨[(.tup [(false, [(.map 0)]), (false, [(.val .err)])])], [(.map .str ty10 true)]⟩, ⟨[(.tup [(false, [.nilmap]), (false, [(.val .err)])])], []⟩]
abbrev lay_named_l3_h : Sh := ⟨[(.one (.map 0)), (.one (.val ty22)), (.one (.val (.int .i64))), (.one (.val (.int .i64)))], [(.map .str ty10 true)]⟩
abbrev lay_named_l3_o : List Out := [⟨(.exit 0), [4], ⟨[(.one (.map 0))], [(.map .str ty10 true)]⟩⟩, ⟨.ret, [2, 3], ⟨[(.one .nilmap), (.one (.val .err))], []⟩⟩]
def lay_named_l3 (n : Nat) : Nat → lay_named_l3_h.T → Option (OutT lay_named_l3_o)
  | 0, _ => none
  | k + 1, ((_, x1, x2, x3, _), (m4, _)) =>
    if decide (x3 < x2) then
      if 0 ≤ x3 ∧ x3 < (x1.length : Int) then (
        let v5 : ty10.T := (mfind (keyEq (.str : Ty)) ((rdT ty10 x1 x3).1) m4).getD ((⟨#[]⟩ : ByteArray), ([], ([], (0, ([], ((true, []), []))))))
        if (mfind (keyEq (.str : Ty)) ((rdT ty10 x1 x3).1) m4).isSome then
          some (.inr (.inl (((), ErrV.sent 110, ()), ())))
        else
          let v6 : Int := IntKind.i64.wrap (x3 + 1)
          lay_named_l3 n k (((), x1, x2, v6, ()), (mset (keyEq (.str : Ty)) ((rdT ty10 x1 x3).1) ((rdT ty10 x1 x3).1, (((rdT ty10 x1 x3).2).1, ((((rdT ty10 x1 x3).2).2).1, (((((rdT ty10 x1 x3).2).2).2).1, ((((((rdT ty10 x1 x3).2).2).2).2).1, ((((((rdT ty10 x1 x3).2).2).2).2).2)))))) m4, ()))) else none
    else
      some (.inl (((), ()), (m4, ())))
def lay_named : Nat → lay_named_ins.T → Option (OutsT lay_named_outs)
  | 0, _ => none
  | n + 1, ((x1, _), _) =>
    match lay_named_l3 n n (((), x1, (x1.length : Int), 0, ()), ([], ())) with
    | some (.inl ((_, _), (m2, _))) => (
      some (.inl (((((), ()), (ErrV.nil, ()), ()), ()), (m2, ()))))
    | some (.inr (.inl ((_, x3, _), _))) => (
      some (.inr ((((((), ()), (x3, ()), ()), ()), ()))))
    | some (.inr (.inr (_))) => none
    | none => none
def lay_named_H (n : Nat) : Hints := ⟨[], fun _ => [], fun k => match k with | 3 => some ⟨[4, 10, 11, 12], lay_named_l3_h, lay_named_l3_o, lay_named_l3 n⟩ | _ => none, fun _ => none, fun _ => none⟩
def lay_named_O (n : Nat) : FuncId → List FSpec := asc []
def b33 : Code := bodyOf Tryd.f33
theorem lay_named_l3_k0 (n : Nat) : LoopOk P CC (lay_named_O n) n 0 31 (lay_named_H n) ⟨[4, 10, 11, 12], lay_named_l3_h, lay_named_l3_o, lay_named_l3 n⟩ ((loopsOf b33).getD 0 .skip) := by
  refine ⟨fun _ => by kernel_rfl, ?_⟩
  rintro k ⟨⟨⟨⟩, x1, x2, x3, ⟨⟩⟩, ⟨x4, ⟨⟩⟩⟩
  kernel_rfl
theorem lay_named_ok {S : Nat → Addr} (ok : CfgOk P CC S) : ∀ n, SpecOk P CC S 33 ⟨lay_named_ins, lay_named_outs, lay_named n⟩ :=
  fn_all ok (O := lay_named_O) (H := lay_named_H) (fn := Tryd.f33) (body := b33) (by kernel_rfl) (by kernel_rfl) (by kernel_rfl) (by decide) (by kernel_rfl)
    (fun x => by kernel_rfl) (fun n => by
      rintro ⟨⟨x1, ⟨⟩⟩, ⟨⟩⟩
      kernel_rfl)
    (fun n => obl_of (by kernel_rfl) (by kernel_rfl) (ls (lz) (by kernel_rfl) (lay_named_l3_k0 n)) (cn (cn (cn (cn (cn (cn (cn (cn (cn (cn (cn (cn (cn (cz) (by kernel_rfl)) (by kernel_rfl)) (by kernel_rfl)) (by kernel_rfl)) (by kernel_rfl)) (by kernel_rfl)) (by kernel_rfl)) (by kernel_rfl)) (by kernel_rfl)) (by kernel_rfl)) (by kernel_rfl)) (by kernel_rfl)) (by kernel_rfl)) (hn fun _ => rfl))
    (fun n ih => asc_nil)
/-! ### pendulum/lay.Uses -/
abbrev lay_Uses_ins : Sh := ⟨[(.one (.val .str)), (.one (.val ty22))], []⟩
abbrev lay_Uses_outs : List Sh := [⟨[(.tup [(false, [(.arr 0)]), (false, [(.val .err)])])], [(.arr 9 .str)]⟩]
abbrev lay_Uses_l15_h : Sh := ⟨[(.one (.map 0)), (.one (.map 1)), (.one (.arr 2)), (.one (.val ty20)), (.one (.val (.int .i64))), (.one (.val (.int .i64)))], [(.map .str ty10 true), (.map .str (.int .i64) false), (.arr 9 .str)]⟩
abbrev lay_Uses_l15_o : List Out := [⟨(.exit 2), [6, 8, 9], ⟨[(.one (.map 0)), (.one (.map 1)), (.one (.arr 2))], [(.map .str ty10 true), (.map .str (.int .i64) false), (.arr 9 .str)]⟩⟩]
def lay_Uses_l15 (n : Nat) : Nat → lay_Uses_l15_h.T → Option (OutT lay_Uses_l15_o)
  | 0, _ => none
  | k + 1, ((_, _, _, x1, x2, x3, _), (m4, m5, l6, _)) =>
    if decide (x3 < x2) then
      if 0 ≤ x3 ∧ x3 < (x1.length : Int) then (
        let v7 : Int := (mfind (keyEq (.str : Ty)) ((rdT ty2 x1 x3).2) m5).getD 0
        if v7 == 0 then
          if (l6.length + ([(rdT ty2 x1 x3).2] : List (.str : Ty).T).length) * 16 ≤ 140737488355328 then (
            let v8 : Int := IntKind.i64.wrap (x3 + 1)
            lay_Uses_l15 n k (((), (), (), x1, x2, v8, ()), (m4, m5, l6 ++ [(rdT ty2 x1 x3).2], ()))) else none
        else
          let v9 : Int := IntKind.i64.wrap (x3 + 1)
          lay_Uses_l15 n k (((), (), (), x1, x2, v9, ()), (m4, m5, l6, ()))) else none
    else
      some (.inl (((), (), (), ()), (m4, m5, l6, ())))
abbrev lay_Uses_l6_h : Sh := ⟨[(.one (.map 0)), (.one (.map 1)), (.one (.arr 2))], [(.map .str ty10 true), (.map .str (.int .i64) false), (.arr 9 .str)]⟩
abbrev lay_Uses_l6_o : List Out := [⟨(.exit 0), [8], ⟨[(.one (.map 0))], [(.map .str (.int .i64) false)]⟩⟩, ⟨.ret, [4, 5], ⟨[(.one (.emp true)), (.one (.val .err))], []⟩⟩]
def lay_Uses_l6 (n : Nat) : Nat → lay_Uses_l6_h.T → Option (OutT lay_Uses_l6_o)
  | 0, _ => none
  | k + 1, ((_, _, _, _), (m1, m2, l3, _)) =>
    if decide ((l3.length : Int) > 0) then
      if 0 ≤ (0 : Int) ∧ (0 : Int) < (l3.length : Int) then (
        if 0 ≤ (1 : Int) ∧ (1 : Int) ≤ (l3.length : Int) then (
          let v4 : Int := (mfind (keyEq (.str : Ty)) (rdT (.str : Ty) l3 0) m2).getD 0
          if decide (v4 > 0) then
            lay_Uses_l6 n k (((), (), (), ()), (m1, m2, cutL l3 1 (l3.length : Int), ()))
          else
            let v5 : ty10.T := (mfind (keyEq (.str : Ty)) (rdT (.str : Ty) l3 0) m1).getD ((⟨#[]⟩ : ByteArray), ([], ([], (0, ([], ((true, []), []))))))
            if !((mfind (keyEq (.str : Ty)) (rdT (.str : Ty) l3 0) m1).isSome) then
              some (.inr (.inl (((), ErrV.sent 116, ()), ())))
            else
              match lay_Uses_l15 n n (((), (), (), v5.2.2.2.2.2.1.2, (v5.2.2.2.2.2.1.2.length : Int), 0, ()), (m1, mset (keyEq (.str : Ty)) (rdT (.str : Ty) l3 0) 1 m2, cutL l3 1 (l3.length : Int), ())) with
              | some (.inl ((_, _, _, _), (m6, m7, l8, _))) => (
                lay_Uses_l6 n k (((), (), (), ()), (m6, m7, l8, ())))
              | some (.inr (_)) => none
              | none => none) else none) else none
    else
      some (.inl (((), ()), (m2, ())))
def lay_Uses : Nat → lay_Uses_ins.T → Option (OutsT lay_Uses_outs)
  | 0, _ => none
  | n + 1, ((x1, x2, _), _) =>
    match lay_named n ((x2, ()), ()) with
    | some (.inl ((((_, _), (x3, _), _), _), (m4, _))) => (
      if !(errNil x3) then
        some (((((), ()), (x3, ()), ()), ()), ([], ()))
      else
        match lay_Uses_l6 n n (((), (), (), ()), (m4, [], [x1], ())) with
        | some (.inl ((_, _), (m6, _))) => (
          match usSem (((), (), ()), (m6, [], ())) with
          | some (.inl ((_, x8, _), (l9, _))) => (
            some (((((), ()), (x8, ()), ()), ()), (l9, ())))
          | some (.inr (_)) => none
          | none => none)
        | some (.inr (.inl ((_, x7, _), _))) => (
          some (((((), ()), (x7, ()), ()), ()), ([], ())))
        | some (.inr (.inr (_))) => none
        | none => none)
    | some (.inr (((((_, _), (x5, _), _), _), _))) => (
      if !(errNil x5) then (
        some (((((), ()), (x5, ()), ()), ()), ([], ()))) else none)
    | none => none
def lay_Uses_H (n : Nat) : Hints := ⟨[35], fun _ => [], fun k => match k with | 15 => some ⟨[6, 8, 9, 52, 53, 54], lay_Uses_l15_h, lay_Uses_l15_o, lay_Uses_l15 n⟩ | 6 => some ⟨[6, 8, 9], lay_Uses_l6_h, lay_Uses_l6_o, lay_Uses_l6 n⟩ | _ => none, fun _ => none, fun k => match k with | 21 => some ⟨[8, 15], usH, usO, fun _ => usSem⟩ | _ => none⟩
def lay_Uses_O (n : Nat) : FuncId → List FSpec := asc [(33, ⟨lay_named_ins, lay_named_outs, lay_named n⟩)]
def b15 : Code := bodyOf Tryd.f15
theorem lay_Uses_l6_k0 (n : Nat) : LoopOk P CC (lay_Uses_O n) n 0 82 (lay_Uses_H n) ⟨[6, 8, 9], lay_Uses_l6_h, lay_Uses_l6_o, lay_Uses_l6 n⟩ ((loopsOf b15).getD 0 .skip) := by
  refine ⟨fun _ => by kernel_rfl, ?_⟩
  rintro k ⟨⟨⟨⟩, ⟨⟩, ⟨⟩, ⟨⟩⟩, ⟨x1, x2, x3, ⟨⟩⟩⟩
  kernel_rfl
theorem lay_Uses_l15_k1 (n : Nat) : LoopOk P CC (lay_Uses_O n) n 0 82 (lay_Uses_H n) ⟨[6, 8, 9, 52, 53, 54], lay_Uses_l15_h, lay_Uses_l15_o, lay_Uses_l15 n⟩ ((loopsOf b15).getD 1 .skip) := by
  refine ⟨fun _ => by kernel_rfl, ?_⟩
  rintro k ⟨⟨⟨⟩, ⟨⟩, ⟨⟩, x1, x2, x3, ⟨⟩⟩, ⟨x4, x5, x6, ⟨⟩⟩⟩
  kernel_rfl
theorem lay_Uses_ok {S : Nat → Addr} (ok : CfgOk P CC S) : ∀ n, SpecOk P CC S 15 ⟨lay_Uses_ins, lay_Uses_outs, lay_Uses n⟩ :=
  fn_all ok (O := lay_Uses_O) (H := lay_Uses_H) (fn := Tryd.f15) (body := b15) (by kernel_rfl) (by kernel_rfl) (by kernel_rfl) (by decide) (by kernel_rfl)
    (fun x => by kernel_rfl) (fun n => by
      rintro ⟨⟨x1, x2, ⟨⟩⟩, ⟨⟩⟩
      kernel_rfl)
    (fun n => obl_of (by kernel_rfl) (by kernel_rfl) (ln (ls (ls (lz) (by kernel_rfl) (lay_Uses_l6_k0 n)) (by kernel_rfl) (lay_Uses_l15_k1 n)) (by kernel_rfl)) (cn (cn (cn (cn (cn (cn (cn (cn (cn (cn (cn (cn (cn (cn (cn (cn (cn (cn (cn (cn (cn (cn (cn (cn (cn (cn (cn (cn (cn (cn (cn (cn (cn (cz) (by kernel_rfl)) (by kernel_rfl)) (by kernel_rfl)) (by kernel_rfl)) (by kernel_rfl)) (by kernel_rfl)) (by kernel_rfl)) (by kernel_rfl)) (by kernel_rfl)) (by kernel_rfl)) (by kernel_rfl)) (by kernel_rfl)) (by kernel_rfl)) (by kernel_rfl)) (by kernel_rfl)) (by kernel_rfl)) (by kernel_rfl)) (by kernel_rfl)) (by kernel_rfl)) (by kernel_rfl)) (by kernel_rfl)) (by kernel_rfl)) (by kernel_rfl)) (by kernel_rfl)) (by kernel_rfl)) (by kernel_rfl)) (by kernel_rfl)) (by kernel_rfl)) (by kernel_rfl)) (by kernel_rfl)) (by kernel_rfl)) (by kernel_rfl)) (by kernel_rfl)) (hdall (by kernel_rfl) (hdo (hdo (hdo (hdo (hdo (hds (hds (hdo (hdo (hdo (hdo (hdo (hdo (hdo (hdo (hdo (hdo (hdo (hdo (hdo (hdo (hdo (hdo (hdo (hdo (hdo (hdo (hdo (hdo (hdo (hdo (hdo (hdo (hdz) (by kernel_rfl)) (by kernel_rfl)) (by kernel_rfl)) (by kernel_rfl)) (by kernel_rfl)) (by kernel_rfl)) (by kernel_rfl)) (by kernel_rfl)) (by kernel_rfl)) (by kernel_rfl)) (by kernel_rfl)) (by kernel_rfl)) (by kernel_rfl)) (by kernel_rfl)) (by kernel_rfl)) (by kernel_rfl)) (by kernel_rfl)) (by kernel_rfl)) (by kernel_rfl)) (by kernel_rfl)) (by kernel_rfl)) (by kernel_rfl)) (by kernel_rfl)) (by kernel_rfl)) (by kernel_rfl)) (by kernel_rfl)) (p := HandOk P CC n 0 82 ⟨[8, 15], usH, usO, fun _ => usSem⟩ usA (.region 25 us25 false) (.region 26 us26 false)) (by kernel_rfl) (us_hand n)) (p := True) (by kernel_rfl) trivial) (by kernel_rfl)) (by kernel_rfl)) (by kernel_rfl)) (by kernel_rfl)) (by kernel_rfl))))
    (fun n ih => asc_cons (lay_named_ok ok n) <| asc_nil)
/-! ### pendulum/lay.depths -/
abbrev lay_depths_ins : Sh := ⟨[(.one (.val ty19)), (.one (.map 0))], [(.map .str ty10 true)]⟩
abbrev lay_depths_outs : List Sh := [⟨[(.tup [(false, [(.map 1)]), (false, [(.val .bool)])])], [(.map .str ty10 true), (.map .str (.int .i64) false)]⟩]
abbrev lay_depths_l9_h : Sh := ⟨[(.one (.val ty19)), (.one (.map 0)), (.one (.map 1)), (.one (.val .str)), (.one (.val (.int .i64))), (.one (.val (.int .i64))), (.one (.val (.int .i64))), (.one (.val ty19)), (.one (.val (.int .i64))), (.one (.val (.int .i64))), (.one (.val ty20)), (.one (.val (.int .i64))), (.one (.val (.int .i64)))], [(.map .str ty10 true), (.map .str (.int .i64) false)]⟩
abbrev lay_depths_l9_o : List Out := [⟨(.exit 4), [0, 1, 6, 8, 9, 14, 15, 17, 18, 19], ⟨[(.one (.val ty19)), (.one (.map 0)), (.one (.map 1)), (.one (.val .str)), (.one (.val (.int .i64))), (.one (.val (.int .i64))), (.one (.val (.int .i64))), (.one (.val ty19)), (.one (.val (.int .i64))), (.one (.val (.int .i64)))], [(.map .str ty10 true), (.map .str (.int .i64) false)]⟩⟩]
def lay_depths_l9 (n : Nat) : Nat → lay_depths_l9_h.T → Option (OutT lay_depths_l9_o)
  | 0, _ => none
  | k + 1, ((x1, _, _, x2, x3, x4, x5, x6, x7, x8, x9, x10, x11, _), (m12, m13, _)) =>
    if decide (x11 < x10) then
      if 0 ≤ x11 ∧ x11 < (x9.length : Int) then (
        let v14 : Int := (mfind (keyEq (.str : Ty)) ((rdT ty2 x9 x11).2) m13).getD 0
        if v14 == 0 then
          some (.inl ((x1, (), (), x2, 0, x4, x5, x6, x7, x8, ()), (m12, m13, ())))
        else
          let v15 : Int := (mfind (keyEq (.str : Ty)) ((rdT ty2 x9 x11).2) m13).getD 0
          let v16 : Int := IntKind.i64.wrap (v15 + 1)
          let v17 : Int := IntKind.i64.wrap (x11 + 1)
          lay_depths_l9 n k ((x1, (), (), x2, mx x3 v16, x4, x5, x6, x7, x8, x9, x10, v17, ()), (m12, m13, ()))) else none
    else
      some (.inl ((x1, (), (), x2, x3, x4, x5, x6, x7, x8, ()), (m12, m13, ())))
abbrev lay_depths_l5_h : Sh := ⟨[(.one (.val ty19)), (.one (.map 0)), (.one (.map 1)), (.one (.val (.int .i64))), (.one (.val (.int .i64))), (.one (.val ty19)), (.one (.val (.int .i64))), (.one (.val (.int .i64)))], [(.map .str ty10 true), (.map .str (.int .i64) false)]⟩
abbrev lay_depths_l5_o : List Out := [⟨(.exit 2), [0, 1, 6, 14, 15], ⟨[(.one (.val ty19)), (.one (.map 0)), (.one (.map 1)), (.one (.val (.int .i64))), (.one (.val (.int .i64)))], [(.map .str ty10 true), (.map .str (.int .i64) false)]⟩⟩]
def lay_depths_l5 (n : Nat) : Nat → lay_depths_l5_h.T → Option (OutT lay_depths_l5_o)
  | 0, _ => none
  | k + 1, ((x1, _, _, x2, x3, x4, x5, x6, _), (m7, m8, _)) =>
    if decide (x6 < x5) then
      if 0 ≤ x6 ∧ x6 < (x4.length : Int) then (
        let v9 : ty10.T := (mfind (keyEq (.str : Ty)) (rdT (.str : Ty) x4 x6) m7).getD ((⟨#[]⟩ : ByteArray), ([], ([], (0, ([], ((true, []), []))))))
        match lay_depths_l9 n n ((x1, (), (), rdT (.str : Ty) x4 x6, 1, x2, x3, x4, x5, x6, v9.2.2.2.2.2.1.2, (v9.2.2.2.2.2.1.2.length : Int), 0, ()), (m7, m8, ())) with
        | some (.inl ((x10, _, _, x11, x12, x13, x14, x15, x16, x17, _), (m18, m19, _))) => (
          if decide (x12 > 0) then
            let v20 : Int := IntKind.i64.wrap (x17 + 1)
            lay_depths_l5 n k ((x10, (), (), x13, x14, x15, x16, v20, ()), (m18, mset (keyEq (.str : Ty)) x11 x12 m19, ()))
          else
            let v21 : Int := IntKind.i64.wrap (x17 + 1)
            lay_depths_l5 n k ((x10, (), (), x13, x14, x15, x16, v21, ()), (m18, m19, ())))
        | some (.inr (_)) => none
        | none => none) else none
    else
      some (.inl ((x1, (), (), x2, x3, ()), (m7, m8, ())))
abbrev lay_depths_l3_h : Sh := ⟨[(.one (.val ty19)), (.one (.map 0)), (.one (.map 1)), (.one (.val (.int .i64))), (.one (.val (.int .i64)))], [(.map .str ty10 true), (.map .str (.int .i64) false)]⟩
abbrev lay_depths_l3_o : List Out := [⟨(.exit 0), [0, 6], ⟨[(.one (.val ty19)), (.one (.map 1))], [(.map .str ty10 true), (.map .str (.int .i64) false)]⟩⟩]
def lay_depths_l3 (n : Nat) : Nat → lay_depths_l3_h.T → Option (OutT lay_depths_l3_o)
  | 0, _ => none
  | k + 1, ((x1, _, _, x2, x3, _), (m4, m5, _)) =>
    if decide (x3 < x2) then
      match lay_depths_l5 n n ((x1, (), (), x2, x3, x1, (x1.length : Int), 0, ()), (m4, m5, ())) with
      | some (.inl ((x6, _, _, x7, x8, _), (m9, m10, _))) => (
        let v11 : Int := IntKind.i64.wrap (x8 + 1)
        lay_depths_l3 n k ((x6, (), (), x7, v11, ()), (m9, m10, ())))
      | some (.inr (_)) => none
      | none => none
    else
      some (.inl ((x1, (), ()), (m4, m5, ())))
def lay_depths : Nat → lay_depths_ins.T → Option (OutsT lay_depths_outs)
  | 0, _ => none
  | n + 1, ((x1, _, _), (m2, _)) =>
    match lay_depths_l3 n n ((x1, (), (), (x1.length : Int), 0, ()), (m2, [], ())) with
    | some (.inl ((x3, _, _), (m4, m5, _))) => (
      some (((((), ()), ((m5.length : Int) == (x3.length : Int), ()), ()), ()), (m4, m5, ())))
    | some (.inr (_)) => none
    | none => none
def lay_depths_H (n : Nat) : Hints := ⟨[], fun _ => [], fun k => match k with | 9 => some ⟨[0, 1, 6, 8, 9, 14, 15, 17, 18, 19, 26, 27, 28], lay_depths_l9_h, lay_depths_l9_o, lay_depths_l9 n⟩ | 5 => some ⟨[0, 1, 6, 14, 15, 17, 18, 19], lay_depths_l5_h, lay_depths_l5_o, lay_depths_l5 n⟩ | 3 => some ⟨[0, 1, 6, 14, 15], lay_depths_l3_h, lay_depths_l3_o, lay_depths_l3 n⟩ | _ => none, fun _ => none, fun _ => none⟩
def lay_depths_O (n : Nat) : FuncId → List FSpec := asc []
def b51 : Code := bodyOf Tryd.f51
theorem lay_depths_l3_k0 (n : Nat) : LoopOk P CC (lay_depths_O n) n 1 58 (lay_depths_H n) ⟨[0, 1, 6, 14, 15], lay_depths_l3_h, lay_depths_l3_o, lay_depths_l3 n⟩ ((loopsOf b51).getD 0 .skip) := by
  refine ⟨fun _ => by kernel_rfl, ?_⟩
  rintro k ⟨⟨x1, ⟨⟩, ⟨⟩, x2, x3, ⟨⟩⟩, ⟨x4, x5, ⟨⟩⟩⟩
  kernel_rfl
theorem lay_depths_l5_k1 (n : Nat) : LoopOk P CC (lay_depths_O n) n 1 58 (lay_depths_H n) ⟨[0, 1, 6, 14, 15, 17, 18, 19], lay_depths_l5_h, lay_depths_l5_o, lay_depths_l5 n⟩ ((loopsOf b51).getD 1 .skip) := by
  refine ⟨fun _ => by kernel_rfl, ?_⟩
  rintro k ⟨⟨x1, ⟨⟩, ⟨⟩, x2, x3, x4, x5, x6, ⟨⟩⟩, ⟨x7, x8, ⟨⟩⟩⟩
  kernel_rfl
theorem lay_depths_l9_k2 (n : Nat) : LoopOk P CC (lay_depths_O n) n 1 58 (lay_depths_H n) ⟨[0, 1, 6, 8, 9, 14, 15, 17, 18, 19, 26, 27, 28], lay_depths_l9_h, lay_depths_l9_o, lay_depths_l9 n⟩ ((loopsOf b51).getD 2 .skip) := by
  refine ⟨fun _ => by kernel_rfl, ?_⟩
  rintro k ⟨⟨x1, ⟨⟩, ⟨⟩, x2, x3, x4, x5, x6, x7, x8, x9, x10, x11, ⟨⟩⟩, ⟨x12, x13, ⟨⟩⟩⟩
  kernel_rfl
theorem lay_depths_ok {S : Nat → Addr} (ok : CfgOk P CC S) : ∀ n, SpecOk P CC S 51 ⟨lay_depths_ins, lay_depths_outs, lay_depths n⟩ :=
  fn_all ok (O := lay_depths_O) (H := lay_depths_H) (fn := Tryd.f51) (body := b51) (by kernel_rfl) (by kernel_rfl) (by kernel_rfl) (by decide) (by kernel_rfl)
    (fun x => by kernel_rfl) (fun n => by
      rintro ⟨⟨x1, ⟨⟩, ⟨⟩⟩, ⟨x2, ⟨⟩⟩⟩
      kernel_rfl)
    (fun n => obl_of (by kernel_rfl) (by kernel_rfl) (ls (ls (ls (lz) (by kernel_rfl) (lay_depths_l3_k0 n)) (by kernel_rfl) (lay_depths_l5_k1 n)) (by kernel_rfl) (lay_depths_l9_k2 n)) (cn (cn (cn (cn (cn (cn (cn (cn (cn (cn (cn (cn (cn (cn (cn (cn (cn (cn (cn (cn (cn (cn (cn (cn (cz) (by kernel_rfl)) (by kernel_rfl)) (by kernel_rfl)) (by kernel_rfl)) (by kernel_rfl)) (by kernel_rfl)) (by kernel_rfl)) (by kernel_rfl)) (by kernel_rfl)) (by kernel_rfl)) (by kernel_rfl)) (by kernel_rfl)) (by kernel_rfl)) (by kernel_rfl)) (by kernel_rfl)) (by kernel_rfl)) (by kernel_rfl)) (by kernel_rfl)) (by kernel_rfl)) (by kernel_rfl)) (by kernel_rfl)) (by kernel_rfl)) (by kernel_rfl)) (by kernel_rfl)) (hn fun _ => rfl))
    (fun n ih => asc_nil)
end
end Go.Proofs.YtkcgcaefhoepoaaDoor.Cm

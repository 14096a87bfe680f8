/- Printed by cmtext.py: the code as plain functions. -/
import Derived.Test.YtkoeofaeigchpaaDoorCmFo
import Derived.Test.YtkoeofaeigchpaaDoorShelf
import Derived.Test.YtkoeofaeigchpaaDoorCmUs
namespace Go.Proofs.YtkoeofaeigchpaaDoor.Cm
open Go
noncomputable section
set_option linter.unusedVariables false
set_option maxRecDepth 100000
abbrev P := Tryd.prog
abbrev CC : Cfg := ⟨127, 80, 84, [(103, 5), (108, 2), (109, 0), (110, 4), (113, 1), (116, 3)], [(21, tabP (fun z => Value.int .u64 z) Lib.pow10Tab)], []⟩
abbrev ty2 : Ty := (.slice 3 (.int .i64))
abbrev ty8 : Ty := (.pair (.int .i64) (.int .i64))
abbrev ty7 : Ty := (.pair .str ty8)
abbrev ty6 : Ty := (.slice 53 ty7)
abbrev ty11 : Ty := (.pair .str .str)
abbrev ty10 : Ty := (.slice 33 ty11)
abbrev ty16 : Ty := (.pair (.int .i64) ty8)
abbrev ty15 : Ty := (.pair (.int .i64) ty16)
abbrev ty14 : Ty := (.pair (.int .i64) ty15)
abbrev ty13 : Ty := (.pair (.int .i64) ty14)
abbrev ty12 : Ty := (.slice 144 ty13)
abbrev ty9 : Ty := (.pair ty10 ty12)
abbrev ty5 : Ty := (.pair ty6 ty9)
abbrev ty4 : Ty := (.pair (.int .i64) ty5)
abbrev ty3 : Ty := (.pair ty2 ty4)
abbrev ty1 : Ty := (.pair ty2 ty3)
abbrev ty0 : Ty := (.pair .str ty1)
abbrev ty17 : Ty := (.slice 31 ty0)
abbrev ty18 : Ty := (.slice 9 .str)
abbrev ty19 : Ty := (.slice 44 ty7)
/-! ### pendulum/lay.named -/
abbrev lay_named_ins : Sh := ⟨[(.one (.val ty17))], []⟩
abbrev lay_named_outs : List Sh := [⟨[(.tup [(false, [(.map 0)]), (false, [(.val .err)])])], [(.map .str ty0 true)]⟩, ⟨[(.tup [(false, [.nilmap]), (false, [(.val .err)])])], []⟩]
abbrev lay_named_l3_h : Sh := ⟨[(.one (.map 0)), (.one (.val ty17)), (.one (.val (.int .i64))), (.one (.val (.int .i64)))], [(.map .str ty0 true)]⟩
abbrev lay_named_l3_o : List Out := [⟨(.exit 0), [4], ⟨[(.one (.map 0))], [(.map .str ty0 true)]⟩⟩, ⟨.ret, [2, 3], ⟨[(.one .nilmap), (.one (.val .err))], []⟩⟩]
def lay_named_l3 (n : Nat) : Nat → lay_named_l3_h.T → Option (OutT lay_named_l3_o)
  | 0, _ => none
  | k + 1, ((_, x1, x2, x3, _), (m4, _)) =>
    if decide (x3 < x2) then
      if 0 ≤ x3 ∧ x3 < (x1.length : Int) then (
        let v5 : ty0.T := (mfind (keyEq (.str : Ty)) ((rdT ty0 x1 x3).1) m4).getD ((⟨#[]⟩ : ByteArray), ([], ([], (0, ([], ([], []))))))
        if (mfind (keyEq (.str : Ty)) ((rdT ty0 x1 x3).1) m4).isSome then
          some (.inr (.inl (((), ErrV.sent 110, ()), ())))
        else
          let v6 : Int := IntKind.i64.wrap (x3 + 1)
          lay_named_l3 n k (((), x1, x2, v6, ()), (mset (keyEq (.str : Ty)) ((rdT ty0 x1 x3).1) ((rdT ty0 x1 x3).1, (((rdT ty0 x1 x3).2).1, ((((rdT ty0 x1 x3).2).2).1, (((((rdT ty0 x1 x3).2).2).2).1, ((((((rdT ty0 x1 x3).2).2).2).2).1, ((((((rdT ty0 x1 x3).2).2).2).2).2)))))) m4, ()))) else none
    else
      some (.inl (((), ()), (m4, ())))
def lay_named : Nat → lay_named_ins.T → Option (OutsT lay_named_outs)
  | 0, _ => none
  | n + 1, ((x1, _), _) =>
    match lay_named_l3 n n (((), x1, (x1.length : Int), 0, ()), ([], ())) with
    | some (.inl ((_, _), (m2, _))) => (
      some (.inl (((((), ()), (ErrV.nil, ()), ()), ()), (m2, ()))))
    | some (.inr (.inl ((_, x3, _), _))) => (
      some (.inr ((((((), ()), (x3, ()), ()), ()), ()))))
    | some (.inr (.inr (_))) => none
    | none => none
def lay_named_H (n : Nat) : Hints := ⟨[], fun _ => [], fun k => match k with | 3 => some ⟨[4, 10, 11, 12], lay_named_l3_h, lay_named_l3_o, lay_named_l3 n⟩ | _ => none, fun _ => none, fun _ => none⟩
def lay_named_O (n : Nat) : FuncId → List FSpec := asc []
def b23 : Code := bodyOf Tryd.f23
theorem lay_named_l3_k0 (n : Nat) : LoopOk P CC (lay_named_O n) n 0 31 (lay_named_H n) ⟨[4, 10, 11, 12], lay_named_l3_h, lay_named_l3_o, lay_named_l3 n⟩ ((loopsOf b23).getD 0 .skip) := by
  refine ⟨fun _ => by kernel_rfl, ?_⟩
  rintro k ⟨⟨⟨⟩, x1, x2, x3, ⟨⟩⟩, ⟨x4, ⟨⟩⟩⟩
  kernel_rfl
theorem lay_named_ok {S : Nat → Addr} (ok : CfgOk P CC S) : ∀ n, SpecOk P CC S 23 ⟨lay_named_ins, lay_named_outs, lay_named n⟩ :=
  fn_all ok (O := lay_named_O) (H := lay_named_H) (fn := Tryd.f23) (body := b23) (by kernel_rfl) (by kernel_rfl) (by kernel_rfl) (by decide) (by kernel_rfl)
    (fun x => by kernel_rfl) (fun n => by
      rintro ⟨⟨x1, ⟨⟩⟩, ⟨⟩⟩
      kernel_rfl)
    (fun n => obl_of (by kernel_rfl) (by kernel_rfl) (ls (lz) (by kernel_rfl) (lay_named_l3_k0 n)) (cn (cn (cn (cn (cn (cn (cn (cn (cn (cn (cn (cn (cn (cz) (by kernel_rfl)) (by kernel_rfl)) (by kernel_rfl)) (by kernel_rfl)) (by kernel_rfl)) (by kernel_rfl)) (by kernel_rfl)) (by kernel_rfl)) (by kernel_rfl)) (by kernel_rfl)) (by kernel_rfl)) (by kernel_rfl)) (by kernel_rfl)) (hn fun _ => rfl))
    (fun n ih => asc_nil)
/-! ### pendulum/lay.Uses -/
abbrev lay_Uses_ins : Sh := ⟨[(.one (.val .str)), (.one (.val ty17))], []⟩
abbrev lay_Uses_outs : List Sh := [⟨[(.tup [(false, [(.arr 0)]), (false, [(.val .err)])])], [(.arr 9 .str)]⟩]
abbrev lay_Uses_l15_h : Sh := ⟨[(.one (.map 0)), (.one (.map 1)), (.one (.arr 2)), (.one (.val ty10)), (.one (.val (.int .i64))), (.one (.val (.int .i64)))], [(.map .str ty0 true), (.map .str (.int .i64) false), (.arr 9 .str)]⟩
abbrev lay_Uses_l15_o : List Out := [⟨(.exit 2), [6, 8, 9], ⟨[(.one (.map 0)), (.one (.map 1)), (.one (.arr 2))], [(.map .str ty0 true), (.map .str (.int .i64) false), (.arr 9 .str)]⟩⟩]
def lay_Uses_l15 (n : Nat) : Nat → lay_Uses_l15_h.T → Option (OutT lay_Uses_l15_o)
  | 0, _ => none
  | k + 1, ((_, _, _, x1, x2, x3, _), (m4, m5, l6, _)) =>
    if decide (x3 < x2) then
      if 0 ≤ x3 ∧ x3 < (x1.length : Int) then (
        let v7 : Int := (mfind (keyEq (.str : Ty)) ((rdT ty11 x1 x3).2) m5).getD 0
        if v7 == 0 then
          if (l6.length + ([(rdT ty11 x1 x3).2] : List (.str : Ty).T).length) * 16 ≤ 140737488355328 then (
            let v8 : Int := IntKind.i64.wrap (x3 + 1)
            lay_Uses_l15 n k (((), (), (), x1, x2, v8, ()), (m4, m5, l6 ++ [(rdT ty11 x1 x3).2], ()))) else none
        else
          let v9 : Int := IntKind.i64.wrap (x3 + 1)
          lay_Uses_l15 n k (((), (), (), x1, x2, v9, ()), (m4, m5, l6, ()))) else none
    else
      some (.inl (((), (), (), ()), (m4, m5, l6, ())))
abbrev lay_Uses_l6_h : Sh := ⟨[(.one (.map 0)), (.one (.map 1)), (.one (.arr 2))], [(.map .str ty0 true), (.map .str (.int .i64) false), (.arr 9 .str)]⟩
abbrev lay_Uses_l6_o : List Out := [⟨(.exit 0), [8], ⟨[(.one (.map 0))], [(.map .str (.int .i64) false)]⟩⟩, ⟨.ret, [4, 5], ⟨[(.one (.emp true)), (.one (.val .err))], []⟩⟩]
def lay_Uses_l6 (n : Nat) : Nat → lay_Uses_l6_h.T → Option (OutT lay_Uses_l6_o)
  | 0, _ => none
  | k + 1, ((_, _, _, _), (m1, m2, l3, _)) =>
    if decide ((l3.length : Int) > 0) then
      if 0 ≤ (0 : Int) ∧ (0 : Int) < (l3.length : Int) then (
        if 0 ≤ (1 : Int) ∧ (1 : Int) ≤ (l3.length : Int) then (
          let v4 : Int := (mfind (keyEq (.str : Ty)) (rdT (.str : Ty) l3 0) m2).getD 0
          if decide (v4 > 0) then
            lay_Uses_l6 n k (((), (), (), ()), (m1, m2, cutL l3 1 (l3.length : Int), ()))
          else
            let v5 : ty0.T := (mfind (keyEq (.str : Ty)) (rdT (.str : Ty) l3 0) m1).getD ((⟨#[]⟩ : ByteArray), ([], ([], (0, ([], ([], []))))))
            if !((mfind (keyEq (.str : Ty)) (rdT (.str : Ty) l3 0) m1).isSome) then
              some (.inr (.inl (((), ErrV.sent 116, ()), ())))
            else
              match lay_Uses_l15 n n (((), (), (), v5.2.2.2.2.2.1, (v5.2.2.2.2.2.1.length : Int), 0, ()), (m1, mset (keyEq (.str : Ty)) (rdT (.str : Ty) l3 0) 1 m2, cutL l3 1 (l3.length : Int), ())) with
              | some (.inl ((_, _, _, _), (m6, m7, l8, _))) => (
                lay_Uses_l6 n k (((), (), (), ()), (m6, m7, l8, ())))
              | some (.inr (_)) => none
              | none => none) else none) else none
    else
      some (.inl (((), ()), (m2, ())))
def lay_Uses : Nat → lay_Uses_ins.T → Option (OutsT lay_Uses_outs)
  | 0, _ => none
  | n + 1, ((x1, x2, _), _) =>
    match lay_named n ((x2, ()), ()) with
    | some (.inl ((((_, _), (x3, _), _), _), (m4, _))) => (
      if !(errNil x3) then
        some (((((), ()), (x3, ()), ()), ()), ([], ()))
      else
        match lay_Uses_l6 n n (((), (), (), ()), (m4, [], [x1], ())) with
        | some (.inl ((_, _), (m6, _))) => (
          match usSem (((), (), ()), (m6, [], ())) with
          | some (.inl ((_, x8, _), (l9, _))) => (
            some (((((), ()), (x8, ()), ()), ()), (l9, ())))
          | some (.inr (_)) => none
          | none => none)
        | some (.inr (.inl ((_, x7, _), _))) => (
          some (((((), ()), (x7, ()), ()), ()), ([], ())))
        | some (.inr (.inr (_))) => none
        | none => none)
    | some (.inr (((((_, _), (x5, _), _), _), _))) => (
      if !(errNil x5) then (
        some (((((), ()), (x5, ()), ()), ()), ([], ()))) else none)
    | none => none
def lay_Uses_H (n : Nat) : Hints := ⟨[35], fun _ => [], fun k => match k with | 15 => some ⟨[6, 8, 9, 52, 53, 54], lay_Uses_l15_h, lay_Uses_l15_o, lay_Uses_l15 n⟩ | 6 => some ⟨[6, 8, 9], lay_Uses_l6_h, lay_Uses_l6_o, lay_Uses_l6 n⟩ | _ => none, fun _ => none, fun k => match k with | 21 => some ⟨[8, 15], usH, usO, fun _ => usSem⟩ | _ => none⟩
def lay_Uses_O (n : Nat) : FuncId → List FSpec := asc [(23, ⟨lay_named_ins, lay_named_outs, lay_named n⟩)]
def b22 : Code := bodyOf Tryd.f22
theorem lay_Uses_l6_k0 (n : Nat) : LoopOk P CC (lay_Uses_O n) n 0 82 (lay_Uses_H n) ⟨[6, 8, 9], lay_Uses_l6_h, lay_Uses_l6_o, lay_Uses_l6 n⟩ ((loopsOf b22).getD 0 .skip) := by
  refine ⟨fun _ => by kernel_rfl, ?_⟩
  rintro k ⟨⟨⟨⟩, ⟨⟩, ⟨⟩, ⟨⟩⟩, ⟨x1, x2, x3, ⟨⟩⟩⟩
  kernel_rfl
theorem lay_Uses_l15_k1 (n : Nat) : LoopOk P CC (lay_Uses_O n) n 0 82 (lay_Uses_H n) ⟨[6, 8, 9, 52, 53, 54], lay_Uses_l15_h, lay_Uses_l15_o, lay_Uses_l15 n⟩ ((loopsOf b22).getD 1 .skip) := by
  refine ⟨fun _ => by kernel_rfl, ?_⟩
  rintro k ⟨⟨⟨⟩, ⟨⟩, ⟨⟩, x1, x2, x3, ⟨⟩⟩, ⟨x4, x5, x6, ⟨⟩⟩⟩
  kernel_rfl
theorem lay_Uses_ok {S : Nat → Addr} (ok : CfgOk P CC S) : ∀ n, SpecOk P CC S 22 ⟨lay_Uses_ins, lay_Uses_outs, lay_Uses n⟩ :=
  fn_all ok (O := lay_Uses_O) (H := lay_Uses_H) (fn := Tryd.f22) (body := b22) (by kernel_rfl) (by kernel_rfl) (by kernel_rfl) (by decide) (by kernel_rfl)
    (fun x => by kernel_rfl) (fun n => by
      rintro ⟨⟨x1, x2, ⟨⟩⟩, ⟨⟩⟩
      kernel_rfl)
    (fun n => obl_of (by kernel_rfl) (by kernel_rfl) (ln (ls (ls (lz) (by kernel_rfl) (lay_Uses_l6_k0 n)) (by kernel_rfl) (lay_Uses_l15_k1 n)) (by kernel_rfl)) (cn (cn (cn (cn (cn (cn (cn (cn (cn (cn (cn (cn (cn (cn (cn (cn (cn (cn (cn (cn (cn (cn (cn (cn (cn (cn (cn (cn (cn (cn (cn (cn (cn (cz) (by kernel_rfl)) (by kernel_rfl)) (by kernel_rfl)) (by kernel_rfl)) (by kernel_rfl)) (by kernel_rfl)) (by kernel_rfl)) (by kernel_rfl)) (by kernel_rfl)) (by kernel_rfl)) (by kernel_rfl)) (by kernel_rfl)) (by kernel_rfl)) (by kernel_rfl)) (by kernel_rfl)) (by kernel_rfl)) (by kernel_rfl)) (by kernel_rfl)) (by kernel_rfl)) (by kernel_rfl)) (by kernel_rfl)) (by kernel_rfl)) (by kernel_rfl)) (by kernel_rfl)) (by kernel_rfl)) (by kernel_rfl)) (by kernel_rfl)) (by kernel_rfl)) (by kernel_rfl)) (by kernel_rfl)) (by kernel_rfl)) (by kernel_rfl)) (by kernel_rfl)) (hdall (by kernel_rfl) (hdo (hdo (hdo (hdo (hdo (hds (hds (hdo (hdo (hdo (hdo (hdo (hdo (hdo (hdo (hdo (hdo (hdo (hdo (hdo (hdo (hdo (hdo (hdo (hdo (hdo (hdo (hdo (hdo (hdo (hdo (hdo (hdo (hdz) (by kernel_rfl)) (by kernel_rfl)) (by kernel_rfl)) (by kernel_rfl)) (by kernel_rfl)) (by kernel_rfl)) (by kernel_rfl)) (by kernel_rfl)) (by kernel_rfl)) (by kernel_rfl)) (by kernel_rfl)) (by kernel_rfl)) (by kernel_rfl)) (by kernel_rfl)) (by kernel_rfl)) (by kernel_rfl)) (by kernel_rfl)) (by kernel_rfl)) (by kernel_rfl)) (by kernel_rfl)) (by kernel_rfl)) (by kernel_rfl)) (by kernel_rfl)) (by kernel_rfl)) (by kernel_rfl)) (by kernel_rfl)) (p := HandOk P CC n 0 82 ⟨[8, 15], usH, usO, fun _ => usSem⟩ usA (.region 25 us25 false) (.region 26 us26 false)) (by kernel_rfl) (us_hand n)) (p := True) (by kernel_rfl) trivial) (by kernel_rfl)) (by kernel_rfl)) (by kernel_rfl)) (by kernel_rfl)) (by kernel_rfl))))
    (fun n ih => asc_cons (lay_named_ok ok n) <| asc_nil)
/-! ### pendulum/lay.depths -/
abbrev lay_depths_ins : Sh := ⟨[(.one (.val ty18)), (.one (.map 0))], [(.map .str ty0 true)]⟩
abbrev lay_depths_outs : List Sh := [⟨[(.tup [(false, [(.map 1)]), (false, [(.val .bool)])])], [(.map .str ty0 true), (.map .str (.int .i64) false)]⟩]
abbrev lay_depths_l9_h : Sh := ⟨[(.one (.val ty18)), (.one (.map 0)), (.one (.map 1)), (.one (.val .str)), (.one (.val (.int .i64))), (.one (.val (.int .i64))), (.one (.val (.int .i64))), (.one (.val ty18)), (.one (.val (.int .i64))), (.one (.val (.int .i64))), (.one (.val ty10)), (.one (.val (.int .i64))), (.one (.val (.int .i64)))], [(.map .str ty0 true), (.map .str (.int .i64) false)]⟩
abbrev lay_depths_l9_o : List Out := [⟨(.exit 4), [0, 1, 6, 8, 9, 14, 15, 17, 18, 19], ⟨[(.one (.val ty18)), (.one (.map 0)), (.one (.map 1)), (.one (.val .str)), (.one (.val (.int .i64))), (.one (.val (.int .i64))), (.one (.val (.int .i64))), (.one (.val ty18)), (.one (.val (.int .i64))), (.one (.val (.int .i64)))], [(.map .str ty0 true), (.map .str (.int .i64) false)]⟩⟩]
def lay_depths_l9 (n : Nat) : Nat → lay_depths_l9_h.T → Option (OutT lay_depths_l9_o)
  | 0, _ => none
  | k + 1, ((x1, _, _, x2, x3, x4, x5, x6, x7, x8, x9, x10, x11, _), (m12, m13, _)) =>
    if decide (x11 < x10) then
      if 0 ≤ x11 ∧ x11 < (x9.length : Int) then (
        let v14 : Int := (mfind (keyEq (.str : Ty)) ((rdT ty11 x9 x11).2) m13).getD 0
        if v14 == 0 then
          some (.inl ((x1, (), (), x2, 0, x4, x5, x6, x7, x8, ()), (m12, m13, ())))
        else
          let v15 : Int := (mfind (keyEq (.str : Ty)) ((rdT ty11 x9 x11).2) m13).getD 0
          let v16 : Int := IntKind.i64.wrap (v15 + 1)
          let v17 : Int := IntKind.i64.wrap (x11 + 1)
          lay_depths_l9 n k ((x1, (), (), x2, mx x3 v16, x4, x5, x6, x7, x8, x9, x10, v17, ()), (m12, m13, ()))) else none
    else
      some (.inl ((x1, (), (), x2, x3, x4, x5, x6, x7, x8, ()), (m12, m13, ())))
abbrev lay_depths_l5_h : Sh := ⟨[(.one (.val ty18)), (.one (.map 0)), (.one (.map 1)), (.one (.val (.int .i64))), (.one (.val (.int .i64))), (.one (.val ty18)), (.one (.val (.int .i64))), (.one (.val (.int .i64)))], [(.map .str ty0 true), (.map .str (.int .i64) false)]⟩
abbrev lay_depths_l5_o : List Out := [⟨(.exit 2), [0, 1, 6, 14, 15], ⟨[(.one (.val ty18)), (.one (.map 0)), (.one (.map 1)), (.one (.val (.int .i64))), (.one (.val (.int .i64)))], [(.map .str ty0 true), (.map .str (.int .i64) false)]⟩⟩]
def lay_depths_l5 (n : Nat) : Nat → lay_depths_l5_h.T → Option (OutT lay_depths_l5_o)
  | 0, _ => none
  | k + 1, ((x1, _, _, x2, x3, x4, x5, x6, _), (m7, m8, _)) =>
    if decide (x6 < x5) then
      if 0 ≤ x6 ∧ x6 < (x4.length : Int) then (
        let v9 : ty0.T := (mfind (keyEq (.str : Ty)) (rdT (.str : Ty) x4 x6) m7).getD ((⟨#[]⟩ : ByteArray), ([], ([], (0, ([], ([], []))))))
        match lay_depths_l9 n n ((x1, (), (), rdT (.str : Ty) x4 x6, 1, x2, x3, x4, x5, x6, v9.2.2.2.2.2.1, (v9.2.2.2.2.2.1.length : Int), 0, ()), (m7, m8, ())) with
        | some (.inl ((x10, _, _, x11, x12, x13, x14, x15, x16, x17, _), (m18, m19, _))) => (
          if decide (x12 > 0) then
            let v20 : Int := IntKind.i64.wrap (x17 + 1)
            lay_depths_l5 n k ((x10, (), (), x13, x14, x15, x16, v20, ()), (m18, mset (keyEq (.str : Ty)) x11 x12 m19, ()))
          else
            let v21 : Int := IntKind.i64.wrap (x17 + 1)
            lay_depths_l5 n k ((x10, (), (), x13, x14, x15, x16, v21, ()), (m18, m19, ())))
        | some (.inr (_)) => none
        | none => none) else none
    else
      some (.inl ((x1, (), (), x2, x3, ()), (m7, m8, ())))
abbrev lay_depths_l3_h : Sh := ⟨[(.one (.val ty18)), (.one (.map 0)), (.one (.map 1)), (.one (.val (.int .i64))), (.one (.val (.int .i64)))], [(.map .str ty0 true), (.map .str (.int .i64) false)]⟩
abbrev lay_depths_l3_o : List Out := [⟨(.exit 0), [0, 6], ⟨[(.one (.val ty18)), (.one (.map 1))], [(.map .str ty0 true), (.map .str (.int .i64) false)]⟩⟩]
def lay_depths_l3 (n : Nat) : Nat → lay_depths_l3_h.T → Option (OutT lay_depths_l3_o)
  | 0, _ => none
  | k + 1, ((x1, _, _, x2, x3, _), (m4, m5, _)) =>
    if decide (x3 < x2) then
      match lay_depths_l5 n n ((x1, (), (), x2, x3, x1, (x1.length : Int), 0, ()), (m4, m5, ())) with
      | some (.inl ((x6, _, _, x7, x8, _), (m9, m10, _))) => (
        let v11 : Int := IntKind.i64.wrap (x8 + 1)
        lay_depths_l3 n k ((x6, (), (), x7, v11, ()), (m9, m10, ())))
      | some (.inr (_)) => none
      | none => none
    else
      some (.inl ((x1, (), ()), (m4, m5, ())))
def lay_depths : Nat → lay_depths_ins.T → Option (OutsT lay_depths_outs)
  | 0, _ => none
  | n + 1, ((x1, _, _), (m2, _)) =>
    match lay_depths_l3 n n ((x1, (), (), (x1.length : Int), 0, ()), (m2, [], ())) with
    | some (.inl ((x3, _, _), (m4, m5, _))) => (
      some (((((), ()), ((m5.length : Int) == (x3.length : Int), ()), ()), ()), (m4, m5, ())))
    | some (.inr (_)) => none
    | none => none
def lay_depths_H (n : Nat) : Hints := ⟨[], fun _ => [], fun k => match k with | 9 => some ⟨[0, 1, 6, 8, 9, 14, 15, 17, 18, 19, 26, 27, 28], lay_depths_l9_h, lay_depths_l9_o, lay_depths_l9 n⟩ | 5 => some ⟨[0, 1, 6, 14, 15, 17, 18, 19], lay_depths_l5_h, lay_depths_l5_o, lay_depths_l5 n⟩ | 3 => some ⟨[0, 1, 6, 14, 15], lay_depths_l3_h, lay_depths_l3_o, lay_depths_l3 n⟩ | _ => none, fun _ => none, fun _ => none⟩
def lay_depths_O (n : Nat) : FuncId → List FSpec := asc []
def b24 : Code := bodyOf Tryd.f24
theorem lay_depths_l3_k0 (n : Nat) : LoopOk P CC (lay_depths_O n) n 1 58 (lay_depths_H n) ⟨[0, 1, 6, 14, 15], lay_depths_l3_h, lay_depths_l3_o, lay_depths_l3 n⟩ ((loopsOf b24).getD 0 .skip) := by
  refine ⟨fun _ => by kernel_rfl, ?_⟩
  rintro k ⟨⟨x1, ⟨⟩, ⟨⟩, x2, x3, ⟨⟩⟩, ⟨x4, x5, ⟨⟩⟩⟩
  kernel_rfl
theorem lay_depths_l5_k1 (n : Nat) : LoopOk P CC (lay_depths_O n) n 1 58 (lay_depths_H n) ⟨[0, 1, 6, 14, 15, 17, 18, 19], lay_depths_l5_h, lay_depths_l5_o, lay_depths_l5 n⟩ ((loopsOf b24).getD 1 .skip) := by
  refine ⟨fun _ => by kernel_rfl, ?_⟩
  rintro k ⟨⟨x1, ⟨⟩, ⟨⟩, x2, x3, x4, x5, x6, ⟨⟩⟩, ⟨x7, x8, ⟨⟩⟩⟩
  kernel_rfl
theorem lay_depths_l9_k2 (n : Nat) : LoopOk P CC (lay_depths_O n) n 1 58 (lay_depths_H n) ⟨[0, 1, 6, 8, 9, 14, 15, 17, 18, 19, 26, 27, 28], lay_depths_l9_h, lay_depths_l9_o, lay_depths_l9 n⟩ ((loopsOf b24).getD 2 .skip) := by
  refine ⟨fun _ => by kernel_rfl, ?_⟩
  rintro k ⟨⟨x1, ⟨⟩, ⟨⟩, x2, x3, x4, x5, x6, x7, x8, x9, x10, x11, ⟨⟩⟩, ⟨x12, x13, ⟨⟩⟩⟩
  kernel_rfl
theorem lay_depths_ok {S : Nat → Addr} (ok : CfgOk P CC S) : ∀ n, SpecOk P CC S 24 ⟨lay_depths_ins, lay_depths_outs, lay_depths n⟩ :=
  fn_all ok (O := lay_depths_O) (H := lay_depths_H) (fn := Tryd.f24) (body := b24) (by kernel_rfl) (by kernel_rfl) (by kernel_rfl) (by decide) (by kernel_rfl)
    (fun x => by kernel_rfl) (fun n => by
      rintro ⟨⟨x1, ⟨⟩, ⟨⟩⟩, ⟨x2, ⟨⟩⟩⟩
      kernel_rfl)
    (fun n => obl_of (by kernel_rfl) (by kernel_rfl) (ls (ls (ls (lz) (by kernel_rfl) (lay_depths_l3_k0 n)) (by kernel_rfl) (lay_depths_l5_k1 n)) (by kernel_rfl) (lay_depths_l9_k2 n)) (cn (cn (cn (cn (cn (cn (cn (cn (cn (cn (cn (cn (cn (cn (cn (cn (cn (cn (cn (cn (cn (cn (cn (cn (cz) (by kernel_rfl)) (by kernel_rfl)) (by kernel_rfl)) (by kernel_rfl)) (by kernel_rfl)) (by kernel_rfl)) (by kernel_rfl)) (by kernel_rfl)) (by kernel_rfl)) (by kernel_rfl)) (by kernel_rfl)) (by kernel_rfl)) (by kernel_rfl)) (by kernel_rfl)) (by kernel_rfl)) (by kernel_rfl)) (by kernel_rfl)) (by kernel_rfl)) (by kernel_rfl)) (by kernel_rfl)) (by kernel_rfl)) (by kernel_rfl)) (by kernel_rfl)) (by kernel_rfl)) (hn fun _ => rfl))
    (fun n ih => asc_nil)
/-! ### (*pendulum/lay.layer).walk -/
abbrev lay_layer_walk_2_ins : Sh := ⟨[(.one (.ptr 0 0)), (.one (.val .str)), (.one (.val .str))], [(.obj 60 [(.map 1), (.arr 2), (.map 3), (.val (.int .i64))]), (.map .str ty0 true), (.arr 44 ty7), (.map .str (.int .i64) false)]⟩
abbrev lay_layer_walk_2_outs : List Sh := [⟨[(.one (.val .err))], [(.obj 60 [(.map 1), (.arr 4), (.map 3), (.val (.int .i64))]), (.map .str ty0 true), .dead, (.map .str (.int .i64) false), (.arr 44 ty7)]⟩]
abbrev lay_layer_walk_2_c10_h : Sh := ⟨[(.one (.ptr 0 0)), (.one (.val .str)), (.one (.ptr 4 0))], [(.obj 60 [(.map 1), (.arr 2), (.map 3), (.val (.int .i64))]), (.map .str ty0 true), (.arr 44 ty7), (.map .str (.int .i64) false), (.obj 31 [(.val .str), (.val ty2), (.val ty2), (.val (.int .i64)), (.val ty6), (.val ty10), (.val ty12)])]⟩
abbrev lay_layer_walk_2_c10_o : List Out := [⟨.normal, [0, 2, 7], ⟨[(.one (.ptr 0 0)), (.one (.val .str)), (.one (.ptr 4 0))], [(.obj 60 [(.map 1), (.arr 2), (.map 3), (.val (.int .i64))]), (.map .str ty0 true), (.arr 44 ty7), (.map .str (.int .i64) false), (.obj 31 [(.val .str), (.val ty2), (.val ty2), (.val (.int .i64)), (.val ty6), (.val ty10), (.val ty12)])]⟩⟩]
def lay_layer_walk_2_c10 (n : Nat) (rc : lay_layer_walk_2_ins.T → Option (OutsT lay_layer_walk_2_outs)) : lay_layer_walk_2_c10_h.T → Option (OutT lay_layer_walk_2_c10_o)
  | ((_, x1, _, _), ((_, _, _, x2, _), m3, l4, m5, (x6, x7, x8, x9, x10, x11, x12, _), _)) =>
    let v13 : Int := (mfind (keyEq (.str : Ty)) x1 m5).getD 0
    if !((mfind (keyEq (.str : Ty)) x1 m5).isSome) then
      some (.inl (((), x1, (), ()), (((), (), (), x2, ()), m3, l4, mset (keyEq (.str : Ty)) x1 (l4.length : Int) m5, (x6, x7, x8, x9, x10, x11, x12, ()), ())))
    else
      some (.inl (((), x1, (), ()), (((), (), (), x2, ()), m3, l4, m5, (x6, x7, x8, x9, x10, x11, x12, ()), ())))
abbrev lay_layer_walk_2_l11_h : Sh := ⟨[(.one (.ptr 0 0)), (.one (.val .str)), (.one (.ptr 4 0)), (.one (.val ty6)), (.one (.val (.int .i64))), (.one (.val (.int .i64)))], [(.obj 60 [(.map 1), (.arr 5), (.map 3), (.val (.int .i64))]), (.map .str ty0 true), .dead, (.map .str (.int .i64) false), (.obj 31 [(.val .str), (.val ty2), (.val ty2), (.val (.int .i64)), (.val ty6), (.val ty10), (.val ty12)]), (.arr 44 ty7)]⟩
abbrev lay_layer_walk_2_l11_o : List Out := [⟨(.exit 0), [0, 2, 7], ⟨[(.one (.ptr 0 0)), (.one (.val .str)), (.one (.ptr 4 0))], [(.obj 60 [(.map 1), (.arr 5), (.map 3), (.val (.int .i64))]), (.map .str ty0 true), .dead, (.map .str (.int .i64) false), (.obj 31 [(.val .str), (.val ty2), (.val ty2), (.val (.int .i64)), (.val ty6), (.val ty10), (.val ty12)]), (.arr 44 ty7)]⟩⟩]
def lay_layer_walk_2_l11 (n : Nat) (rc : lay_layer_walk_2_ins.T → Option (OutsT lay_layer_walk_2_outs)) : Nat → lay_layer_walk_2_l11_h.T → Option (OutT lay_layer_walk_2_l11_o)
  | 0, _ => none
  | k + 1, ((_, x1, _, x2, x3, x4, _), ((_, _, _, x5, _), m6, _, m7, (x8, x9, x10, x11, x12, x13, x14, _), l15, _)) =>
    if decide (x4 < x3) then
      if 0 ≤ x4 ∧ x4 < (x2.length : Int) then (
        if x1.size + ((rdT ty7 x2 x4).1).size ≤ 9223372036854775807 then (
          if (l15.length + ([(x1 ++ ((rdT ty7 x2 x4).1), ((rdT ty7 x2 x4).2))] : List ty7.T).length) * 32 ≤ 140737488355328 then (
            let v16 : Int := IntKind.i64.wrap (x4 + 1)
            lay_layer_walk_2_l11 n rc k (((), x1, (), x2, x3, v16, ()), (((), (), (), x5, ()), m6, (), m7, (x8, x9, x10, x11, x12, x13, x14, ()), l15 ++ [(x1 ++ ((rdT ty7 x2 x4).1), ((rdT ty7 x2 x4).2))], ()))) else none) else none) else none
    else
      some (.inl (((), x1, (), ()), (((), (), (), x5, ()), m6, (), m7, (x8, x9, x10, x11, x12, x13, x14, ()), l15, ())))
abbrev lay_layer_walk_2_l16_h : Sh := ⟨[(.one (.ptr 0 0)), (.one (.val .str)), (.one (.val ty10)), (.one (.val (.int .i64))), (.one (.val (.int .i64)))], [(.obj 60 [(.map 1), (.arr 4), (.map 3), (.val (.int .i64))]), (.map .str ty0 true), .dead, (.map .str (.int .i64) false), (.arr 44 ty7)]⟩
abbrev lay_layer_walk_2_l16_o : List Out := [⟨(.exit 2), [], ⟨[], [(.obj 60 [(.map 1), (.arr 4), (.map 3), (.val (.int .i64))]), (.map .str ty0 true), .dead, (.map .str (.int .i64) false), (.arr 44 ty7)]⟩⟩, ⟨.ret, [6], ⟨[(.one (.val .err))], [(.obj 60 [(.map 1), (.arr 4), (.map 3), (.val (.int .i64))]), (.map .str ty0 true), .dead, (.map .str (.int .i64) false), (.arr 44 ty7)]⟩⟩]
def lay_layer_walk_2_l16 (n : Nat) (rc : lay_layer_walk_2_ins.T → Option (OutsT lay_layer_walk_2_outs)) : Nat → lay_layer_walk_2_l16_h.T → Option (OutT lay_layer_walk_2_l16_o)
  | 0, _ => none
  | k + 1, ((_, x1, x2, x3, x4, _), ((_, _, _, x5, _), m6, _, m7, l8, _)) =>
    if decide (x4 < x3) then
      if 0 ≤ x4 ∧ x4 < (x2.length : Int) then (
        if x1.size + ((rdT ty11 x2 x4).1).size ≤ 9223372036854775807 then (
          if (x1 ++ ((rdT ty11 x2 x4).1)).size + (⟨#[47]⟩ : ByteArray).size ≤ 9223372036854775807 then (
            match rc (((), (rdT ty11 x2 x4).2, (x1 ++ ((rdT ty11 x2 x4).1)) ++ (⟨#[47]⟩ : ByteArray), ()), (((), (), (), x5, ()), m6, l8, m7, ())) with
            | some ((x9, _), ((_, _, _, x10, _), m11, _, m12, l13, _)) => (
              if !(errNil x9) then
                some (.inr (.inl ((x9, ()), (((), (), (), x10, ()), m11, (), m12, l13, ()))))
              else
                let v14 : Int := IntKind.i64.wrap (x4 + 1)
                lay_layer_walk_2_l16 n rc k (((), x1, x2, x3, v14, ()), (((), (), (), x10, ()), m11, (), m12, l13, ())))
            | none => none) else none) else none) else none
    else
      some (.inl ((), (((), (), (), x5, ()), m6, (), m7, l8, ())))
def lay_layer_walk_2 : Nat → lay_layer_walk_2_ins.T → Option (OutsT lay_layer_walk_2_outs)
  | 0, _ => none
  | n + 1, ((_, x1, x2, _), ((_, _, _, x3, _), m4, l5, m6, _)) =>
    let v7 : Int := IntKind.i64.wrap (x3 + 1)
    if decide (v7 > 512) then
      some ((ErrV.sent 103, ()), (((), (), (), v7, ()), m4, (), m6, l5, ()))
    else
      let v8 : ty0.T := (mfind (keyEq (.str : Ty)) x1 m4).getD ((⟨#[]⟩ : ByteArray), ([], ([], (0, ([], ([], []))))))
      let v9 : Int := IntKind.i64.wrap (512 - (l5.length : Int))
      if decide ((v8.2.2.2.2.1.length : Int) > v9) then
        some ((ErrV.sent 103, ()), (((), (), (), v7, ()), m4, (), m6, l5, ()))
      else
        match lay_layer_walk_2_c10 n (lay_layer_walk_2 n) (((), x2, (), ()), (((), (), (), v7, ()), m4, l5, m6, (v8.1, v8.2.1, v8.2.2.1, v8.2.2.2.1, v8.2.2.2.2.1, v8.2.2.2.2.2.1, v8.2.2.2.2.2.2, ()), ())) with
        | some (.inl ((_, x10, _, _), ((_, _, _, x11, _), m12, l13, m14, (x15, x16, x17, x18, x19, x20, x21, _), _))) => (
          match lay_layer_walk_2_l11 n (lay_layer_walk_2 n) n (((), x10, (), x19, (x19.length : Int), 0, ()), (((), (), (), x11, ()), m12, (), m14, (x15, x16, x17, x18, x19, x20, x21, ()), l13, ())) with
          | some (.inl ((_, x22, _, _), ((_, _, _, x23, _), m24, _, m25, (x26, x27, x28, x29, x30, x31, x32, _), l33, _))) => (
            match lay_layer_walk_2_l16 n (lay_layer_walk_2 n) n (((), x22, x31, (x31.length : Int), 0, ()), (((), (), (), x23, ()), m24, (), m25, l33, ())) with
            | some (.inl (_, ((_, _, _, x34, _), m35, _, m36, l37, _))) => (
              some ((ErrV.nil, ()), (((), (), (), x34, ()), m35, (), m36, l37, ())))
            | some (.inr (.inl ((x38, _), ((_, _, _, x39, _), m40, _, m41, l42, _)))) => (
              some ((x38, ()), (((), (), (), x39, ()), m40, (), m41, l42, ())))
            | some (.inr (.inr (_))) => none
            | none => none)
          | some (.inr (_)) => none
          | none => none)
        | some (.inr (_)) => none
        | none => none
def lay_layer_walk_2_H (n : Nat) : Hints := ⟨[], fun _ => [], fun k => match k with | 11 => some ⟨[0, 2, 7, 67, 68, 69], lay_layer_walk_2_l11_h, lay_layer_walk_2_l11_o, lay_layer_walk_2_l11 n (lay_layer_walk_2 n)⟩ | 16 => some ⟨[0, 2, 93, 94, 95], lay_layer_walk_2_l16_h, lay_layer_walk_2_l16_o, lay_layer_walk_2_l16 n (lay_layer_walk_2 n)⟩ | _ => none, fun k => match k with | 10 => some ⟨[0, 2, 7], lay_layer_walk_2_c10_h, lay_layer_walk_2_c10_o, fun n => lay_layer_walk_2_c10 n (lay_layer_walk_2 n)⟩ | _ => none, fun _ => none⟩
def lay_layer_walk_2_O (n : Nat) : FuncId → List FSpec := asc [(25, ⟨lay_layer_walk_2_ins, lay_layer_walk_2_outs, lay_layer_walk_2 n⟩)]
def b25 : Code := bodyOf Tryd.f25
theorem lay_layer_walk_2_l11_k0 (n : Nat) : LoopOk P CC (lay_layer_walk_2_O n) n 4 112 (lay_layer_walk_2_H n) ⟨[0, 2, 7, 67, 68, 69], lay_layer_walk_2_l11_h, lay_layer_walk_2_l11_o, lay_layer_walk_2_l11 n (lay_layer_walk_2 n)⟩ ((loopsOf b25).getD 0 .skip) := by
  refine ⟨fun _ => by kernel_rfl, ?_⟩
  rintro k ⟨⟨⟨⟩, x1, ⟨⟩, x2, x3, x4, ⟨⟩⟩, ⟨⟨⟨⟩, ⟨⟩, ⟨⟩, x5, ⟨⟩⟩, x6, ⟨⟩, x7, ⟨x8, x9, x10, x11, x12, x13, x14, ⟨⟩⟩, x15, ⟨⟩⟩⟩
  kernel_rfl
theorem lay_layer_walk_2_l16_k1 (n : Nat) : LoopOk P CC (lay_layer_walk_2_O n) n 4 112 (lay_layer_walk_2_H n) ⟨[0, 2, 93, 94, 95], lay_layer_walk_2_l16_h, lay_layer_walk_2_l16_o, lay_layer_walk_2_l16 n (lay_layer_walk_2 n)⟩ ((loopsOf b25).getD 1 .skip) := by
  refine ⟨fun _ => by kernel_rfl, ?_⟩
  rintro k ⟨⟨⟨⟩, x1, x2, x3, x4, ⟨⟩⟩, ⟨⟨⟨⟩, ⟨⟩, ⟨⟩, x5, ⟨⟩⟩, x6, ⟨⟩, x7, x8, ⟨⟩⟩⟩
  kernel_rfl
theorem lay_layer_walk_2_c10_k9 (n : Nat) : CutOk P CC (lay_layer_walk_2_O n) n 4 112 (lay_layer_walk_2_H n) ⟨[0, 2, 7], lay_layer_walk_2_c10_h, lay_layer_walk_2_c10_o, fun n => lay_layer_walk_2_c10 n (lay_layer_walk_2 n)⟩ ((cutsOf b25).getD 9 (0, .skip)).2 := by
  rintro ⟨⟨⟨⟩, x1, ⟨⟩, ⟨⟩⟩, ⟨⟨⟨⟩, ⟨⟩, ⟨⟩, x2, ⟨⟩⟩, x3, x4, x5, ⟨x6, x7, x8, x9, x10, x11, x12, ⟨⟩⟩, ⟨⟩⟩⟩
  kernel_rfl
theorem lay_layer_walk_2_ok {S : Nat → Addr} (ok : CfgOk P CC S) : ∀ n, SpecOk P CC S 25 ⟨lay_layer_walk_2_ins, lay_layer_walk_2_outs, lay_layer_walk_2 n⟩ :=
  fn_all ok (O := lay_layer_walk_2_O) (H := lay_layer_walk_2_H) (fn := Tryd.f25) (body := b25) (by kernel_rfl) (by kernel_rfl) (by kernel_rfl) (by decide) (by kernel_rfl)
    (fun x => by kernel_rfl) (fun n => by
      rintro ⟨⟨⟨⟩, x1, x2, ⟨⟩⟩, ⟨⟨⟨⟩, ⟨⟩, ⟨⟩, x3, ⟨⟩⟩, x4, x5, x6, ⟨⟩⟩⟩
      kernel_rfl)
    (fun n => obl_of (by kernel_rfl) (by kernel_rfl) (ls (ls (lz) (by kernel_rfl) (lay_layer_walk_2_l11_k0 n)) (by kernel_rfl) (lay_layer_walk_2_l16_k1 n)) (cn (cn (cn (cn (cn (cn (cn (cn (cn (cn (cn (cn (cn (cn (cn (cn (cn (cn (cs (cn (cn (cn (cn (cn (cn (cn (cn (cn (cz) (by kernel_rfl)) (by kernel_rfl)) (by kernel_rfl)) (by kernel_rfl)) (by kernel_rfl)) (by kernel_rfl)) (by kernel_rfl)) (by kernel_rfl)) (by kernel_rfl)) (by kernel_rfl) (lay_layer_walk_2_c10_k9 n)) (by kernel_rfl)) (by kernel_rfl)) (by kernel_rfl)) (by kernel_rfl)) (by kernel_rfl)) (by kernel_rfl)) (by kernel_rfl)) (by kernel_rfl)) (by kernel_rfl)) (by kernel_rfl)) (by kernel_rfl)) (by kernel_rfl)) (by kernel_rfl)) (by kernel_rfl)) (by kernel_rfl)) (by kernel_rfl)) (by kernel_rfl)) (by kernel_rfl)) (hn fun _ => rfl))
    (fun n ih => asc_cons (ih) <| asc_nil)
/-! ### (*pendulum/lay.layer).walk -/
abbrev lay_layer_walk_ins : Sh := ⟨[(.one (.ptr 0 0)), (.one (.val .str)), (.one (.val .str))], [(.obj 60 [(.map 1), (.emp true), (.map 2), (.val (.int .i64))]), (.map .str ty0 true), (.map .str (.int .i64) false)]⟩
abbrev lay_layer_walk_outs : List Sh := [⟨[(.one (.val .err))], [(.obj 60 [(.map 1), (.arr 3), (.map 2), (.val (.int .i64))]), (.map .str ty0 true), (.map .str (.int .i64) false), (.arr 44 ty7)]⟩]
abbrev lay_layer_walk_c10_h : Sh := ⟨[(.one (.ptr 0 0)), (.one (.val .str)), (.one (.ptr 3 0))], [(.obj 60 [(.map 1), (.emp true), (.map 2), (.val (.int .i64))]), (.map .str ty0 true), (.map .str (.int .i64) false), (.obj 31 [(.val .str), (.val ty2), (.val ty2), (.val (.int .i64)), (.val ty6), (.val ty10), (.val ty12)])]⟩
abbrev lay_layer_walk_c10_o : List Out := [⟨.normal, [0, 2, 7], ⟨[(.one (.ptr 0 0)), (.one (.val .str)), (.one (.ptr 3 0))], [(.obj 60 [(.map 1), (.emp true), (.map 2), (.val (.int .i64))]), (.map .str ty0 true), (.map .str (.int .i64) false), (.obj 31 [(.val .str), (.val ty2), (.val ty2), (.val (.int .i64)), (.val ty6), (.val ty10), (.val ty12)])]⟩⟩]
def lay_layer_walk_c10 (n : Nat) (rc : lay_layer_walk_ins.T → Option (OutsT lay_layer_walk_outs)) : lay_layer_walk_c10_h.T → Option (OutT lay_layer_walk_c10_o)
  | ((_, x1, _, _), ((_, _, _, x2, _), m3, m4, (x5, x6, x7, x8, x9, x10, x11, _), _)) =>
    let v12 : Int := (mfind (keyEq (.str : Ty)) x1 m4).getD 0
    if !((mfind (keyEq (.str : Ty)) x1 m4).isSome) then
      some (.inl (((), x1, (), ()), (((), (), (), x2, ()), m3, mset (keyEq (.str : Ty)) x1 0 m4, (x5, x6, x7, x8, x9, x10, x11, ()), ())))
    else
      some (.inl (((), x1, (), ()), (((), (), (), x2, ()), m3, m4, (x5, x6, x7, x8, x9, x10, x11, ()), ())))
abbrev lay_layer_walk_l11_h : Sh := ⟨[(.one (.ptr 0 0)), (.one (.val .str)), (.one (.ptr 3 0)), (.one (.val ty6)), (.one (.val (.int .i64))), (.one (.val (.int .i64)))], [(.obj 60 [(.map 1), (.arr 4), (.map 2), (.val (.int .i64))]), (.map .str ty0 true), (.map .str (.int .i64) false), (.obj 31 [(.val .str), (.val ty2), (.val ty2), (.val (.int .i64)), (.val ty6), (.val ty10), (.val ty12)]), (.arr 44 ty7)]⟩
abbrev lay_layer_walk_l11_o : List Out := [⟨(.exit 0), [0, 2, 7], ⟨[(.one (.ptr 0 0)), (.one (.val .str)), (.one (.ptr 3 0))], [(.obj 60 [(.map 1), (.arr 4), (.map 2), (.val (.int .i64))]), (.map .str ty0 true), (.map .str (.int .i64) false), (.obj 31 [(.val .str), (.val ty2), (.val ty2), (.val (.int .i64)), (.val ty6), (.val ty10), (.val ty12)]), (.arr 44 ty7)]⟩⟩]
def lay_layer_walk_l11 (n : Nat) (rc : lay_layer_walk_ins.T → Option (OutsT lay_layer_walk_outs)) : Nat → lay_layer_walk_l11_h.T → Option (OutT lay_layer_walk_l11_o)
  | 0, _ => none
  | k + 1, ((_, x1, _, x2, x3, x4, _), ((_, _, _, x5, _), m6, m7, (x8, x9, x10, x11, x12, x13, x14, _), l15, _)) =>
    if decide (x4 < x3) then
      if 0 ≤ x4 ∧ x4 < (x2.length : Int) then (
        if x1.size + ((rdT ty7 x2 x4).1).size ≤ 9223372036854775807 then (
          if (l15.length + ([(x1 ++ ((rdT ty7 x2 x4).1), ((rdT ty7 x2 x4).2))] : List ty7.T).length) * 32 ≤ 140737488355328 then (
            let v16 : Int := IntKind.i64.wrap (x4 + 1)
            lay_layer_walk_l11 n rc k (((), x1, (), x2, x3, v16, ()), (((), (), (), x5, ()), m6, m7, (x8, x9, x10, x11, x12, x13, x14, ()), l15 ++ [(x1 ++ ((rdT ty7 x2 x4).1), ((rdT ty7 x2 x4).2))], ()))) else none) else none) else none
    else
      some (.inl (((), x1, (), ()), (((), (), (), x5, ()), m6, m7, (x8, x9, x10, x11, x12, x13, x14, ()), l15, ())))
abbrev lay_layer_walk_l16_h : Sh := ⟨[(.one (.ptr 0 0)), (.one (.val .str)), (.one (.val ty10)), (.one (.val (.int .i64))), (.one (.val (.int .i64)))], [(.obj 60 [(.map 1), (.arr 3), (.map 2), (.val (.int .i64))]), (.map .str ty0 true), (.map .str (.int .i64) false), (.arr 44 ty7)]⟩
abbrev lay_layer_walk_l16_o : List Out := [⟨(.exit 2), [], ⟨[], [(.obj 60 [(.map 1), (.arr 3), (.map 2), (.val (.int .i64))]), (.map .str ty0 true), (.map .str (.int .i64) false), (.arr 44 ty7)]⟩⟩, ⟨.ret, [6], ⟨[(.one (.val .err))], [(.obj 60 [(.map 1), (.arr 3), (.map 2), (.val (.int .i64))]), (.map .str ty0 true), (.map .str (.int .i64) false), (.arr 44 ty7)]⟩⟩]
def lay_layer_walk_l16 (n : Nat) (rc : lay_layer_walk_ins.T → Option (OutsT lay_layer_walk_outs)) : Nat → lay_layer_walk_l16_h.T → Option (OutT lay_layer_walk_l16_o)
  | 0, _ => none
  | k + 1, ((_, x1, x2, x3, x4, _), ((_, _, _, x5, _), m6, m7, l8, _)) =>
    if decide (x4 < x3) then
      if 0 ≤ x4 ∧ x4 < (x2.length : Int) then (
        if x1.size + ((rdT ty11 x2 x4).1).size ≤ 9223372036854775807 then (
          if (x1 ++ ((rdT ty11 x2 x4).1)).size + (⟨#[47]⟩ : ByteArray).size ≤ 9223372036854775807 then (
            match lay_layer_walk_2 n (((), (rdT ty11 x2 x4).2, (x1 ++ ((rdT ty11 x2 x4).1)) ++ (⟨#[47]⟩ : ByteArray), ()), (((), (), (), x5, ()), m6, l8, m7, ())) with
            | some ((x9, _), ((_, _, _, x10, _), m11, _, m12, l13, _)) => (
              if !(errNil x9) then
                some (.inr (.inl ((x9, ()), (((), (), (), x10, ()), m11, m12, l13, ()))))
              else
                let v14 : Int := IntKind.i64.wrap (x4 + 1)
                lay_layer_walk_l16 n rc k (((), x1, x2, x3, v14, ()), (((), (), (), x10, ()), m11, m12, l13, ())))
            | none => none) else none) else none) else none
    else
      some (.inl ((), (((), (), (), x5, ()), m6, m7, l8, ())))
def lay_layer_walk : Nat → lay_layer_walk_ins.T → Option (OutsT lay_layer_walk_outs)
  | 0, _ => none
  | n + 1, ((_, x1, x2, _), ((_, _, _, x3, _), m4, m5, _)) =>
    let v6 : Int := IntKind.i64.wrap (x3 + 1)
    if decide (v6 > 512) then
      some ((ErrV.sent 103, ()), (((), (), (), v6, ()), m4, m5, [], ()))
    else
      let v7 : ty0.T := (mfind (keyEq (.str : Ty)) x1 m4).getD ((⟨#[]⟩ : ByteArray), ([], ([], (0, ([], ([], []))))))
      if decide ((v7.2.2.2.2.1.length : Int) > 512) then
        some ((ErrV.sent 103, ()), (((), (), (), v6, ()), m4, m5, [], ()))
      else
        match lay_layer_walk_c10 n (lay_layer_walk n) (((), x2, (), ()), (((), (), (), v6, ()), m4, m5, (v7.1, v7.2.1, v7.2.2.1, v7.2.2.2.1, v7.2.2.2.2.1, v7.2.2.2.2.2.1, v7.2.2.2.2.2.2, ()), ())) with
        | some (.inl ((_, x8, _, _), ((_, _, _, x9, _), m10, m11, (x12, x13, x14, x15, x16, x17, x18, _), _))) => (
          match lay_layer_walk_l11 n (lay_layer_walk n) n (((), x8, (), x16, (x16.length : Int), 0, ()), (((), (), (), x9, ()), m10, m11, (x12, x13, x14, x15, x16, x17, x18, ()), [], ())) with
          | some (.inl ((_, x19, _, _), ((_, _, _, x20, _), m21, m22, (x23, x24, x25, x26, x27, x28, x29, _), l30, _))) => (
            match lay_layer_walk_l16 n (lay_layer_walk n) n (((), x19, x28, (x28.length : Int), 0, ()), (((), (), (), x20, ()), m21, m22, l30, ())) with
            | some (.inl (_, ((_, _, _, x31, _), m32, m33, l34, _))) => (
              some ((ErrV.nil, ()), (((), (), (), x31, ()), m32, m33, l34, ())))
            | some (.inr (.inl ((x35, _), ((_, _, _, x36, _), m37, m38, l39, _)))) => (
              some ((x35, ()), (((), (), (), x36, ()), m37, m38, l39, ())))
            | some (.inr (.inr (_))) => none
            | none => none)
          | some (.inr (_)) => none
          | none => none)
        | some (.inr (_)) => none
        | none => none
def lay_layer_walk_H (n : Nat) : Hints := ⟨[], fun _ => [], fun k => match k with | 11 => some ⟨[0, 2, 7, 67, 68, 69], lay_layer_walk_l11_h, lay_layer_walk_l11_o, lay_layer_walk_l11 n (lay_layer_walk n)⟩ | 16 => some ⟨[0, 2, 93, 94, 95], lay_layer_walk_l16_h, lay_layer_walk_l16_o, lay_layer_walk_l16 n (lay_layer_walk n)⟩ | _ => none, fun k => match k with | 10 => some ⟨[0, 2, 7], lay_layer_walk_c10_h, lay_layer_walk_c10_o, fun n => lay_layer_walk_c10 n (lay_layer_walk n)⟩ | _ => none, fun _ => none⟩
def lay_layer_walk_O (n : Nat) : FuncId → List FSpec := asc [(25, ⟨lay_layer_walk_2_ins, lay_layer_walk_2_outs, lay_layer_walk_2 n⟩)]
theorem lay_layer_walk_l11_k0 (n : Nat) : LoopOk P CC (lay_layer_walk_O n) n 3 112 (lay_layer_walk_H n) ⟨[0, 2, 7, 67, 68, 69], lay_layer_walk_l11_h, lay_layer_walk_l11_o, lay_layer_walk_l11 n (lay_layer_walk n)⟩ ((loopsOf b25).getD 0 .skip) := by
  refine ⟨fun _ => by kernel_rfl, ?_⟩
  rintro k ⟨⟨⟨⟩, x1, ⟨⟩, x2, x3, x4, ⟨⟩⟩, ⟨⟨⟨⟩, ⟨⟩, ⟨⟩, x5, ⟨⟩⟩, x6, x7, ⟨x8, x9, x10, x11, x12, x13, x14, ⟨⟩⟩, x15, ⟨⟩⟩⟩
  kernel_rfl
theorem lay_layer_walk_l16_k1 (n : Nat) : LoopOk P CC (lay_layer_walk_O n) n 3 112 (lay_layer_walk_H n) ⟨[0, 2, 93, 94, 95], lay_layer_walk_l16_h, lay_layer_walk_l16_o, lay_layer_walk_l16 n (lay_layer_walk n)⟩ ((loopsOf b25).getD 1 .skip) := by
  refine ⟨fun _ => by kernel_rfl, ?_⟩
  rintro k ⟨⟨⟨⟩, x1, x2, x3, x4, ⟨⟩⟩, ⟨⟨⟨⟩, ⟨⟩, ⟨⟩, x5, ⟨⟩⟩, x6, x7, x8, ⟨⟩⟩⟩
  kernel_rfl
theorem lay_layer_walk_c10_k9 (n : Nat) : CutOk P CC (lay_layer_walk_O n) n 3 112 (lay_layer_walk_H n) ⟨[0, 2, 7], lay_layer_walk_c10_h, lay_layer_walk_c10_o, fun n => lay_layer_walk_c10 n (lay_layer_walk n)⟩ ((cutsOf b25).getD 9 (0, .skip)).2 := by
  rintro ⟨⟨⟨⟩, x1, ⟨⟩, ⟨⟩⟩, ⟨⟨⟨⟩, ⟨⟩, ⟨⟩, x2, ⟨⟩⟩, x3, x4, ⟨x5, x6, x7, x8, x9, x10, x11, ⟨⟩⟩, ⟨⟩⟩⟩
  kernel_rfl
theorem lay_layer_walk_ok {S : Nat → Addr} (ok : CfgOk P CC S) : ∀ n, SpecOk P CC S 25 ⟨lay_layer_walk_ins, lay_layer_walk_outs, lay_layer_walk n⟩ :=
  fn_all ok (O := lay_layer_walk_O) (H := lay_layer_walk_H) (fn := Tryd.f25) (body := b25) (by kernel_rfl) (by kernel_rfl) (by kernel_rfl) (by decide) (by kernel_rfl)
    (fun x => by kernel_rfl) (fun n => by
      rintro ⟨⟨⟨⟩, x1, x2, ⟨⟩⟩, ⟨⟨⟨⟩, ⟨⟩, ⟨⟩, x3, ⟨⟩⟩, x4, x5, ⟨⟩⟩⟩
      kernel_rfl)
    (fun n => obl_of (by kernel_rfl) (by kernel_rfl) (ls (ls (lz) (by kernel_rfl) (lay_layer_walk_l11_k0 n)) (by kernel_rfl) (lay_layer_walk_l16_k1 n)) (cn (cn (cn (cn (cn (cn (cn (cn (cn (cn (cn (cn (cn (cn (cn (cn (cn (cn (cs (cn (cn (cn (cn (cn (cn (cn (cn (cn (cz) (by kernel_rfl)) (by kernel_rfl)) (by kernel_rfl)) (by kernel_rfl)) (by kernel_rfl)) (by kernel_rfl)) (by kernel_rfl)) (by kernel_rfl)) (by kernel_rfl)) (by kernel_rfl) (lay_layer_walk_c10_k9 n)) (by kernel_rfl)) (by kernel_rfl)) (by kernel_rfl)) (by kernel_rfl)) (by kernel_rfl)) (by kernel_rfl)) (by kernel_rfl)) (by kernel_rfl)) (by kernel_rfl)) (by kernel_rfl)) (by kernel_rfl)) (by kernel_rfl)) (by kernel_rfl)) (by kernel_rfl)) (by kernel_rfl)) (by kernel_rfl)) (by kernel_rfl)) (by kernel_rfl)) (hn fun _ => rfl))
    (fun n ih => asc_cons (lay_layer_walk_2_ok ok n) <| asc_nil)
/-! ### pendulum/lay.depths -/
abbrev lay_depths_2_ins : Sh := ⟨[(.one (.val ty18)), (.one .nilmap)], []⟩
abbrev lay_depths_2_outs : List Sh := [⟨[(.tup [(false, [(.map 0)]), (false, [(.val .bool)])])], [(.map .str (.int .i64) false)]⟩]
abbrev lay_depths_2_l5_h : Sh := ⟨[(.one (.val ty18)), (.one .nilmap), (.one (.map 0)), (.one (.val (.int .i64))), (.one (.val (.int .i64))), (.one (.val ty18)), (.one (.val (.int .i64))), (.one (.val (.int .i64)))], [(.map .str (.int .i64) false)]⟩
abbrev lay_depths_2_l5_o : List Out := [⟨(.exit 2), [0, 1, 6, 14, 15], ⟨[(.one (.val ty18)), (.one .nilmap), (.one (.map 0)), (.one (.val (.int .i64))), (.one (.val (.int .i64)))], [(.map .str (.int .i64) false)]⟩⟩]
def lay_depths_2_l5 (n : Nat) : Nat → lay_depths_2_l5_h.T → Option (OutT lay_depths_2_l5_o)
  | 0, _ => none
  | k + 1, ((x1, _, _, x2, x3, x4, x5, x6, _), (m7, _)) =>
    if decide (x6 < x5) then
      if 0 ≤ x6 ∧ x6 < (x4.length : Int) then
        none
      else
        none
    else
      some (.inl ((x1, (), (), x2, x3, ()), (m7, ())))
abbrev lay_depths_2_l3_h : Sh := ⟨[(.one (.val ty18)), (.one .nilmap), (.one (.map 0)), (.one (.val (.int .i64))), (.one (.val (.int .i64)))], [(.map .str (.int .i64) false)]⟩
abbrev lay_depths_2_l3_o : List Out := [⟨(.exit 0), [0, 6], ⟨[(.one (.val ty18)), (.one (.map 0))], [(.map .str (.int .i64) false)]⟩⟩]
def lay_depths_2_l3 (n : Nat) : Nat → lay_depths_2_l3_h.T → Option (OutT lay_depths_2_l3_o)
  | 0, _ => none
  | k + 1, ((x1, _, _, x2, x3, _), (m4, _)) =>
    if decide (x3 < x2) then
      match lay_depths_2_l5 n n ((x1, (), (), x2, x3, x1, (x1.length : Int), 0, ()), (m4, ())) with
      | some (.inl ((x5, _, _, x6, x7, _), (m8, _))) => (
        let v9 : Int := IntKind.i64.wrap (x7 + 1)
        lay_depths_2_l3 n k ((x5, (), (), x6, v9, ()), (m8, ())))
      | some (.inr (_)) => none
      | none => none
    else
      some (.inl ((x1, (), ()), (m4, ())))
def lay_depths_2 : Nat → lay_depths_2_ins.T → Option (OutsT lay_depths_2_outs)
  | 0, _ => none
  | n + 1, ((x1, _, _), _) =>
    match lay_depths_2_l3 n n ((x1, (), (), (x1.length : Int), 0, ()), ([], ())) with
    | some (.inl ((x2, _, _), (m3, _))) => (
      some (((((), ()), ((m3.length : Int) == (x2.length : Int), ()), ()), ()), (m3, ())))
    | some (.inr (_)) => none
    | none => none
def lay_depths_2_H (n : Nat) : Hints := ⟨[], fun _ => [], fun k => match k with | 5 => some ⟨[0, 1, 6, 14, 15, 17, 18, 19], lay_depths_2_l5_h, lay_depths_2_l5_o, lay_depths_2_l5 n⟩ | 3 => some ⟨[0, 1, 6, 14, 15], lay_depths_2_l3_h, lay_depths_2_l3_o, lay_depths_2_l3 n⟩ | _ => none, fun _ => none, fun _ => none⟩
def lay_depths_2_O (n : Nat) : FuncId → List FSpec := asc []
theorem lay_depths_2_l3_k0 (n : Nat) : LoopOk P CC (lay_depths_2_O n) n 0 58 (lay_depths_2_H n) ⟨[0, 1, 6, 14, 15], lay_depths_2_l3_h, lay_depths_2_l3_o, lay_depths_2_l3 n⟩ ((loopsOf b24).getD 0 .skip) := by
  refine ⟨fun _ => by kernel_rfl, ?_⟩
  rintro k ⟨⟨x1, ⟨⟩, ⟨⟩, x2, x3, ⟨⟩⟩, ⟨x4, ⟨⟩⟩⟩
  kernel_rfl
theorem lay_depths_2_l5_k1 (n : Nat) : LoopOk P CC (lay_depths_2_O n) n 0 58 (lay_depths_2_H n) ⟨[0, 1, 6, 14, 15, 17, 18, 19], lay_depths_2_l5_h, lay_depths_2_l5_o, lay_depths_2_l5 n⟩ ((loopsOf b24).getD 1 .skip) := by
  refine ⟨fun _ => by kernel_rfl, ?_⟩
  rintro k ⟨⟨x1, ⟨⟩, ⟨⟩, x2, x3, x4, x5, x6, ⟨⟩⟩, ⟨x7, ⟨⟩⟩⟩
  kernel_rfl
theorem lay_depths_2_ok {S : Nat → Addr} (ok : CfgOk P CC S) : ∀ n, SpecOk P CC S 24 ⟨lay_depths_2_ins, lay_depths_2_outs, lay_depths_2 n⟩ :=
  fn_all ok (O := lay_depths_2_O) (H := lay_depths_2_H) (fn := Tryd.f24) (body := b24) (by kernel_rfl) (by kernel_rfl) (by kernel_rfl) (by decide) (by kernel_rfl)
    (fun x => by kernel_rfl) (fun n => by
      rintro ⟨⟨x1, ⟨⟩, ⟨⟩⟩, ⟨⟩⟩
      kernel_rfl)
    (fun n => obl_of (by kernel_rfl) (by kernel_rfl) (ln (ls (ls (lz) (by kernel_rfl) (lay_depths_2_l3_k0 n)) (by kernel_rfl) (lay_depths_2_l5_k1 n)) (by kernel_rfl)) (cn (cn (cn (cn (cn (cn (cn (cn (cn (cn (cn (cn (cn (cn (cn (cn (cn (cn (cn (cn (cn (cn (cn (cn (cz) (by kernel_rfl)) (by kernel_rfl)) (by kernel_rfl)) (by kernel_rfl)) (by kernel_rfl)) (by kernel_rfl)) (by kernel_rfl)) (by kernel_rfl)) (by kernel_rfl)) (by kernel_rfl)) (by kernel_rfl)) (by kernel_rfl)) (by kernel_rfl)) (by kernel_rfl)) (by kernel_rfl)) (by kernel_rfl)) (by kernel_rfl)) (by kernel_rfl)) (by kernel_rfl)) (by kernel_rfl)) (by kernel_rfl)) (by kernel_rfl)) (by kernel_rfl)) (by kernel_rfl)) (hn fun _ => rfl))
    (fun n ih => asc_nil)
/-! ### (*pendulum/lay.layer).walk -/
abbrev lay_layer_walk_3_ins : Sh := ⟨[(.one (.ptr 0 0)), (.one (.val .str)), (.one (.val .str))], [(.obj 60 [.nilmap, (.emp true), (.map 1), (.val (.int .i64))]), (.map .str (.int .i64) false)]⟩
abbrev lay_layer_walk_3_outs : List Sh := [⟨[(.one (.val .err))], [(.obj 60 [.nilmap, (.emp true), (.map 1), (.val (.int .i64))]), (.map .str (.int .i64) false)]⟩]
def lay_layer_walk_3 : Nat → lay_layer_walk_3_ins.T → Option (OutsT lay_layer_walk_3_outs)
  | 0, _ => none
  | n + 1, ((_, x1, x2, _), ((_, _, _, x3, _), m4, _)) =>
    let v5 : Int := IntKind.i64.wrap (x3 + 1)
    if decide (v5 > 512) then (
      some ((ErrV.sent 103, ()), (((), (), (), v5, ()), m4, ()))) else none
def lay_layer_walk_3_H (n : Nat) : Hints := ⟨[], fun _ => [], fun _ => none, fun _ => none, fun _ => none⟩
def lay_layer_walk_3_O (n : Nat) : FuncId → List FSpec := asc []
theorem lay_layer_walk_3_ok {S : Nat → Addr} (ok : CfgOk P CC S) : ∀ n, SpecOk P CC S 25 ⟨lay_layer_walk_3_ins, lay_layer_walk_3_outs, lay_layer_walk_3 n⟩ :=
  fn_all ok (O := lay_layer_walk_3_O) (H := lay_layer_walk_3_H) (fn := Tryd.f25) (body := b25) (by kernel_rfl) (by kernel_rfl) (by kernel_rfl) (by decide) (by kernel_rfl)
    (fun x => by kernel_rfl) (fun n => by
      rintro ⟨⟨⟨⟩, x1, x2, ⟨⟩⟩, ⟨⟨⟨⟩, ⟨⟩, ⟨⟩, x3, ⟨⟩⟩, x4, ⟨⟩⟩⟩
      kernel_rfl)
    (fun n => obl_of (by kernel_rfl) (by kernel_rfl) (ln (ln (lz) (by kernel_rfl)) (by kernel_rfl)) (cn (cn (cn (cn (cn (cn (cn (cn (cn (cn (cn (cn (cn (cn (cn (cn (cn (cn (cn (cn (cn (cn (cn (cn (cn (cn (cn (cn (cz) (by kernel_rfl)) (by kernel_rfl)) (by kernel_rfl)) (by kernel_rfl)) (by kernel_rfl)) (by kernel_rfl)) (by kernel_rfl)) (by kernel_rfl)) (by kernel_rfl)) (by kernel_rfl)) (by kernel_rfl)) (by kernel_rfl)) (by kernel_rfl)) (by kernel_rfl)) (by kernel_rfl)) (by kernel_rfl)) (by kernel_rfl)) (by kernel_rfl)) (by kernel_rfl)) (by kernel_rfl)) (by kernel_rfl)) (by kernel_rfl)) (by kernel_rfl)) (by kernel_rfl)) (by kernel_rfl)) (by kernel_rfl)) (by kernel_rfl)) (by kernel_rfl)) (hn fun _ => rfl))
    (fun n ih => asc_nil)
/-! ### pendulum/lay.all -/
abbrev lay_all_ins : Sh := ⟨[(.one (.val .str)), (.one (.val ty17))], []⟩
abbrev lay_all_outs : List Sh := [⟨[(.tup [(false, [(.ptr 0 0)]), (false, [(.val .err)])])], [(.obj 60 [(.map 1), (.arr 2), (.map 3), (.val (.int .i64))]), (.map .str ty0 true), (.arr 44 ty7), (.map .str (.int .i64) false)]⟩, ⟨[(.tup [(false, [(.ptr 0 0)]), (false, [(.val .err)])])], [(.obj 60 [.nilmap, (.emp true), (.map 1), (.val (.int .i64))]), (.map .str (.int .i64) false)]⟩, ⟨[(.tup [(false, [.nilp]), (false, [(.val .err)])])], []⟩]
def lay_all : Nat → lay_all_ins.T → Option (OutsT lay_all_outs)
  | 0, _ => none
  | n + 1, ((x1, x2, _), _) =>
    match lay_Uses n ((x1, x2, ()), ()) with
    | some ((((_, _), (x3, _), _), _), (l4, _)) => (
      if !(errNil x3) then
        some (.inr (.inr ((((((), ()), (x3, ()), ()), ()), ()))))
      else
        match lay_named n ((x2, ()), ()) with
        | some (.inl ((((_, _), (x5, _), _), _), (m6, _))) => (
          if !(errNil x5) then
            some (.inr (.inr ((((((), ()), (x5, ()), ()), ()), ()))))
          else
            match lay_depths n ((l4, (), ()), (m6, ())) with
            | some ((((_, _), (x8, _), _), _), (m9, m10, _)) => (
              if !x8 then
                some (.inr (.inr ((((((), ()), (ErrV.sent 113, ()), ()), ()), ()))))
              else
                let v11 : Int := (mfind (keyEq (.str : Ty)) x1 m10).getD 0
                if decide (v11 > 8) then
                  some (.inr (.inr ((((((), ()), (ErrV.sent 108, ()), ()), ()), ()))))
                else
                  match lay_layer_walk n (((), x1, (⟨#[]⟩ : ByteArray), ()), (((), (), (), 0, ()), m9, [], ())) with
                  | some ((x12, _), ((_, _, _, x13, _), m14, m15, l16, _)) => (
                    if !(errNil x12) then
                      some (.inr (.inr ((((((), ()), (x12, ()), ()), ()), ()))))
                    else
                      some (.inl (((((), ()), (ErrV.nil, ()), ()), ()), (((), (), (), x13, ()), m14, l16, m15, ()))))
                  | none => none)
            | none => none)
        | some (.inr (((((_, _), (x7, _), _), _), _))) => (
          if !(errNil x7) then
            some (.inr (.inr ((((((), ()), (x7, ()), ()), ()), ()))))
          else
            match lay_depths_2 n ((l4, (), ()), ()) with
            | some ((((_, _), (x17, _), _), _), (m18, _)) => (
              if !x17 then
                some (.inr (.inr ((((((), ()), (ErrV.sent 113, ()), ()), ()), ()))))
              else
                let v19 : Int := (mfind (keyEq (.str : Ty)) x1 m18).getD 0
                if decide (v19 > 8) then
                  some (.inr (.inr ((((((), ()), (ErrV.sent 108, ()), ()), ()), ()))))
                else
                  match lay_layer_walk_3 n (((), x1, (⟨#[]⟩ : ByteArray), ()), (((), (), (), 0, ()), [], ())) with
                  | some ((x20, _), ((_, _, _, x21, _), m22, _)) => (
                    if !(errNil x20) then
                      some (.inr (.inr ((((((), ()), (x20, ()), ()), ()), ()))))
                    else
                      some (.inr (.inl (((((), ()), (ErrV.nil, ()), ()), ()), (((), (), (), x21, ()), m22, ())))))
                  | none => none)
            | none => none)
        | none => none)
    | none => none
def lay_all_H (n : Nat) : Hints := ⟨[], fun _ => [], fun _ => none, fun _ => none, fun _ => none⟩
def lay_all_O (n : Nat) : FuncId → List FSpec := asc [(22, ⟨lay_Uses_ins, lay_Uses_outs, lay_Uses n⟩), (23, ⟨lay_named_ins, lay_named_outs, lay_named n⟩), (24, ⟨lay_depths_ins, lay_depths_outs, lay_depths n⟩), (24, ⟨lay_depths_2_ins, lay_depths_2_outs, lay_depths_2 n⟩), (25, ⟨lay_layer_walk_ins, lay_layer_walk_outs, lay_layer_walk n⟩), (25, ⟨lay_layer_walk_3_ins, lay_layer_walk_3_outs, lay_layer_walk_3 n⟩)]
def b16 : Code := bodyOf Tryd.f16
theorem lay_all_ok {S : Nat → Addr} (ok : CfgOk P CC S) : ∀ n, SpecOk P CC S 16 ⟨lay_all_ins, lay_all_outs, lay_all n⟩ :=
  fn_all ok (O := lay_all_O) (H := lay_all_H) (fn := Tryd.f16) (body := b16) (by kernel_rfl) (by kernel_rfl) (by kernel_rfl) (by decide) (by kernel_rfl)
    (fun x => by kernel_rfl) (fun n => by
      rintro ⟨⟨x1, x2, ⟨⟩⟩, ⟨⟩⟩
      kernel_rfl)
    (fun n => obl_of (by kernel_rfl) (by kernel_rfl) (lz) (cn (cn (cn (cn (cn (cn (cn (cn (cn (cn (cn (cn (cn (cn (cn (cn (cn (cn (cn (cn (cn (cz) (by kernel_rfl)) (by kernel_rfl)) (by kernel_rfl)) (by kernel_rfl)) (by kernel_rfl)) (by kernel_rfl)) (by kernel_rfl)) (by kernel_rfl)) (by kernel_rfl)) (by kernel_rfl)) (by kernel_rfl)) (by kernel_rfl)) (by kernel_rfl)) (by kernel_rfl)) (by kernel_rfl)) (by kernel_rfl)) (by kernel_rfl)) (by kernel_rfl)) (by kernel_rfl)) (by kernel_rfl)) (by kernel_rfl)) (hn fun _ => rfl))
    (fun n ih => asc_cons (lay_Uses_ok ok n) <| asc_cons (lay_named_ok ok n) <| asc_cons (lay_depths_ok ok n) <| asc_cons (lay_depths_2_ok ok n) <| asc_cons (lay_layer_walk_ok ok n) <| asc_cons (lay_layer_walk_3_ok ok n) <| asc_nil)
/-! ### pendulum/lay.Of -/
abbrev lay_Of_ins : Sh := ⟨[(.one (.val .str)), (.one (.val ty17))], []⟩
abbrev lay_Of_outs : List Sh := [⟨[(.tup [(false, [(.arr 0)]), (false, [(.val .err)])])], [(.arr 44 ty7)]⟩]
def lay_Of : Nat → lay_Of_ins.T → Option (OutsT lay_Of_outs)
  | 0, _ => none
  | n + 1, ((x1, x2, _), _) =>
    match lay_all n ((x1, x2, ()), ()) with
    | some (.inl ((((_, _), (x3, _), _), _), ((_, _, _, x4, _), m5, l6, m7, _))) => (
      if !(errNil x3) then
        some (((((), ()), (x3, ()), ()), ()), ([], ()))
      else
        some (((((), ()), (ErrV.nil, ()), ()), ()), (l6, ())))
    | some (.inr (.inl ((((_, _), (x8, _), _), _), ((_, _, _, x9, _), m10, _)))) => (
      if !(errNil x8) then
        some (((((), ()), (x8, ()), ()), ()), ([], ()))
      else
        some (((((), ()), (ErrV.nil, ()), ()), ()), ([], ())))
    | some (.inr (.inr (((((_, _), (x11, _), _), _), _)))) => (
      if !(errNil x11) then (
        some (((((), ()), (x11, ()), ()), ()), ([], ()))) else none)
    | none => none
def lay_Of_H (n : Nat) : Hints := ⟨[], fun _ => [], fun _ => none, fun _ => none, fun _ => none⟩
def lay_Of_O (n : Nat) : FuncId → List FSpec := asc [(16, ⟨lay_all_ins, lay_all_outs, lay_all n⟩)]
def b9 : Code := bodyOf Tryd.f9
theorem lay_Of_ok {S : Nat → Addr} (ok : CfgOk P CC S) : ∀ n, SpecOk P CC S 9 ⟨lay_Of_ins, lay_Of_outs, lay_Of n⟩ :=
  fn_all ok (O := lay_Of_O) (H := lay_Of_H) (fn := Tryd.f9) (body := b9) (by kernel_rfl) (by kernel_rfl) (by kernel_rfl) (by decide) (by kernel_rfl)
    (fun x => by kernel_rfl) (fun n => by
      rintro ⟨⟨x1, x2, ⟨⟩⟩, ⟨⟩⟩
      kernel_rfl)
    (fun n => obl_of (by kernel_rfl) (by kernel_rfl) (lz) (cn (cn (cn (cn (cn (cn (cz) (by kernel_rfl)) (by kernel_rfl)) (by kernel_rfl)) (by kernel_rfl)) (by kernel_rfl)) (by kernel_rfl)) (hn fun _ => rfl))
    (fun n ih => asc_cons (lay_all_ok ok n) <| asc_nil)
/-! ### pendulum/pendulumlaw20.first -/
abbrev law20_first_ins : Sh := ⟨[], []⟩
abbrev law20_first_outs : List Sh := [⟨[(.one (.val .bool))], []⟩]
def law20_first : Nat → law20_first_ins.T → Option (OutsT law20_first_outs)
  | 0, _ => none
  | n + 1, (_, _) =>
    match lay_Of n (((⟨#[102]⟩ : ByteArray), [((⟨#[102]⟩ : ByteArray), ([], ([], (0, ([], ([], []))))))], ()), ()) with
    | some ((((_, _), (x1, _), _), _), (l2, _)) => (
      if (l2.length : Int) == 0 then
        some ((errNil x1, ()), ())
      else
        some ((false, ()), ()))
    | none => none
def law20_first_H (n : Nat) : Hints := ⟨[], fun _ => [], fun _ => none, fun _ => none, fun _ => none⟩
def law20_first_O (n : Nat) : FuncId → List FSpec := asc [(9, ⟨lay_Of_ins, lay_Of_outs, lay_Of n⟩)]
def b6 : Code := bodyOf Tryd.f6
theorem law20_first_ok {S : Nat → Addr} (ok : CfgOk P CC S) : ∀ n, SpecOk P CC S 6 ⟨law20_first_ins, law20_first_outs, law20_first n⟩ :=
  fn_all ok (O := law20_first_O) (H := law20_first_H) (fn := Tryd.f6) (body := b6) (by kernel_rfl) (by kernel_rfl) (by kernel_rfl) (by decide) (by kernel_rfl)
    (fun x => by kernel_rfl) (fun n => by
      rintro ⟨⟨⟩, ⟨⟩⟩
      kernel_rfl)
    (fun n => obl_of (by kernel_rfl) (by kernel_rfl) (lz) (cn (cn (cn (cz) (by kernel_rfl)) (by kernel_rfl)) (by kernel_rfl)) (hn fun _ => rfl))
    (fun n ih => asc_cons (lay_Of_ok ok n) <| asc_nil)
/-! ### pendulum/pendulumworld.Number -/
abbrev world_Number_ins : Sh := ⟨[(.one (.val (.int .i64))), (.one (.val (.int .i64)))], []⟩
abbrev world_Number_outs : List Sh := [⟨[(.one (.val (.int .i64)))], []⟩]
def world_Number : Nat → world_Number_ins.T → Option (OutsT world_Number_outs)
  | 0, _ => none
  | n + 1, ((x1, x2, _), _) =>
    if x2 = 0 then
      none
    else
      if decide (Int.tmod x1 x2 < 0) then
        let v3 : Int := IntKind.i64.wrap ((Int.tmod x1 x2) + x2)
        some ((v3, ()), ())
      else
        some ((Int.tmod x1 x2, ()), ())
def world_Number_H (n : Nat) : Hints := ⟨[], fun _ => [], fun _ => none, fun _ => none, fun _ => none⟩
def world_Number_O (n : Nat) : FuncId → List FSpec := asc []
def b7 : Code := bodyOf Tryd.f7
theorem world_Number_ok {S : Nat → Addr} (ok : CfgOk P CC S) : ∀ n, SpecOk P CC S 7 ⟨world_Number_ins, world_Number_outs, world_Number n⟩ :=
  fn_all ok (O := world_Number_O) (H := world_Number_H) (fn := Tryd.f7) (body := b7) (by kernel_rfl) (by kernel_rfl) (by kernel_rfl) (by decide) (by kernel_rfl)
    (fun x => by kernel_rfl) (fun n => by
      rintro ⟨⟨x1, x2, ⟨⟩⟩, ⟨⟩⟩
      kernel_rfl)
    (fun n => obl_of (by kernel_rfl) (by kernel_rfl) (lz) (cn (cn (cn (cn (cn (cz) (by kernel_rfl)) (by kernel_rfl)) (by kernel_rfl)) (by kernel_rfl)) (by kernel_rfl)) (hn fun _ => rfl))
    (fun n ih => asc_nil)
/-! ### strconv.Itoa (by hand) -/
abbrev strconv_Itoa_ins : Sh := ⟨[(.one (.val (.int .i64)))], []⟩
abbrev strconv_Itoa_outs : List Sh := [⟨[(.one (.val .str))], []⟩]
def strconv_Itoa : Nat → strconv_Itoa_ins.T → Option (OutsT strconv_Itoa_outs) := fun _ => itoaSem
theorem strconv_Itoa_ok {S : Nat → Addr} (ok : CfgOk P CC S) : ∀ n, SpecOk P CC S 21 ⟨strconv_Itoa_ins, strconv_Itoa_outs, strconv_Itoa n⟩ := fun n => itoa_spec ⟨Tryd.f21, by kernel_rfl, by kernel_rfl, by kernel_rfl⟩ (.head _) (by kernel_rfl) Tryd.strconv_Itoa
/-! ### pendulum/pendulumworld.Num -/
abbrev world_Num_ins : Sh := ⟨[(.one (.val (.int .i64)))], []⟩
abbrev world_Num_outs : List Sh := [⟨[(.one (.val .str))], []⟩]
def world_Num : Nat → world_Num_ins.T → Option (OutsT world_Num_outs)
  | 0, _ => none
  | n + 1, ((x1, _), _) =>
    match strconv_Itoa n ((x1, ()), ()) with
    | some ((x2, _), _) => (
      some ((x2, ()), ()))
    | none => none
def world_Num_H (n : Nat) : Hints := ⟨[], fun _ => [], fun _ => none, fun _ => none, fun _ => none⟩
def world_Num_O (n : Nat) : FuncId → List FSpec := asc [(21, ⟨strconv_Itoa_ins, strconv_Itoa_outs, strconv_Itoa n⟩)]
def b14 : Code := bodyOf Tryd.f14
theorem world_Num_ok {S : Nat → Addr} (ok : CfgOk P CC S) : ∀ n, SpecOk P CC S 14 ⟨world_Num_ins, world_Num_outs, world_Num n⟩ :=
  fn_all ok (O := world_Num_O) (H := world_Num_H) (fn := Tryd.f14) (body := b14) (by kernel_rfl) (by kernel_rfl) (by kernel_rfl) (by decide) (by kernel_rfl)
    (fun x => by kernel_rfl) (fun n => by
      rintro ⟨⟨x1, ⟨⟩⟩, ⟨⟩⟩
      kernel_rfl)
    (fun n => obl_of (by kernel_rfl) (by kernel_rfl) (lz) (cn (cn (cz) (by kernel_rfl)) (by kernel_rfl)) (hn fun _ => rfl))
    (fun n ih => asc_cons (strconv_Itoa_ok ok n) <| asc_nil)
/-! ### pendulum/pendulumlaw20.tower -/
abbrev law20_tower_ins : Sh := ⟨[(.one (.val (.int .i64))), (.one (.val (.int .i64))), (.one (.val (.int .i64)))], []⟩
abbrev law20_tower_outs : List Sh := [⟨[(.one (.arr 0))], [(.arr 31 ty0)]⟩]
abbrev law20_tower_l7_h : Sh := ⟨[(.one (.val (.int .i64))), (.one (.val (.int .i64))), (.one (.val (.int .i64))), (.one (.arr 0)), (.one (.val (.int .i64))), (.one (.ptr 1 0)), (.one (.val (.int .i64)))], [(.arr 31 ty0), (.obj 31 [(.val .str), (.emp true), (.emp true), (.val (.int .i64)), (.arr 2), (.emp true), (.emp true)]), (.arr 53 ty7)]⟩
abbrev law20_tower_l7_o : List Out := [⟨(.exit 2), [0, 1, 2, 7, 8, 9], ⟨[(.one (.val (.int .i64))), (.one (.val (.int .i64))), (.one (.val (.int .i64))), (.one (.arr 0)), (.one (.val (.int .i64))), (.one (.ptr 1 0))], [(.arr 31 ty0), (.obj 31 [(.val .str), (.emp true), (.emp true), (.val (.int .i64)), (.arr 2), (.emp true), (.emp true)]), (.arr 53 ty7)]⟩⟩]
def law20_tower_l7 (n : Nat) : Nat → law20_tower_l7_h.T → Option (OutT law20_tower_l7_o)
  | 0, _ => none
  | k + 1, ((x1, x2, x3, _, x4, _, x5, _), (l6, (x7, _, _, x8, _, _, _, _), l9, _)) =>
    if decide (x5 < x3) then
      match world_Num n ((x5, ()), ()) with
      | some ((x10, _), _) => (
        if (⟨#[99]⟩ : ByteArray).size + x10.size ≤ 9223372036854775807 then (
          let v11 : Int := IntKind.i64.wrap (10 * x4)
          let v12 : Int := IntKind.i64.wrap (v11 + x5)
          if (l9.length + ([((⟨#[99]⟩ : ByteArray) ++ x10, (1, v12))] : List ty7.T).length) * 32 ≤ 140737488355328 then (
            let v13 : Int := IntKind.i64.wrap (x5 + 1)
            law20_tower_l7 n k ((x1, x2, x3, (), x4, (), v13, ()), (l6, (x7, (), (), x8, (), (), (), ()), l9 ++ [((⟨#[99]⟩ : ByteArray) ++ x10, (1, v12))], ()))) else none) else none)
      | none => none
    else
      some (.inl ((x1, x2, x3, (), x4, (), ()), (l6, (x7, (), (), x8, (), (), (), ()), l9, ())))
abbrev law20_tower_l11_h : Sh := ⟨[(.one (.val (.int .i64))), (.one (.val (.int .i64))), (.one (.val (.int .i64))), (.one (.arr 0)), (.one (.val (.int .i64))), (.one (.ptr 1 0)), (.one (.val (.int .i64)))], [(.arr 31 ty0), (.obj 31 [(.val .str), (.emp true), (.emp true), (.val (.int .i64)), (.arr 2), (.arr 3), (.emp true)]), (.arr 53 ty7), (.arr 33 ty11)]⟩
abbrev law20_tower_l11_o : List Out := [⟨(.exit 4), [0, 1, 2, 7, 8, 9], ⟨[(.one (.val (.int .i64))), (.one (.val (.int .i64))), (.one (.val (.int .i64))), (.one (.arr 0)), (.one (.val (.int .i64))), (.one (.ptr 1 0))], [(.arr 31 ty0), (.obj 31 [(.val .str), (.emp true), (.emp true), (.val (.int .i64)), (.arr 2), (.arr 3), (.emp true)]), (.arr 53 ty7), (.arr 33 ty11)]⟩⟩]
def law20_tower_l11 (n : Nat) : Nat → law20_tower_l11_h.T → Option (OutT law20_tower_l11_o)
  | 0, _ => none
  | k + 1, ((x1, x2, x3, _, x4, _, x5, _), (l6, (x7, _, _, x8, _, _, _, _), l9, l10, _)) =>
    if decide (x5 < x2) then
      let v11 : Int := IntKind.i64.wrap (x4 + 1)
      if decide (v11 < x1) then
        match world_Num n ((x5, ()), ()) with
        | some ((x12, _), _) => (
          if (⟨#[105]⟩ : ByteArray).size + x12.size ≤ 9223372036854775807 then (
            let v13 : Int := IntKind.i64.wrap (x4 + 1)
            match world_Num n ((v13, ()), ()) with
            | some ((x14, _), _) => (
              if (⟨#[110]⟩ : ByteArray).size + x14.size ≤ 9223372036854775807 then (
                if (l10.length + ([((⟨#[105]⟩ : ByteArray) ++ x12, (⟨#[110]⟩ : ByteArray) ++ x14)] : List ty11.T).length) * 32 ≤ 140737488355328 then (
                  let v15 : Int := IntKind.i64.wrap (x5 + 1)
                  law20_tower_l11 n k ((x1, x2, x3, (), x4, (), v15, ()), (l6, (x7, (), (), x8, (), (), (), ()), l9, l10 ++ [((⟨#[105]⟩ : ByteArray) ++ x12, (⟨#[110]⟩ : ByteArray) ++ x14)], ()))) else none) else none)
            | none => none) else none)
        | none => none
      else
        some (.inl ((x1, x2, x3, (), x4, (), ()), (l6, (x7, (), (), x8, (), (), (), ()), l9, l10, ())))
    else
      some (.inl ((x1, x2, x3, (), x4, (), ()), (l6, (x7, (), (), x8, (), (), (), ()), l9, l10, ())))
abbrev law20_tower_l3_h : Sh := ⟨[(.one (.val (.int .i64))), (.one (.val (.int .i64))), (.one (.val (.int .i64))), (.one (.arr 0)), (.one (.val (.int .i64)))], [(.arr 31 ty0)]⟩
abbrev law20_tower_l3_o : List Out := [⟨(.exit 0), [7], ⟨[(.one (.arr 0))], [(.arr 31 ty0)]⟩⟩]
def law20_tower_l3 (n : Nat) : Nat → law20_tower_l3_h.T → Option (OutT law20_tower_l3_o)
  | 0, _ => none
  | k + 1, ((x1, x2, x3, _, x4, _), (l5, _)) =>
    if decide (x4 < x1) then
      match world_Num n ((x4, ()), ()) with
      | some ((x6, _), _) => (
        if (⟨#[110]⟩ : ByteArray).size + x6.size ≤ 9223372036854775807 then (
          match law20_tower_l7 n n ((x1, x2, x3, (), x4, (), 0, ()), (l5, ((⟨#[110]⟩ : ByteArray) ++ x6, (), (), 0, (), (), (), ()), [], ())) with
          | some (.inl ((x7, x8, x9, _, x10, _, _), (l11, (x12, _, _, x13, _, _, _, _), l14, _))) => (
            match law20_tower_l11 n n ((x7, x8, x9, (), x10, (), 0, ()), (l11, (x12, (), (), x13, (), (), (), ()), l14, [], ())) with
            | some (.inl ((x15, x16, x17, _, x18, _, _), (l19, (x20, _, _, x21, _, _, _, _), l22, l23, _))) => (
              if (l19.length + ([(x20, ([], ([], (x21, (l22, (l23, []))))))] : List ty0.T).length) * 144 ≤ 140737488355328 then (
                let v24 : Int := IntKind.i64.wrap (x18 + 1)
                law20_tower_l3 n k ((x15, x16, x17, (), v24, ()), (l19 ++ [(x20, ([], ([], (x21, (l22, (l23, []))))))], ()))) else none)
            | some (.inr (_)) => none
            | none => none)
          | some (.inr (_)) => none
          | none => none) else none)
      | none => none
    else
      some (.inl (((), ()), (l5, ())))
def law20_tower : Nat → law20_tower_ins.T → Option (OutsT law20_tower_outs)
  | 0, _ => none
  | n + 1, ((x1, x2, x3, _), _) =>
    match law20_tower_l3 n n ((x1, x2, x3, (), 0, ()), ([], ())) with
    | some (.inl ((_, _), (l4, _))) => (
      some (((), ()), (l4, ())))
    | some (.inr (_)) => none
    | none => none
def law20_tower_H (n : Nat) : Hints := ⟨[], fun _ => [], fun k => match k with | 7 => some ⟨[0, 1, 2, 7, 8, 9, 10], law20_tower_l7_h, law20_tower_l7_o, law20_tower_l7 n⟩ | 11 => some ⟨[0, 1, 2, 7, 8, 9, 11], law20_tower_l11_h, law20_tower_l11_o, law20_tower_l11 n⟩ | 3 => some ⟨[0, 1, 2, 7, 8], law20_tower_l3_h, law20_tower_l3_o, law20_tower_l3 n⟩ | _ => none, fun _ => none, fun _ => none⟩
def law20_tower_O (n : Nat) : FuncId → List FSpec := asc [(14, ⟨world_Num_ins, world_Num_outs, world_Num n⟩)]
def b8 : Code := bodyOf Tryd.f8
theorem law20_tower_l3_k0 (n : Nat) : LoopOk P CC (law20_tower_O n) n 0 68 (law20_tower_H n) ⟨[0, 1, 2, 7, 8], law20_tower_l3_h, law20_tower_l3_o, law20_tower_l3 n⟩ ((loopsOf b8).getD 0 .skip) := by
  refine ⟨fun _ => by kernel_rfl, ?_⟩
  rintro k ⟨⟨x1, x2, x3, ⟨⟩, x4, ⟨⟩⟩, ⟨x5, ⟨⟩⟩⟩
  kernel_rfl
theorem law20_tower_l7_k1 (n : Nat) : LoopOk P CC (law20_tower_O n) n 0 68 (law20_tower_H n) ⟨[0, 1, 2, 7, 8, 9, 10], law20_tower_l7_h, law20_tower_l7_o, law20_tower_l7 n⟩ ((loopsOf b8).getD 1 .skip) := by
  refine ⟨fun _ => by kernel_rfl, ?_⟩
  rintro k ⟨⟨x1, x2, x3, ⟨⟩, x4, ⟨⟩, x5, ⟨⟩⟩, ⟨x6, ⟨x7, ⟨⟩, ⟨⟩, x8, ⟨⟩, ⟨⟩, ⟨⟩, ⟨⟩⟩, x9, ⟨⟩⟩⟩
  kernel_rfl
theorem law20_tower_l11_k2 (n : Nat) : LoopOk P CC (law20_tower_O n) n 0 68 (law20_tower_H n) ⟨[0, 1, 2, 7, 8, 9, 11], law20_tower_l11_h, law20_tower_l11_o, law20_tower_l11 n⟩ ((loopsOf b8).getD 2 .skip) := by
  refine ⟨fun _ => by kernel_rfl, ?_⟩
  rintro k ⟨⟨x1, x2, x3, ⟨⟩, x4, ⟨⟩, x5, ⟨⟩⟩, ⟨x6, ⟨x7, ⟨⟩, ⟨⟩, x8, ⟨⟩, ⟨⟩, ⟨⟩, ⟨⟩⟩, x9, x10, ⟨⟩⟩⟩
  kernel_rfl
theorem law20_tower_ok {S : Nat → Addr} (ok : CfgOk P CC S) : ∀ n, SpecOk P CC S 8 ⟨law20_tower_ins, law20_tower_outs, law20_tower n⟩ :=
  fn_all ok (O := law20_tower_O) (H := law20_tower_H) (fn := Tryd.f8) (body := b8) (by kernel_rfl) (by kernel_rfl) (by kernel_rfl) (by decide) (by kernel_rfl)
    (fun x => by kernel_rfl) (fun n => by
      rintro ⟨⟨x1, x2, x3, ⟨⟩⟩, ⟨⟩⟩
      kernel_rfl)
    (fun n => obl_of (by kernel_rfl) (by kernel_rfl) (ls (ls (ls (lz) (by kernel_rfl) (law20_tower_l3_k0 n)) (by kernel_rfl) (law20_tower_l7_k1 n)) (by kernel_rfl) (law20_tower_l11_k2 n)) (cn (cn (cn (cn (cn (cn (cn (cn (cn (cn (cn (cn (cn (cn (cn (cn (cn (cn (cn (cz) (by kernel_rfl)) (by kernel_rfl)) (by kernel_rfl)) (by kernel_rfl)) (by kernel_rfl)) (by kernel_rfl)) (by kernel_rfl)) (by kernel_rfl)) (by kernel_rfl)) (by kernel_rfl)) (by kernel_rfl)) (by kernel_rfl)) (by kernel_rfl)) (by kernel_rfl)) (by kernel_rfl)) (by kernel_rfl)) (by kernel_rfl)) (by kernel_rfl)) (by kernel_rfl)) (hn fun _ => rfl))
    (fun n ih => asc_cons (world_Num_ok ok n) <| asc_nil)
/-! ### pendulum/lay.Init -/
abbrev lay_Init_ins : Sh := ⟨[(.one (.val ty19))], []⟩
abbrev lay_Init_outs : List Sh := [⟨[(.one (.arr 0))], [(.arr 2 (.int .i64))]⟩]
abbrev lay_Init_l3_h : Sh := ⟨[(.one (.arr 0)), (.one (.val ty19)), (.one (.val (.int .i64))), (.one (.val (.int .i64)))], [(.arr 2 (.int .i64))]⟩
abbrev lay_Init_l3_o : List Out := [⟨(.exit 0), [3], ⟨[(.one (.arr 0))], [(.arr 2 (.int .i64))]⟩⟩]
def lay_Init_l3 (n : Nat) : Nat → lay_Init_l3_h.T → Option (OutT lay_Init_l3_o)
  | 0, _ => none
  | k + 1, ((_, x1, x2, x3, _), (l4, _)) =>
    if decide (x3 < x2) then
      if 0 ≤ x3 ∧ x3 < (x1.length : Int) then (
        if (l4.length + ([((rdT ty7 x1 x3).2).2] : List ((.int .i64) : Ty).T).length) * 8 ≤ 140737488355328 then (
          let v5 : Int := IntKind.i64.wrap (x3 + 1)
          lay_Init_l3 n k (((), x1, x2, v5, ()), (l4 ++ [((rdT ty7 x1 x3).2).2], ()))) else none) else none
    else
      some (.inl (((), ()), (l4, ())))
def lay_Init : Nat → lay_Init_ins.T → Option (OutsT lay_Init_outs)
  | 0, _ => none
  | n + 1, ((x1, _), _) =>
    match lay_Init_l3 n n (((), x1, (x1.length : Int), 0, ()), ([], ())) with
    | some (.inl ((_, _), (l2, _))) => (
      some (((), ()), (l2, ())))
    | some (.inr (_)) => none
    | none => none
def lay_Init_H (n : Nat) : Hints := ⟨[], fun _ => [], fun k => match k with | 3 => some ⟨[3, 6, 7, 8], lay_Init_l3_h, lay_Init_l3_o, lay_Init_l3 n⟩ | _ => none, fun _ => none, fun _ => none⟩
def lay_Init_O (n : Nat) : FuncId → List FSpec := asc []
def b12 : Code := bodyOf Tryd.f12
theorem lay_Init_l3_k0 (n : Nat) : LoopOk P CC (lay_Init_O n) n 0 19 (lay_Init_H n) ⟨[3, 6, 7, 8], lay_Init_l3_h, lay_Init_l3_o, lay_Init_l3 n⟩ ((loopsOf b12).getD 0 .skip) := by
  refine ⟨fun _ => by kernel_rfl, ?_⟩
  rintro k ⟨⟨⟨⟩, x1, x2, x3, ⟨⟩⟩, ⟨x4, ⟨⟩⟩⟩
  kernel_rfl
theorem lay_Init_ok {S : Nat → Addr} (ok : CfgOk P CC S) : ∀ n, SpecOk P CC S 12 ⟨lay_Init_ins, lay_Init_outs, lay_Init n⟩ :=
  fn_all ok (O := lay_Init_O) (H := lay_Init_H) (fn := Tryd.f12) (body := b12) (by kernel_rfl) (by kernel_rfl) (by kernel_rfl) (by decide) (by kernel_rfl)
    (fun x => by kernel_rfl) (fun n => by
      rintro ⟨⟨x1, ⟨⟩⟩, ⟨⟩⟩
      kernel_rfl)
    (fun n => obl_of (by kernel_rfl) (by kernel_rfl) (ls (lz) (by kernel_rfl) (lay_Init_l3_k0 n)) (cn (cn (cn (cn (cn (cn (cn (cn (cn (cz) (by kernel_rfl)) (by kernel_rfl)) (by kernel_rfl)) (by kernel_rfl)) (by kernel_rfl)) (by kernel_rfl)) (by kernel_rfl)) (by kernel_rfl)) (by kernel_rfl)) (hn fun _ => rfl))
    (fun n ih => asc_nil)
/-! ### pendulum/lay.Find$1 -/
abbrev lay_Find_1_ins : Sh := ⟨[(.agg [(.val .str), (.val (.int .i64)), (.val (.int .i64))]), (.one (.ptr 0 0))], [(.obj 9 [(.val .str)])]⟩
abbrev lay_Find_1_outs : List Sh := [⟨[(.one (.val .bool))], [(.obj 9 [(.val .str)])]⟩]
def lay_Find_1 : Nat → lay_Find_1_ins.T → Option (OutsT lay_Find_1_outs)
  | 0, _ => none
  | n + 1, (((x1, x2, x3, _), _, _), ((x4, _), _)) =>
    some ((strEq x1 x4, ()), ((x4, ()), ()))
def lay_Find_1_H (n : Nat) : Hints := ⟨[], fun _ => [], fun _ => none, fun _ => none, fun _ => none⟩
def lay_Find_1_O (n : Nat) : FuncId → List FSpec := asc []
def b20 : Code := bodyOf Tryd.f20
theorem lay_Find_1_ok {S : Nat → Addr} (ok : CfgOk P CC S) : ∀ n, SpecOk P CC S 20 ⟨lay_Find_1_ins, lay_Find_1_outs, lay_Find_1 n⟩ :=
  fn_all ok (O := lay_Find_1_O) (H := lay_Find_1_H) (fn := Tryd.f20) (body := b20) (by kernel_rfl) (by kernel_rfl) (by kernel_rfl) (by decide) (by kernel_rfl)
    (fun x => by kernel_rfl) (fun n => by
      rintro ⟨⟨⟨x1, x2, x3, ⟨⟩⟩, ⟨⟩, ⟨⟩⟩, ⟨⟨x4, ⟨⟩⟩, ⟨⟩⟩⟩
      kernel_rfl)
    (fun n => obl_of (by kernel_rfl) (by kernel_rfl) (lz) (cn (cn (cz) (by kernel_rfl)) (by kernel_rfl)) (hn fun _ => rfl))
    (fun n ih => asc_nil)
/-! ### slices.IndexFunc[[]pendulum/api.Slot,pendulum/api.Slot] -/
abbrev slices_IndexFunc_api_Slot_api_Slot_ins : Sh := ⟨[(.one (.val ty19)), (.one (.fn 20 [0]))], [(.obj 9 [(.val .str)])]⟩
abbrev slices_IndexFunc_api_Slot_api_Slot_outs : List Sh := [⟨[(.one (.val (.int .i64)))], [(.obj 9 [(.val .str)])]⟩]
abbrev slices_IndexFunc_api_Slot_api_Slot_l2_h : Sh := ⟨[(.one (.val ty19)), (.one (.fn 20 [0])), (.one (.val (.int .i64))), (.one (.val (.int .i64)))], [(.obj 9 [(.val .str)])]⟩
abbrev slices_IndexFunc_api_Slot_api_Slot_l2_o : List Out := [⟨(.exit 0), [], ⟨[], [(.obj 9 [(.val .str)])]⟩⟩, ⟨.ret, [4], ⟨[(.one (.val (.int .i64)))], [(.obj 9 [(.val .str)])]⟩⟩]
def slices_IndexFunc_api_Slot_api_Slot_l2 (n : Nat) : Nat → slices_IndexFunc_api_Slot_api_Slot_l2_h.T → Option (OutT slices_IndexFunc_api_Slot_api_Slot_l2_o)
  | 0, _ => none
  | k + 1, ((x1, _, x2, x3, _), ((x4, _), _)) =>
    if decide (x3 < x2) then
      if 0 ≤ x3 ∧ x3 < (x1.length : Int) then (
        match lay_Find_1 n ((((rdT ty7 x1 x3).1, ((rdT ty7 x1 x3).2).1, ((rdT ty7 x1 x3).2).2, ()), (), ()), ((x4, ()), ())) with
        | some ((x5, _), ((x6, _), _)) => (
          if x5 then
            some (.inr (.inl ((x3, ()), ((x6, ()), ()))))
          else
            let v7 : Int := IntKind.i64.wrap (x3 + 1)
            slices_IndexFunc_api_Slot_api_Slot_l2 n k ((x1, (), x2, v7, ()), ((x6, ()), ())))
        | none => none) else none
    else
      some (.inl ((), ((x4, ()), ())))
def slices_IndexFunc_api_Slot_api_Slot : Nat → slices_IndexFunc_api_Slot_api_Slot_ins.T → Option (OutsT slices_IndexFunc_api_Slot_api_Slot_outs)
  | 0, _ => none
  | n + 1, ((x1, _, _), ((x2, _), _)) =>
    match slices_IndexFunc_api_Slot_api_Slot_l2 n n ((x1, (), (x1.length : Int), 0, ()), ((x2, ()), ())) with
    | some (.inl (_, ((x3, _), _))) => (
      some (((-1), ()), ((x3, ()), ())))
    | some (.inr (.inl ((x4, _), ((x5, _), _)))) => (
      some ((x4, ()), ((x5, ()), ())))
    | some (.inr (.inr (_))) => none
    | none => none
def slices_IndexFunc_api_Slot_api_Slot_H (n : Nat) : Hints := ⟨[], fun _ => [], fun k => match k with | 2 => some ⟨[0, 1, 7, 8], slices_IndexFunc_api_Slot_api_Slot_l2_h, slices_IndexFunc_api_Slot_api_Slot_l2_o, slices_IndexFunc_api_Slot_api_Slot_l2 n⟩ | _ => none, fun _ => none, fun _ => none⟩
def slices_IndexFunc_api_Slot_api_Slot_O (n : Nat) : FuncId → List FSpec := asc [(20, ⟨lay_Find_1_ins, lay_Find_1_outs, lay_Find_1 n⟩)]
def b19 : Code := bodyOf Tryd.f19
theorem slices_IndexFunc_api_Slot_api_Slot_l2_k0 (n : Nat) : LoopOk P CC (slices_IndexFunc_api_Slot_api_Slot_O n) n 1 19 (slices_IndexFunc_api_Slot_api_Slot_H n) ⟨[0, 1, 7, 8], slices_IndexFunc_api_Slot_api_Slot_l2_h, slices_IndexFunc_api_Slot_api_Slot_l2_o, slices_IndexFunc_api_Slot_api_Slot_l2 n⟩ ((loopsOf b19).getD 0 .skip) := by
  refine ⟨fun _ => by kernel_rfl, ?_⟩
  rintro k ⟨⟨x1, ⟨⟩, x2, x3, ⟨⟩⟩, ⟨⟨x4, ⟨⟩⟩, ⟨⟩⟩⟩
  kernel_rfl
theorem slices_IndexFunc_api_Slot_api_Slot_ok {S : Nat → Addr} (ok : CfgOk P CC S) : ∀ n, SpecOk P CC S 19 ⟨slices_IndexFunc_api_Slot_api_Slot_ins, slices_IndexFunc_api_Slot_api_Slot_outs, slices_IndexFunc_api_Slot_api_Slot n⟩ :=
  fn_all ok (O := slices_IndexFunc_api_Slot_api_Slot_O) (H := slices_IndexFunc_api_Slot_api_Slot_H) (fn := Tryd.f19) (body := b19) (by kernel_rfl) (by kernel_rfl) (by kernel_rfl) (by decide) (by kernel_rfl)
    (fun x => by kernel_rfl) (fun n => by
      rintro ⟨⟨x1, ⟨⟩, ⟨⟩⟩, ⟨⟨x2, ⟨⟩⟩, ⟨⟩⟩⟩
      kernel_rfl)
    (fun n => obl_of (by kernel_rfl) (by kernel_rfl) (ls (lz) (by kernel_rfl) (slices_IndexFunc_api_Slot_api_Slot_l2_k0 n)) (cn (cn (cn (cn (cn (cn (cn (cn (cn (cn (cz) (by kernel_rfl)) (by kernel_rfl)) (by kernel_rfl)) (by kernel_rfl)) (by kernel_rfl)) (by kernel_rfl)) (by kernel_rfl)) (by kernel_rfl)) (by kernel_rfl)) (by kernel_rfl)) (hn fun _ => rfl))
    (fun n ih => asc_cons (lay_Find_1_ok ok n) <| asc_nil)
/-! ### pendulum/lay.Find -/
abbrev lay_Find_ins : Sh := ⟨[(.one (.val .str)), (.one (.val ty19))], []⟩
abbrev lay_Find_outs : List Sh := [⟨[(.tup [(false, [(.val (.int .i64))]), (false, [(.val .bool)])])], []⟩]
def lay_Find : Nat → lay_Find_ins.T → Option (OutsT lay_Find_outs)
  | 0, _ => none
  | n + 1, ((x1, x2, _), _) =>
    match slices_IndexFunc_api_Slot_api_Slot n ((x2, (), ()), ((x1, ()), ())) with
    | some ((x3, _), ((x4, _), _)) => (
      some ((((mx x3 0, ()), (decide (x3 ≥ 0), ()), ()), ()), ()))
    | none => none
def lay_Find_H (n : Nat) : Hints := ⟨[], fun _ => [], fun _ => none, fun _ => none, fun _ => none⟩
def lay_Find_O (n : Nat) : FuncId → List FSpec := asc [(19, ⟨slices_IndexFunc_api_Slot_api_Slot_ins, slices_IndexFunc_api_Slot_api_Slot_outs, slices_IndexFunc_api_Slot_api_Slot n⟩)]
def b13 : Code := bodyOf Tryd.f13
theorem lay_Find_ok {S : Nat → Addr} (ok : CfgOk P CC S) : ∀ n, SpecOk P CC S 13 ⟨lay_Find_ins, lay_Find_outs, lay_Find n⟩ :=
  fn_all ok (O := lay_Find_O) (H := lay_Find_H) (fn := Tryd.f13) (body := b13) (by kernel_rfl) (by kernel_rfl) (by kernel_rfl) (by decide) (by kernel_rfl)
    (fun x => by kernel_rfl) (fun n => by
      rintro ⟨⟨x1, x2, ⟨⟩⟩, ⟨⟩⟩
      kernel_rfl)
    (fun n => obl_of (by kernel_rfl) (by kernel_rfl) (lz) (cn (cn (cn (cz) (by kernel_rfl)) (by kernel_rfl)) (by kernel_rfl)) (hn fun _ => rfl))
    (fun n ih => asc_cons (slices_IndexFunc_api_Slot_api_Slot_ok ok n) <| asc_nil)
/-! ### pendulum/lay.Size -/
abbrev lay_Size_ins : Sh := ⟨[(.one (.val .str)), (.one (.val ty17))], []⟩
abbrev lay_Size_outs : List Sh := [⟨[(.tup [(false, [(.val (.int .i64))]), (false, [(.val .err)])])], []⟩]
def lay_Size : Nat → lay_Size_ins.T → Option (OutsT lay_Size_outs)
  | 0, _ => none
  | n + 1, ((x1, x2, _), _) =>
    match lay_Of n ((x1, x2, ()), ()) with
    | some ((((_, _), (x3, _), _), _), (l4, _)) => (
      some (((((l4.length : Int), ()), (x3, ()), ()), ()), ()))
    | none => none
def lay_Size_H (n : Nat) : Hints := ⟨[], fun _ => [], fun _ => none, fun _ => none, fun _ => none⟩
def lay_Size_O (n : Nat) : FuncId → List FSpec := asc [(9, ⟨lay_Of_ins, lay_Of_outs, lay_Of n⟩)]
def b15 : Code := bodyOf Tryd.f15
theorem lay_Size_ok {S : Nat → Addr} (ok : CfgOk P CC S) : ∀ n, SpecOk P CC S 15 ⟨lay_Size_ins, lay_Size_outs, lay_Size n⟩ :=
  fn_all ok (O := lay_Size_O) (H := lay_Size_H) (fn := Tryd.f15) (body := b15) (by kernel_rfl) (by kernel_rfl) (by kernel_rfl) (by decide) (by kernel_rfl)
    (fun x => by kernel_rfl) (fun n => by
      rintro ⟨⟨x1, x2, ⟨⟩⟩, ⟨⟩⟩
      kernel_rfl)
    (fun n => obl_of (by kernel_rfl) (by kernel_rfl) (lz) (cn (cn (cn (cz) (by kernel_rfl)) (by kernel_rfl)) (by kernel_rfl)) (hn fun _ => rfl))
    (fun n ih => asc_cons (lay_Of_ok ok n) <| asc_nil)
/-! ### pendulum/lay.At -/
abbrev lay_At_ins : Sh := ⟨[(.one (.val .str)), (.one (.val .str)), (.one (.val ty17))], []⟩
abbrev lay_At_outs : List Sh := [⟨[(.tup [(false, [(.val (.int .i64))]), (false, [(.val .err)])])], []⟩]
abbrev lay_At_c6_h : Sh := ⟨[(.one (.val .str)), (.one (.ptr 0 0))], [(.obj 60 [(.map 1), (.arr 2), (.map 3), (.val (.int .i64))]), (.map .str ty0 true), (.arr 44 ty7), (.map .str (.int .i64) false)]⟩
abbrev lay_At_c6_o : List Out := [⟨.normal, [1, 8], ⟨[(.one (.val .str)), (.one (.ptr 0 0))], [(.obj 60 [(.map 1), (.arr 2), (.map 3), (.val (.int .i64))]), (.map .str ty0 true), (.arr 44 ty7), (.map .str (.int .i64) false)]⟩⟩]
def lay_At_c6 (n : Nat) : lay_At_c6_h.T → Option (OutT lay_At_c6_o)
  | ((x1, _, _), ((_, _, _, x2, _), m3, l4, m5, _)) =>
    if !strEq x1 (⟨#[]⟩ : ByteArray) then
      if x1.size + (⟨#[47]⟩ : ByteArray).size ≤ 9223372036854775807 then (
        some (.inl ((x1 ++ (⟨#[47]⟩ : ByteArray), (), ()), (((), (), (), x2, ()), m3, l4, m5, ())))) else none
    else
      some (.inl ((x1, (), ()), (((), (), (), x2, ()), m3, l4, m5, ())))
def lay_At : Nat → lay_At_ins.T → Option (OutsT lay_At_outs)
  | 0, _ => none
  | n + 1, ((x1, x2, x3, _), _) =>
    match lay_all n ((x1, x3, ()), ()) with
    | some (.inl ((((_, _), (x4, _), _), _), ((_, _, _, x5, _), m6, l7, m8, _))) => (
      if !(errNil x4) then
        some ((((0, ()), (x4, ()), ()), ()), ())
      else
        match lay_At_c6 n ((x2, (), ()), (((), (), (), x5, ()), m6, l7, m8, ())) with
        | some (.inl ((x13, _, _), ((_, _, _, x14, _), m15, l16, m17, _))) => (
          let v18 : Int := (mfind (keyEq (.str : Ty)) x13 m17).getD 0
          if !((mfind (keyEq (.str : Ty)) x13 m17).isSome) then
            some ((((0, ()), (ErrV.sent 109, ()), ()), ()), ())
          else
            some ((((v18, ()), (ErrV.nil, ()), ()), ()), ()))
        | some (.inr (_)) => none
        | none => none)
    | some (.inr (.inl ((((_, _), (x9, _), _), _), ((_, _, _, x10, _), m11, _)))) => (
      if !(errNil x9) then (
        some ((((0, ()), (x9, ()), ()), ()), ())) else none)
    | some (.inr (.inr (((((_, _), (x12, _), _), _), _)))) => (
      if !(errNil x12) then (
        some ((((0, ()), (x12, ()), ()), ()), ())) else none)
    | none => none
def lay_At_H (n : Nat) : Hints := ⟨[], fun _ => [], fun _ => none, fun k => match k with | 6 => some ⟨[1, 8], lay_At_c6_h, lay_At_c6_o, fun n => lay_At_c6 n⟩ | _ => none, fun _ => none⟩
def lay_At_O (n : Nat) : FuncId → List FSpec := asc [(16, ⟨lay_all_ins, lay_all_outs, lay_all n⟩)]
def b11 : Code := bodyOf Tryd.f11
theorem lay_At_c6_k5 (n : Nat) : CutOk P CC (lay_At_O n) n 0 38 (lay_At_H n) ⟨[1, 8], lay_At_c6_h, lay_At_c6_o, fun n => lay_At_c6 n⟩ ((cutsOf b11).getD 5 (0, .skip)).2 := by
  rintro ⟨⟨x1, ⟨⟩, ⟨⟩⟩, ⟨⟨⟨⟩, ⟨⟩, ⟨⟩, x2, ⟨⟩⟩, x3, x4, x5, ⟨⟩⟩⟩
  kernel_rfl
theorem lay_At_ok {S : Nat → Addr} (ok : CfgOk P CC S) : ∀ n, SpecOk P CC S 11 ⟨lay_At_ins, lay_At_outs, lay_At n⟩ :=
  fn_all ok (O := lay_At_O) (H := lay_At_H) (fn := Tryd.f11) (body := b11) (by kernel_rfl) (by kernel_rfl) (by kernel_rfl) (by decide) (by kernel_rfl)
    (fun x => by kernel_rfl) (fun n => by
      rintro ⟨⟨x1, x2, x3, ⟨⟩⟩, ⟨⟩⟩
      kernel_rfl)
    (fun n => obl_of (by kernel_rfl) (by kernel_rfl) (lz) (cn (cn (cn (cn (cn (cn (cs (cn (cn (cn (cn (cn (cz) (by kernel_rfl)) (by kernel_rfl)) (by kernel_rfl)) (by kernel_rfl)) (by kernel_rfl)) (by kernel_rfl) (lay_At_c6_k5 n)) (by kernel_rfl)) (by kernel_rfl)) (by kernel_rfl)) (by kernel_rfl)) (by kernel_rfl)) (by kernel_rfl)) (hn fun _ => rfl))
    (fun n ih => asc_cons (lay_all_ok ok n) <| asc_nil)
/-! ### pendulum/pendulumlaw20.LayPlaces -/
abbrev law20_LayPlaces_ins : Sh := ⟨[(.one (.val (.int .i64))), (.one (.val (.int .i64))), (.one (.val (.int .i64))), (.one (.val (.int .i64)))], []⟩
abbrev law20_LayPlaces_outs : List Sh := [⟨[(.one (.val .bool))], []⟩]
abbrev law20_LayPlaces_l13_h : Sh := ⟨[(.one (.val (.int .i64))), (.one (.val (.int .i64))), (.one (.val (.int .i64))), (.one (.val (.int .i64))), (.one (.val .bool)), (.one (.arr 0)), (.one (.arr 1)), (.one (.arr 2)), (.one (.val (.int .i64)))], [(.frz 31 ty0), (.frz 44 ty7), (.arr 2 (.int .i64))]⟩
abbrev law20_LayPlaces_l13_o : List Out := [⟨(.exit 0), [0, 1, 2, 3, 9, 10, 11], ⟨[(.one (.val (.int .i64))), (.one (.val (.int .i64))), (.one (.val (.int .i64))), (.one (.val (.int .i64))), (.one (.val .bool)), (.one (.arr 0)), (.one (.arr 1))], [(.frz 31 ty0), (.frz 44 ty7)]⟩⟩, ⟨.ret, [8], ⟨[(.one (.val .bool))], []⟩⟩]
def law20_LayPlaces_l13 (n : Nat) : Nat → law20_LayPlaces_l13_h.T → Option (OutT law20_LayPlaces_l13_o)
  | 0, _ => none
  | k + 1, ((x1, x2, x3, x4, x5, _, _, _, x6, _), (l7, l8, l9, _)) =>
    if decide (x6 < (l8.length : Int)) then
      if 0 ≤ x6 ∧ x6 < (l8.length : Int) then (
        match lay_Find n (((rdT ty7 l8 x6).1, l8, ()), ()) with
        | some ((((x10, _), (x11, _), _), _), _) => (
          if !x11 then
            some (.inr (.inl ((false, ()), ())))
          else
            if x10 != x6 then
              some (.inr (.inl ((false, ()), ())))
            else
              if 0 ≤ x6 ∧ x6 < (l9.length : Int) then (
                let v12 : Int := rdT ((.int .i64) : Ty) l9 x6
                if 0 ≤ x6 ∧ x6 < (l8.length : Int) then (
                  if v12 != (((rdT ty7 l8 x6).2).2) then
                    some (.inr (.inl ((false, ()), ())))
                  else
                    let v13 : Int := IntKind.i64.wrap (x6 + 1)
                    law20_LayPlaces_l13 n k ((x1, x2, x3, x4, x5, (), (), (), v13, ()), (l7, l8, l9, ()))) else none) else none)
        | none => none) else none
    else
      some (.inl ((x1, x2, x3, x4, x5, (), (), ()), (l7, l8, ())))
abbrev law20_LayPlaces_c26_h : Sh := ⟨[(.one (.val (.int .i64))), (.one (.val (.int .i64))), (.one (.val (.int .i64))), (.one (.val (.int .i64))), (.one (.val .bool)), (.one (.arr 0)), (.one (.arr 1)), (.one (.val .str)), (.one (.val (.int .i64))), (.one (.val (.int .i64))), (.one (.val (.int .i64)))], [(.frz 31 ty0), (.frz 44 ty7)]⟩
abbrev law20_LayPlaces_c26_o : List Out := [⟨.normal, [0, 1, 2, 3, 9, 10, 11, 17, 18, 19, 20], ⟨[(.one (.val (.int .i64))), (.one (.val (.int .i64))), (.one (.val (.int .i64))), (.one (.val (.int .i64))), (.one (.val .bool)), (.one (.arr 0)), (.one (.arr 1)), (.one (.val .str)), (.one (.val (.int .i64))), (.one (.val (.int .i64))), (.one (.val (.int .i64)))], [(.frz 31 ty0), (.frz 44 ty7)]⟩⟩]
def law20_LayPlaces_c26 (n : Nat) : law20_LayPlaces_c26_h.T → Option (OutT law20_LayPlaces_c26_o)
  | ((x1, x2, x3, x4, x5, _, _, x6, x7, x8, x9, _), (l10, l11, _)) =>
    if !strEq x6 (⟨#[]⟩ : ByteArray) then
      if x6.size + (⟨#[47]⟩ : ByteArray).size ≤ 9223372036854775807 then (
        some (.inl ((x1, x2, x3, x4, x5, (), (), x6 ++ (⟨#[47]⟩ : ByteArray), x7, x8, x9, ()), (l10, l11, ())))) else none
    else
      some (.inl ((x1, x2, x3, x4, x5, (), (), x6, x7, x8, x9, ()), (l10, l11, ())))
abbrev law20_LayPlaces_l21_h : Sh := ⟨[(.one (.val (.int .i64))), (.one (.val (.int .i64))), (.one (.val (.int .i64))), (.one (.val (.int .i64))), (.one (.val .bool)), (.one (.arr 0)), (.one (.arr 1)), (.one (.val .str)), (.one (.val (.int .i64))), (.one (.val (.int .i64)))], [(.frz 31 ty0), (.frz 44 ty7)]⟩
abbrev law20_LayPlaces_l21_o : List Out := [⟨(.exit 2), [9, 11], ⟨[(.one (.val .bool)), (.one (.arr 0))], [(.frz 44 ty7)]⟩⟩, ⟨.ret, [8], ⟨[(.one (.val .bool))], []⟩⟩]
def law20_LayPlaces_l21 (n : Nat) : Nat → law20_LayPlaces_l21_h.T → Option (OutT law20_LayPlaces_l21_o)
  | 0, _ => none
  | k + 1, ((x1, x2, x3, x4, x5, _, _, x6, x7, x8, _), (l9, l10, _)) =>
    if decide (x8 < x1) then
      let v11 : Int := IntKind.i64.wrap (2 * x8)
      if IntKind.u64.wrap v11 < 0 then
        none
      else
        let v12 : Int := shrOp .i64 x4 (IntKind.u64.wrap v11)
        match world_Number n ((v12, x2, ()), ()) with
        | some ((x13, _), _) => (
          match law20_LayPlaces_c26 n ((x1, x2, x3, x4, x5, (), (), x6, x7, x8, x13, ()), (l9, l10, ())) with
          | some (.inl ((x14, x15, x16, x17, x18, _, _, x19, x20, x21, x22, _), (l23, l24, _))) => (
            if x19.size + (⟨#[105]⟩ : ByteArray).size ≤ 9223372036854775807 then (
              match world_Num n ((x22, ()), ()) with
              | some ((x25, _), _) => (
                if (x19 ++ (⟨#[105]⟩ : ByteArray)).size + x25.size ≤ 9223372036854775807 then (
                  match world_Num n ((x21, ()), ()) with
                  | some ((x26, _), _) => (
                    if (⟨#[110]⟩ : ByteArray).size + x26.size ≤ 9223372036854775807 then (
                      match lay_Size n (((⟨#[110]⟩ : ByteArray) ++ x26, l23, ()), ()) with
                      | some ((((x27, _), (x28, _), _), _), _) => (
                        if !(errNil x28) then
                          some (.inr (.inl ((false, ()), ())))
                        else
                          let v29 : Int := IntKind.i64.wrap (x20 + x16)
                          let v30 : Int := IntKind.i64.wrap (x22 * x27)
                          let v31 : Int := IntKind.i64.wrap (v29 + v30)
                          match lay_At n (((⟨#[110, 48]⟩ : ByteArray), (x19 ++ (⟨#[105]⟩ : ByteArray)) ++ x25, l23, ()), ()) with
                          | some ((((x32, _), (x33, _), _), _), _) => (
                            if !(errNil x33) then
                              some (.inr (.inl ((false, ()), ())))
                            else
                              if x32 != v31 then
                                some (.inr (.inl ((false, ()), ())))
                              else
                                if decide (x32 ≥ (l24.length : Int)) then
                                  some (.inr (.inl ((false, ()), ())))
                                else
                                  if 0 ≤ x32 ∧ x32 < (l24.length : Int) then (
                                    if ((x19 ++ (⟨#[105]⟩ : ByteArray)) ++ x25).size + (⟨#[47, 99, 48]⟩ : ByteArray).size ≤ 9223372036854775807 then (
                                      if !strEq ((rdT ty7 l24 x32).1) (((x19 ++ (⟨#[105]⟩ : ByteArray)) ++ x25) ++ (⟨#[47, 99, 48]⟩ : ByteArray)) then
                                        some (.inr (.inl ((false, ()), ())))
                                      else
                                        let v34 : Int := IntKind.i64.wrap (x21 + 1)
                                        law20_LayPlaces_l21 n k ((x14, x15, x16, x17, x18, (), (), (x19 ++ (⟨#[105]⟩ : ByteArray)) ++ x25, v31, v34, ()), (l23, l24, ()))) else none) else none)
                          | none => none)
                      | none => none) else none)
                  | none => none) else none)
              | none => none) else none)
          | some (.inr (_)) => none
          | none => none)
        | none => none
    else
      some (.inl ((x5, (), ()), (l10, ())))
def law20_LayPlaces : Nat → law20_LayPlaces_ins.T → Option (OutsT law20_LayPlaces_outs)
  | 0, _ => none
  | n + 1, ((x1, x2, x3, x4, _), _) =>
    match law20_first n ((), ()) with
    | some ((x5, _), _) => (
      if !x5 then
        some ((false, ()), ())
      else
        match world_Number n ((x1, 4, ()), ()) with
        | some ((x6, _), _) => (
          let v7 : Int := IntKind.i64.wrap (x6 + 1)
          match world_Number n ((x2, 3, ()), ()) with
          | some ((x8, _), _) => (
            let v9 : Int := IntKind.i64.wrap (x8 + 1)
            match world_Number n ((x3, 4, ()), ()) with
            | some ((x10, _), _) => (
              let v11 : Int := IntKind.i64.wrap (x10 + 1)
              match law20_tower n ((v7, v9, v11, ()), ()) with
              | some ((_, _), (l12, _)) => (
                match lay_Of n (((⟨#[110, 48]⟩ : ByteArray), l12, ()), ()) with
                | some ((((_, _), (x13, _), _), _), (l14, _)) => (
                  if !(errNil x13) then
                    some ((false, ()), ())
                  else
                    match lay_Init n ((l14, ()), ()) with
                    | some ((_, _), (l15, _)) => (
                      match law20_LayPlaces_l13 n n ((v7, v9, v11, x4, x5, (), (), (), 0, ()), (l12, l14, l15, ())) with
                      | some (.inl ((x16, x17, x18, x19, x20, _, _, _), (l21, l22, _))) => (
                        match law20_LayPlaces_l21 n n ((x16, x17, x18, x19, x20, (), (), (⟨#[]⟩ : ByteArray), 0, 1, ()), (l21, l22, ())) with
                        | some (.inl ((x24, _, _), (l25, _))) => (
                          match lay_Find n (((⟨#[110, 111, 110, 101]⟩ : ByteArray), l25, ()), ()) with
                          | some ((((x27, _), (x28, _), _), _), _) => (
                            if x24 then
                              if !x28 then
                                some ((true, ()), ())
                              else
                                some ((false, ()), ())
                            else
                              some ((false, ()), ()))
                          | none => none)
                        | some (.inr (.inl ((x26, _), _))) => (
                          some ((x26, ()), ()))
                        | some (.inr (.inr (_))) => none
                        | none => none)
                      | some (.inr (.inl ((x23, _), _))) => (
                        some ((x23, ()), ()))
                      | some (.inr (.inr (_))) => none
                      | none => none)
                    | none => none)
                | none => none)
              | none => none)
            | none => none)
          | none => none)
        | none => none)
    | none => none
def law20_LayPlaces_H (n : Nat) : Hints := ⟨[], fun _ => [], fun k => match k with | 13 => some ⟨[0, 1, 2, 3, 9, 10, 11, 13, 14], law20_LayPlaces_l13_h, law20_LayPlaces_l13_o, law20_LayPlaces_l13 n⟩ | 21 => some ⟨[0, 1, 2, 3, 9, 10, 11, 17, 18, 19], law20_LayPlaces_l21_h, law20_LayPlaces_l21_o, law20_LayPlaces_l21 n⟩ | _ => none, fun k => match k with | 26 => some ⟨[0, 1, 2, 3, 9, 10, 11, 17, 18, 19, 20], law20_LayPlaces_c26_h, law20_LayPlaces_c26_o, fun n => law20_LayPlaces_c26 n⟩ | _ => none, fun _ => none⟩
def law20_LayPlaces_O (n : Nat) : FuncId → List FSpec := asc [(6, ⟨law20_first_ins, law20_first_outs, law20_first n⟩), (7, ⟨world_Number_ins, world_Number_outs, world_Number n⟩), (8, ⟨law20_tower_ins, law20_tower_outs, law20_tower n⟩), (9, ⟨lay_Of_ins, lay_Of_outs, lay_Of n⟩), (11, ⟨lay_At_ins, lay_At_outs, lay_At n⟩), (12, ⟨lay_Init_ins, lay_Init_outs, lay_Init n⟩), (13, ⟨lay_Find_ins, lay_Find_outs, lay_Find n⟩), (14, ⟨world_Num_ins, world_Num_outs, world_Num n⟩), (15, ⟨lay_Size_ins, lay_Size_outs, lay_Size n⟩)]
def b5 : Code := bodyOf Tryd.f5
theorem law20_LayPlaces_l13_k0 (n : Nat) : LoopOk P CC (law20_LayPlaces_O n) n 0 166 (law20_LayPlaces_H n) ⟨[0, 1, 2, 3, 9, 10, 11, 13, 14], law20_LayPlaces_l13_h, law20_LayPlaces_l13_o, law20_LayPlaces_l13 n⟩ ((loopsOf b5).getD 0 .skip) := by
  refine ⟨fun _ => by kernel_rfl, ?_⟩
  rintro k ⟨⟨x1, x2, x3, x4, x5, ⟨⟩, ⟨⟩, ⟨⟩, x6, ⟨⟩⟩, ⟨x7, x8, x9, ⟨⟩⟩⟩
  kernel_rfl
theorem law20_LayPlaces_l21_k1 (n : Nat) : LoopOk P CC (law20_LayPlaces_O n) n 0 166 (law20_LayPlaces_H n) ⟨[0, 1, 2, 3, 9, 10, 11, 17, 18, 19], law20_LayPlaces_l21_h, law20_LayPlaces_l21_o, law20_LayPlaces_l21 n⟩ ((loopsOf b5).getD 1 .skip) := by
  refine ⟨fun _ => by kernel_rfl, ?_⟩
  rintro k ⟨⟨x1, x2, x3, x4, x5, ⟨⟩, ⟨⟩, x6, x7, x8, ⟨⟩⟩, ⟨x9, x10, ⟨⟩⟩⟩
  kernel_rfl
theorem law20_LayPlaces_c26_k30 (n : Nat) : CutOk P CC (law20_LayPlaces_O n) n 0 166 (law20_LayPlaces_H n) ⟨[0, 1, 2, 3, 9, 10, 11, 17, 18, 19, 20], law20_LayPlaces_c26_h, law20_LayPlaces_c26_o, fun n => law20_LayPlaces_c26 n⟩ ((cutsOf b5).getD 30 (0, .skip)).2 := by
  rintro ⟨⟨x1, x2, x3, x4, x5, ⟨⟩, ⟨⟩, x6, x7, x8, x9, ⟨⟩⟩, ⟨x10, x11, ⟨⟩⟩⟩
  kernel_rfl
theorem law20_LayPlaces_ok {S : Nat → Addr} (ok : CfgOk P CC S) : ∀ n, SpecOk P CC S 5 ⟨law20_LayPlaces_ins, law20_LayPlaces_outs, law20_LayPlaces n⟩ :=
  fn_all ok (O := law20_LayPlaces_O) (H := law20_LayPlaces_H) (fn := Tryd.f5) (body := b5) (by kernel_rfl) (by kernel_rfl) (by kernel_rfl) (by decide) (by kernel_rfl)
    (fun x => by kernel_rfl) (fun n => by
      rintro ⟨⟨x1, x2, x3, x4, ⟨⟩⟩, ⟨⟩⟩
      kernel_rfl)
    (fun n => obl_of (by kernel_rfl) (by kernel_rfl) (ls (ls (lz) (by kernel_rfl) (law20_LayPlaces_l13_k0 n)) (by kernel_rfl) (law20_LayPlaces_l21_k1 n)) (cn (cn (cn (cn (cn (cn (cn (cn (cn (cn (cn (cn (cs (cn (cn (cn (cn (cn (cn (cn (cn (cn (cn (cn (cn (cn (cn (cn (cn (cn (cn (cn (cn (cn (cn (cn (cn (cn (cn (cn (cn (cn (cn (cz) (by kernel_rfl)) (by kernel_rfl)) (by kernel_rfl)) (by kernel_rfl)) (by kernel_rfl)) (by kernel_rfl)) (by kernel_rfl)) (by kernel_rfl)) (by kernel_rfl)) (by kernel_rfl)) (by kernel_rfl)) (by kernel_rfl)) (by kernel_rfl)) (by kernel_rfl)) (by kernel_rfl)) (by kernel_rfl)) (by kernel_rfl)) (by kernel_rfl)) (by kernel_rfl)) (by kernel_rfl)) (by kernel_rfl)) (by kernel_rfl)) (by kernel_rfl)) (by kernel_rfl)) (by kernel_rfl)) (by kernel_rfl)) (by kernel_rfl)) (by kernel_rfl)) (by kernel_rfl)) (by kernel_rfl)) (by kernel_rfl) (law20_LayPlaces_c26_k30 n)) (by kernel_rfl)) (by kernel_rfl)) (by kernel_rfl)) (by kernel_rfl)) (by kernel_rfl)) (by kernel_rfl)) (by kernel_rfl)) (by kernel_rfl)) (by kernel_rfl)) (by kernel_rfl)) (by kernel_rfl)) (by kernel_rfl)) (hn fun _ => rfl))
    (fun n ih => asc_cons (law20_first_ok ok n) <| asc_cons (world_Number_ok ok n) <| asc_cons (law20_tower_ok ok n) <| asc_cons (lay_Of_ok ok n) <| asc_cons (lay_At_ok ok n) <| asc_cons (lay_Init_ok ok n) <| asc_cons (lay_Find_ok ok n) <| asc_cons (world_Num_ok ok n) <| asc_cons (lay_Size_ok ok n) <| asc_nil)
end
end Go.Proofs.YtkoeofaeigchpaaDoor.Cm

/- Printed by cmtext.py: the code as plain functions. -/
import Derived.Test.YthllmcijlhlimaaGreatDoorCmFo
import Derived.Test.YthllmcijlhlimaaGreatDoorShelf
import Derived.Test.YthllmcijlhlimaaGreatDoorCmUs
namespace Go.Proofs.YthllmcijlhlimaaGreatDoor.Cm
open Go
noncomputable section
set_option linter.unusedVariables false
set_option maxRecDepth 100000
abbrev P := Tryz.prog
abbrev CC : Cfg := ⟨166, 60, 62, [(101, 2), (102, 0), (103, 8), (104, 3), (105, 9), (106, 10), (107, 11), (108, 5), (109, 7), (110, 6), (111, 12), (112, 13), (113, 4), (114, 14), (115, 15), (116, 1), (117, 16), (118, 17), (119, 18), (120, 19), (121, 20)], [(21, tabP (fun z => Value.int .u64 z) Lib.pow10Tab)], [], []⟩
abbrev ty2 : Ty := (.slice 3 (.int .i64))
abbrev ty8 : Ty := (.pair (.int .i64) (.int .i64))
abbrev ty7 : Ty := (.pair .str ty8)
abbrev ty6 : Ty := (.slice 76 ty7)
abbrev ty11 : Ty := (.pair .str .str)
abbrev ty10 : Ty := (.slice 78 ty11)
abbrev ty16 : Ty := (.pair (.int .i64) ty8)
abbrev ty15 : Ty := (.pair (.int .i64) ty16)
abbrev ty14 : Ty := (.pair (.int .i64) ty15)
abbrev ty13 : Ty := (.pair (.int .i64) ty14)
abbrev ty12 : Ty := (.slice 48 ty13)
abbrev ty9 : Ty := (.pair ty10 ty12)
abbrev ty5 : Ty := (.pair ty6 ty9)
abbrev ty4 : Ty := (.pair (.int .i64) ty5)
abbrev ty3 : Ty := (.pair ty2 ty4)
abbrev ty1 : Ty := (.pair ty2 ty3)
abbrev ty0 : Ty := (.pair .str ty1)
abbrev ty17 : Ty := (.slice 9 .str)
abbrev ty18 : Ty := (.slice 37 ty0)
abbrev ty19 : Ty := (.slice 5 (.int .u8))
/-! ### strconv.Itoa (by hand) -/
abbrev strconv_Itoa_ins : Sh := ⟨[(.one (.val (.int .i64)))], []⟩
abbrev strconv_Itoa_outs : List Sh := [⟨[(.one (.val .str))], []⟩]
def strconv_Itoa : Nat → strconv_Itoa_ins.T → Option (OutsT strconv_Itoa_outs) := fun _ => itoaSem
theorem strconv_Itoa_ok {S : Nat → Addr} (ok : CfgOk P CC S) : ∀ n, SpecOk P CC S 33 ⟨strconv_Itoa_ins, strconv_Itoa_outs, strconv_Itoa n⟩ := fun n => itoa_spec ⟨Tryz.f33, by kernel_rfl, by kernel_rfl, by kernel_rfl⟩ (.head _) (by kernel_rfl) Tryz.strconv_Itoa
/-! ### strconv.FormatInt (by hand) -/
abbrev strconv_FormatInt_ins : Sh := ⟨[(.one (.val (.int .i64))), (.one (.val (.int .i64)))], []⟩
abbrev strconv_FormatInt_outs : List Sh := [⟨[(.one (.val .str))], []⟩]
def strconv_FormatInt : Nat → strconv_FormatInt_ins.T → Option (OutsT strconv_FormatInt_outs) := fun _ => fmtSem
theorem strconv_FormatInt_ok {S : Nat → Addr} (ok : CfgOk P CC S) : ∀ n, SpecOk P CC S 34 ⟨strconv_FormatInt_ins, strconv_FormatInt_outs, strconv_FormatInt n⟩ := fun n => fmt_spec ⟨Tryz.f34, by kernel_rfl, by kernel_rfl, by kernel_rfl⟩ (.head _) (by kernel_rfl) Tryz.strconv_FormatInt_10
/-! ### strings.Join (by hand) -/
abbrev strings_Join_ins : Sh := ⟨[(.one (.val ty17)), (.one (.val .str))], []⟩
abbrev strings_Join_outs : List Sh := [⟨[(.one (.val .str))], []⟩]
def strings_Join : Nat → strings_Join_ins.T → Option (OutsT strings_Join_outs) := fun _ => joinSem 9
theorem strings_Join_ok {S : Nat → Addr} (ok : CfgOk P CC S) : ∀ n, SpecOk P CC S 32 ⟨strings_Join_ins, strings_Join_outs, strings_Join n⟩ := fun n => join_spec ⟨Tryz.f32, by kernel_rfl, by kernel_rfl, by kernel_rfl⟩ Tryz.strings_Join_none Tryz.strings_Join
/-! ### pendulum/code.Text -/
abbrev code_Text_ins : Sh := ⟨[(.agg [(.val (.int .i64)), (.val (.int .i64)), (.val (.int .i64)), (.val (.int .i64)), (.val (.int .i64)), (.val (.int .i64))])], []⟩
abbrev code_Text_outs : List Sh := [⟨[(.one (.val .str))], []⟩]
abbrev code_Text_c5_h : Sh := ⟨[(.one (.ptr 0 0)), (.one (.arr 1)), (.one (.val .str))], [(.obj 48 [(.val (.int .i64)), (.val (.int .i64)), (.val (.int .i64)), (.val (.int .i64)), (.val (.int .i64)), (.val (.int .i64))]), (.arr 9 .str)]⟩
abbrev code_Text_c5_o : List Out := [⟨.normal, [1, 4], ⟨[(.one (.ptr 0 0)), (.one (.val .str))], [(.obj 48 [(.val (.int .i64)), (.val (.int .i64)), (.val (.int .i64)), (.val (.int .i64)), (.val (.int .i64)), (.val (.int .i64))])]⟩⟩]
def code_Text_c5 (n : Nat) : code_Text_c5_h.T → Option (OutT code_Text_c5_o)
  | ((_, _, x1, _), ((x2, x3, x4, x5, x6, x7, _), l8, _)) =>
    if decide (x2 ≥ 1) then
      if decide (x2 ≤ 12) then
        let v9 : Int := IntKind.i64.wrap (x2 - 1)
        if 0 ≤ v9 ∧ v9 < (l8.length : Int) then (
          some (.inl (((), rdT (.str : Ty) l8 v9, ()), ((x2, x3, x4, x5, x6, x7, ()), ())))) else none
      else
        some (.inl (((), x1, ()), ((x2, x3, x4, x5, x6, x7, ()), ())))
    else
      some (.inl (((), x1, ()), ((x2, x3, x4, x5, x6, x7, ()), ())))
def code_Text : Nat → code_Text_ins.T → Option (OutsT code_Text_outs)
  | 0, _ => none
  | n + 1, (((x1, x2, x3, x4, x5, x6, _), _), _) =>
    match code_Text_c5 n (((), (), (⟨#[]⟩ : ByteArray), ()), ((x1, x2, x3, x4, x5, x6, ()), [(⟨#[99, 111, 110, 115, 116]⟩ : ByteArray), (⟨#[109, 111, 118, 101]⟩ : ByteArray), (⟨#[108, 111, 97, 100]⟩ : ByteArray), (⟨#[115, 116, 111, 114, 101]⟩ : ByteArray), (⟨#[111, 110, 101]⟩ : ByteArray), (⟨#[116, 119, 111]⟩ : ByteArray), (⟨#[109, 117, 120]⟩ : ByteArray), (⟨#[122, 101, 114, 111]⟩ : ByteArray), (⟨#[106, 117, 109, 112]⟩ : ByteArray), (⟨#[114, 101, 115, 101, 116]⟩ : ByteArray), (⟨#[99, 97, 108, 108]⟩ : ByteArray), (⟨#[101, 110, 100]⟩ : ByteArray)], ())) with
    | some (.inl ((_, x7, _), ((x8, x9, x10, x11, x12, x13, _), _))) => (
      match strconv_Itoa n ((x9, ()), ()) with
      | some ((x14, _), _) => (
        match strconv_Itoa n ((x10, ()), ()) with
        | some ((x15, _), _) => (
          match strconv_Itoa n ((x11, ()), ()) with
          | some ((x16, _), _) => (
            match strconv_Itoa n ((x12, ()), ()) with
            | some ((x17, _), _) => (
              match strconv_FormatInt n ((x13, 10, ()), ()) with
              | some ((x18, _), _) => (
                match strings_Join n (([x7, x14, x15, x16, x17, x18], (⟨#[32]⟩ : ByteArray), ()), ()) with
                | some ((x19, _), _) => (
                  some ((x19, ()), ()))
                | none => none)
              | none => none)
            | none => none)
          | none => none)
        | none => none)
      | none => none)
    | some (.inr (_)) => none
    | none => none
def code_Text_H (n : Nat) : Hints := ⟨[], fun _ => [], fun _ => none, fun k => match k with | 5 => some ⟨[1, 3, 4], code_Text_c5_h, code_Text_c5_o, fun n => code_Text_c5 n⟩ | _ => none, fun _ => none, fun _ => 0⟩
def code_Text_O (n : Nat) : FuncId → List FSpec := asc [(32, ⟨strings_Join_ins, strings_Join_outs, strings_Join n⟩), (33, ⟨strconv_Itoa_ins, strconv_Itoa_outs, strconv_Itoa n⟩), (34, ⟨strconv_FormatInt_ins, strconv_FormatInt_outs, strconv_FormatInt n⟩)]
def b13 : Code := bodyOf Tryz.f13
theorem code_Text_c5_k3 (n : Nat) : CutOk P CC (code_Text_O n) n 0 38 (code_Text_H n) ⟨[1, 3, 4], code_Text_c5_h, code_Text_c5_o, fun n => code_Text_c5 n⟩ ((cutsOf b13).getD 3 (0, .skip)).2 := by
  rintro ⟨⟨⟨⟩, ⟨⟩, x1, ⟨⟩⟩, ⟨⟨x2, x3, x4, x5, x6, x7, ⟨⟩⟩, x8, ⟨⟩⟩⟩
  kernel_rfl
theorem code_Text_ok {S : Nat → Addr} (ok : CfgOk P CC S) : ∀ n, SpecOk P CC S 13 ⟨code_Text_ins, code_Text_outs, code_Text n⟩ :=
  fn_all ok (O := code_Text_O) (H := code_Text_H) (fn := Tryz.f13) (body := b13) (by kernel_rfl) (by kernel_rfl) (by kernel_rfl) (by decide) (by kernel_rfl)
    (fun x => by kernel_rfl) (fun n => by
      rintro ⟨⟨⟨x1, x2, x3, x4, x5, x6, ⟨⟩⟩, ⟨⟩⟩, ⟨⟩⟩
      kernel_rfl)
    (fun n => obl_of (by kernel_rfl) (by kernel_rfl) (lz) (cn (cn (cs (cn (cn (cn (cz) (by kernel_rfl)) (by kernel_rfl)) (by kernel_rfl)) (by kernel_rfl) (code_Text_c5_k3 n)) (by kernel_rfl)) (by kernel_rfl)) (hn fun _ => rfl))
    (fun n ih => asc_cons (strings_Join_ok ok n) <| asc_cons (strconv_Itoa_ok ok n) <| asc_cons (strconv_FormatInt_ok ok n) <| asc_nil)
/-! ### pendulum/pendulumlaw21.first -/
abbrev law21_first_ins : Sh := ⟨[], []⟩
abbrev law21_first_outs : List Sh := [⟨[(.one (.val .bool))], []⟩]
def law21_first : Nat → law21_first_ins.T → Option (OutsT law21_first_outs)
  | 0, _ => none
  | n + 1, (_, _) =>
    match code_Text n (((12, 0, 0, 0, 0, 0, ()), ()), ()) with
    | some ((x1, _), _) => (
      some ((strEq x1 (⟨#[101, 110, 100, 32, 48, 32, 48, 32, 48, 32, 48, 32, 48]⟩ : ByteArray), ()), ()))
    | none => none
def law21_first_H (n : Nat) : Hints := ⟨[], fun _ => [], fun _ => none, fun _ => none, fun _ => none, fun _ => 0⟩
def law21_first_O (n : Nat) : FuncId → List FSpec := asc [(13, ⟨code_Text_ins, code_Text_outs, code_Text n⟩)]
def b4 : Code := bodyOf Tryz.f4
theorem law21_first_ok {S : Nat → Addr} (ok : CfgOk P CC S) : ∀ n, SpecOk P CC S 4 ⟨law21_first_ins, law21_first_outs, law21_first n⟩ :=
  fn_all ok (O := law21_first_O) (H := law21_first_H) (fn := Tryz.f4) (body := b4) (by kernel_rfl) (by kernel_rfl) (by kernel_rfl) (by decide) (by kernel_rfl)
    (fun x => by kernel_rfl) (fun n => by
      rintro ⟨⟨⟩, ⟨⟩⟩
      kernel_rfl)
    (fun n => obl_of (by kernel_rfl) (by kernel_rfl) (lz) (cn (cn (cz) (by kernel_rfl)) (by kernel_rfl)) (hn fun _ => rfl))
    (fun n ih => asc_cons (code_Text_ok ok n) <| asc_nil)
/-! ### pendulum/pendulumworld.Object -/
abbrev world_Object_ins : Sh := ⟨[(.agg [(.val .str), (.val ty2), (.val ty2), (.val (.int .i64)), (.val ty6), (.val ty10), (.val ty12)])], []⟩
abbrev world_Object_outs : List Sh := [⟨[(.one (.val .bool))], []⟩]
abbrev world_Object_l4_h : Sh := ⟨[(.one (.ptr 0 0)), (.one (.val (.int .i64)))], [(.obj 37 [(.val .str), (.val ty2), (.val ty2), (.val (.int .i64)), (.val ty6), (.val ty10), (.val ty12)])]⟩
abbrev world_Object_l4_o : List Out := [⟨(.exit 0), [1], ⟨[(.one (.ptr 0 0))], [(.obj 37 [(.val .str), (.val ty2), (.val ty2), (.val (.int .i64)), (.val ty6), (.val ty10), (.val ty12)])]⟩⟩, ⟨.ret, [2], ⟨[(.one (.val .bool))], []⟩⟩]
def world_Object_l4 (n : Nat) : Nat → world_Object_l4_h.T → Option (OutT world_Object_l4_o)
  | 0, _ => none
  | k + 1, ((_, x1, _), ((x2, x3, x4, x5, x6, x7, x8, _), _)) =>
    if decide (x1 < (x6.length : Int)) then
      if 0 ≤ x1 ∧ x1 < (x6.length : Int) then (
        if decide ((((rdT ty7 x6 x1).1).size : Int) > 300) then
          some (.inr (.inl ((false, ()), ())))
        else
          let v9 : Int := IntKind.i64.wrap (x1 + 1)
          world_Object_l4 n k (((), v9, ()), ((x2, x3, x4, x5, x6, x7, x8, ()), ()))) else none
    else
      some (.inl (((), ()), ((x2, x3, x4, x5, x6, x7, x8, ()), ())))
abbrev world_Object_l9_h : Sh := ⟨[(.one (.ptr 0 0)), (.one (.val (.int .i64)))], [(.obj 37 [(.val .str), (.val ty2), (.val ty2), (.val (.int .i64)), (.val ty6), (.val ty10), (.val ty12)])]⟩
abbrev world_Object_l9_o : List Out := [⟨(.exit 2), [], ⟨[], []⟩⟩, ⟨.ret, [2], ⟨[(.one (.val .bool))], []⟩⟩]
def world_Object_l9 (n : Nat) : Nat → world_Object_l9_h.T → Option (OutT world_Object_l9_o)
  | 0, _ => none
  | k + 1, ((_, x1, _), ((x2, x3, x4, x5, x6, x7, x8, _), _)) =>
    if decide (x1 < (x7.length : Int)) then
      if 0 ≤ x1 ∧ x1 < (x7.length : Int) then (
        if decide ((((rdT ty11 x7 x1).1).size : Int) > 300) then
          some (.inr (.inl ((false, ()), ())))
        else
          if 0 ≤ x1 ∧ x1 < (x7.length : Int) then (
            if decide ((((rdT ty11 x7 x1).2).size : Int) > 300) then
              some (.inr (.inl ((false, ()), ())))
            else
              let v9 : Int := IntKind.i64.wrap (x1 + 1)
              world_Object_l9 n k (((), v9, ()), ((x2, x3, x4, x5, x6, x7, x8, ()), ()))) else none) else none
    else
      some (.inl ((), ()))
def world_Object : Nat → world_Object_ins.T → Option (OutsT world_Object_outs)
  | 0, _ => none
  | n + 1, (((x1, x2, x3, x4, x5, x6, x7, _), _), _) =>
    if decide ((x1.size : Int) > 300) then
      some ((false, ()), ())
    else
      if decide ((x2.length : Int) > 80) then
        some ((false, ()), ())
      else
        if decide ((x3.length : Int) > 80) then
          some ((false, ()), ())
        else
          if decide ((x5.length : Int) > 60) then
            some ((false, ()), ())
          else
            if decide ((x6.length : Int) > 30) then
              some ((false, ()), ())
            else
              if decide ((x7.length : Int) > 200) then
                some ((false, ()), ())
              else
                match world_Object_l4 n n (((), 0, ()), ((x1, x2, x3, x4, x5, x6, x7, ()), ())) with
                | some (.inl ((_, _), ((x8, x9, x10, x11, x12, x13, x14, _), _))) => (
                  match world_Object_l9 n n (((), 0, ()), ((x8, x9, x10, x11, x12, x13, x14, ()), ())) with
                  | some (.inl (_, _)) => (
                    some ((true, ()), ()))
                  | some (.inr (.inl ((x16, _), _))) => (
                    some ((x16, ()), ()))
                  | some (.inr (.inr (_))) => none
                  | none => none)
                | some (.inr (.inl ((x15, _), _))) => (
                  some ((x15, ()), ()))
                | some (.inr (.inr (_))) => none
                | none => none
def world_Object_H (n : Nat) : Hints := ⟨[], fun _ => [], fun k => match k with | 4 => some ⟨[1, 3], world_Object_l4_h, world_Object_l4_o, world_Object_l4 n⟩ | 9 => some ⟨[1, 4], world_Object_l9_h, world_Object_l9_o, world_Object_l9 n⟩ | _ => none, fun _ => none, fun _ => none, fun _ => 0⟩
def world_Object_O (n : Nat) : FuncId → List FSpec := asc []
def b14 : Code := bodyOf Tryz.f14
theorem world_Object_l4_k0 (n : Nat) : LoopOk P CC (world_Object_O n) n 0 79 (world_Object_H n) ⟨[1, 3], world_Object_l4_h, world_Object_l4_o, world_Object_l4 n⟩ ((loopsOf b14).getD 0 .skip) := by
  refine ⟨fun _ => by kernel_rfl, ?_⟩
  rintro k ⟨⟨⟨⟩, x1, ⟨⟩⟩, ⟨⟨x2, x3, x4, x5, x6, x7, x8, ⟨⟩⟩, ⟨⟩⟩⟩
  kernel_rfl
theorem world_Object_l9_k1 (n : Nat) : LoopOk P CC (world_Object_O n) n 0 79 (world_Object_H n) ⟨[1, 4], world_Object_l9_h, world_Object_l9_o, world_Object_l9 n⟩ ((loopsOf b14).getD 1 .skip) := by
  refine ⟨fun _ => by kernel_rfl, ?_⟩
  rintro k ⟨⟨⟨⟩, x1, ⟨⟩⟩, ⟨⟨x2, x3, x4, x5, x6, x7, x8, ⟨⟩⟩, ⟨⟩⟩⟩
  kernel_rfl
theorem world_Object_ok {S : Nat → Addr} (ok : CfgOk P CC S) : ∀ n, SpecOk P CC S 14 ⟨world_Object_ins, world_Object_outs, world_Object n⟩ :=
  fn_all ok (O := world_Object_O) (H := world_Object_H) (fn := Tryz.f14) (body := b14) (by kernel_rfl) (by kernel_rfl) (by kernel_rfl) (by decide) (by kernel_rfl)
    (fun x => by kernel_rfl) (fun n => by
      rintro ⟨⟨⟨x1, x2, x3, x4, x5, x6, x7, ⟨⟩⟩, ⟨⟩⟩, ⟨⟩⟩
      kernel_rfl)
    (fun n => obl_of (by kernel_rfl) (by kernel_rfl) (ls (ls (lz) (by kernel_rfl) (world_Object_l4_k0 n)) (by kernel_rfl) (world_Object_l9_k1 n)) (cn (cn (cn (cn (cn (cn (cn (cn (cn (cn (cn (cn (cn (cn (cn (cn (cn (cn (cn (cz) (by kernel_rfl)) (by kernel_rfl)) (by kernel_rfl)) (by kernel_rfl)) (by kernel_rfl)) (by kernel_rfl)) (by kernel_rfl)) (by kernel_rfl)) (by kernel_rfl)) (by kernel_rfl)) (by kernel_rfl)) (by kernel_rfl)) (by kernel_rfl)) (by kernel_rfl)) (by kernel_rfl)) (by kernel_rfl)) (by kernel_rfl)) (by kernel_rfl)) (by kernel_rfl)) (hn fun _ => rfl))
    (fun n ih => asc_nil)
/-! ### pendulum/pendulumworld.Objects -/
abbrev world_Objects_ins : Sh := ⟨[(.one (.val ty18))], []⟩
abbrev world_Objects_outs : List Sh := [⟨[(.one (.val .bool))], []⟩]
abbrev world_Objects_l2_h : Sh := ⟨[(.one (.val ty18)), (.one (.val (.int .i64)))], []⟩
abbrev world_Objects_l2_o : List Out := [⟨(.exit 0), [0], ⟨[(.one (.val ty18))], []⟩⟩, ⟨.ret, [2], ⟨[(.one (.val .bool))], []⟩⟩]
def world_Objects_l2 (n : Nat) : Nat → world_Objects_l2_h.T → Option (OutT world_Objects_l2_o)
  | 0, _ => none
  | k + 1, ((x1, x2, _), _) =>
    if decide (x2 < (x1.length : Int)) then
      if 0 ≤ x2 ∧ x2 < (x1.length : Int) then (
        match world_Object n ((((rdT ty0 x1 x2).1, ((rdT ty0 x1 x2).2).1, (((rdT ty0 x1 x2).2).2).1, ((((rdT ty0 x1 x2).2).2).2).1, (((((rdT ty0 x1 x2).2).2).2).2).1, ((((((rdT ty0 x1 x2).2).2).2).2).2).1, ((((((rdT ty0 x1 x2).2).2).2).2).2).2, ()), ()), ()) with
        | some ((x3, _), _) => (
          if !x3 then
            some (.inr (.inl ((false, ()), ())))
          else
            let v4 : Int := IntKind.i64.wrap (x2 + 1)
            world_Objects_l2 n k ((x1, v4, ()), ()))
        | none => none) else none
    else
      some (.inl ((x1, ()), ()))
def world_Objects : Nat → world_Objects_ins.T → Option (OutsT world_Objects_outs)
  | 0, _ => none
  | n + 1, ((x1, _), _) =>
    match world_Objects_l2 n n ((x1, 0, ()), ()) with
    | some (.inl ((x2, _), _)) => (
      some ((decide ((x2.length : Int) ≤ 8), ()), ()))
    | some (.inr (.inl ((x3, _), _))) => (
      some ((x3, ()), ()))
    | some (.inr (.inr (_))) => none
    | none => none
def world_Objects_H (n : Nat) : Hints := ⟨[], fun _ => [], fun k => match k with | 2 => some ⟨[0, 3], world_Objects_l2_h, world_Objects_l2_o, world_Objects_l2 n⟩ | _ => none, fun _ => none, fun _ => none, fun _ => 0⟩
def world_Objects_O (n : Nat) : FuncId → List FSpec := asc [(14, ⟨world_Object_ins, world_Object_outs, world_Object n⟩)]
def b5 : Code := bodyOf Tryz.f5
theorem world_Objects_l2_k0 (n : Nat) : LoopOk P CC (world_Objects_O n) n 0 19 (world_Objects_H n) ⟨[0, 3], world_Objects_l2_h, world_Objects_l2_o, world_Objects_l2 n⟩ ((loopsOf b5).getD 0 .skip) := by
  refine ⟨fun _ => by kernel_rfl, ?_⟩
  rintro k ⟨⟨x1, x2, ⟨⟩⟩, ⟨⟩⟩
  kernel_rfl
theorem world_Objects_ok {S : Nat → Addr} (ok : CfgOk P CC S) : ∀ n, SpecOk P CC S 5 ⟨world_Objects_ins, world_Objects_outs, world_Objects n⟩ :=
  fn_all ok (O := world_Objects_O) (H := world_Objects_H) (fn := Tryz.f5) (body := b5) (by kernel_rfl) (by kernel_rfl) (by kernel_rfl) (by decide) (by kernel_rfl)
    (fun x => by kernel_rfl) (fun n => by
      rintro ⟨⟨x1, ⟨⟩⟩, ⟨⟩⟩
      kernel_rfl)
    (fun n => obl_of (by kernel_rfl) (by kernel_rfl) (ls (lz) (by kernel_rfl) (world_Objects_l2_k0 n)) (cn (cn (cn (cn (cn (cn (cn (cn (cn (cz) (by kernel_rfl)) (by kernel_rfl)) (by kernel_rfl)) (by kernel_rfl)) (by kernel_rfl)) (by kernel_rfl)) (by kernel_rfl)) (by kernel_rfl)) (by kernel_rfl)) (hn fun _ => rfl))
    (fun n ih => asc_cons (world_Object_ok ok n) <| asc_nil)
/-! ### pendulum/lay.named -/
abbrev lay_named_ins : Sh := ⟨[(.one (.val ty18))], []⟩
abbrev lay_named_outs : List Sh := [⟨[(.tup [(false, [(.map 0)]), (false, [(.val .err)])])], [(.map .str ty0 true)]⟩, ⟨[(.tup [(false, [.nilmap]), (false, [(.val .err)])])], []⟩]
abbrev lay_named_l3_h : Sh := ⟨[(.one (.map 0)), (.one (.val ty18)), (.one (.val (.int .i64))), (.one (.val (.int .i64)))], [(.map .str ty0 true)]⟩
abbrev lay_named_l3_o : List Out := [⟨(.exit 0), [4], ⟨[(.one (.map 0))], [(.map .str ty0 true)]⟩⟩, ⟨.ret, [2, 3], ⟨[(.one .nilmap), (.one (.val .err))], []⟩⟩]
def lay_named_l3 (n : Nat) : Nat → lay_named_l3_h.T → Option (OutT lay_named_l3_o)
  | 0, _ => none
  | k + 1, ((_, x1, x2, x3, _), (m4, _)) =>
    if decide (x3 < x2) then
      if 0 ≤ x3 ∧ x3 < (x1.length : Int) then (
        let v5 : ty0.T := (mfind (keyEq (.str : Ty)) ((rdT ty0 x1 x3).1) m4).getD ((⟨#[]⟩ : ByteArray), ([], ([], (0, ([], ([], []))))))
        if (mfind (keyEq (.str : Ty)) ((rdT ty0 x1 x3).1) m4).isSome then
          some (.inr (.inl (((), ErrV.sent 110, ()), ())))
        else
          let v6 : Int := IntKind.i64.wrap (x3 + 1)
          lay_named_l3 n k (((), x1, x2, v6, ()), (mset (keyEq (.str : Ty)) ((rdT ty0 x1 x3).1) ((rdT ty0 x1 x3).1, (((rdT ty0 x1 x3).2).1, ((((rdT ty0 x1 x3).2).2).1, (((((rdT ty0 x1 x3).2).2).2).1, ((((((rdT ty0 x1 x3).2).2).2).2).1, ((((((rdT ty0 x1 x3).2).2).2).2).2)))))) m4, ()))) else none
    else
      some (.inl (((), ()), (m4, ())))
def lay_named : Nat → lay_named_ins.T → Option (OutsT lay_named_outs)
  | 0, _ => none
  | n + 1, ((x1, _), _) =>
    match lay_named_l3 n n (((), x1, (x1.length : Int), 0, ()), ([], ())) with
    | some (.inl ((_, _), (m2, _))) => (
      some (.inl (((((), ()), (ErrV.nil, ()), ()), ()), (m2, ()))))
    | some (.inr (.inl ((_, x3, _), _))) => (
      some (.inr ((((((), ()), (x3, ()), ()), ()), ()))))
    | some (.inr (.inr (_))) => none
    | none => none
def lay_named_H (n : Nat) : Hints := ⟨[], fun _ => [], fun k => match k with | 3 => some ⟨[4, 10, 11, 12], lay_named_l3_h, lay_named_l3_o, lay_named_l3 n⟩ | _ => none, fun _ => none, fun _ => none, fun _ => 0⟩
def lay_named_O (n : Nat) : FuncId → List FSpec := asc []
def b36 : Code := bodyOf Tryz.f36
theorem lay_named_l3_k0 (n : Nat) : LoopOk P CC (lay_named_O n) n 0 31 (lay_named_H n) ⟨[4, 10, 11, 12], lay_named_l3_h, lay_named_l3_o, lay_named_l3 n⟩ ((loopsOf b36).getD 0 .skip) := by
  refine ⟨fun _ => by kernel_rfl, ?_⟩
  rintro k ⟨⟨⟨⟩, x1, x2, x3, ⟨⟩⟩, ⟨x4, ⟨⟩⟩⟩
  kernel_rfl
theorem lay_named_ok {S : Nat → Addr} (ok : CfgOk P CC S) : ∀ n, SpecOk P CC S 36 ⟨lay_named_ins, lay_named_outs, lay_named n⟩ :=
  fn_all ok (O := lay_named_O) (H := lay_named_H) (fn := Tryz.f36) (body := b36) (by kernel_rfl) (by kernel_rfl) (by kernel_rfl) (by decide) (by kernel_rfl)
    (fun x => by kernel_rfl) (fun n => by
      rintro ⟨⟨x1, ⟨⟩⟩, ⟨⟩⟩
      kernel_rfl)
    (fun n => obl_of (by kernel_rfl) (by kernel_rfl) (ls (lz) (by kernel_rfl) (lay_named_l3_k0 n)) (cn (cn (cn (cn (cn (cn (cn (cn (cn (cn (cn (cn (cn (cz) (by kernel_rfl)) (by kernel_rfl)) (by kernel_rfl)) (by kernel_rfl)) (by kernel_rfl)) (by kernel_rfl)) (by kernel_rfl)) (by kernel_rfl)) (by kernel_rfl)) (by kernel_rfl)) (by kernel_rfl)) (by kernel_rfl)) (by kernel_rfl)) (hn fun _ => rfl))
    (fun n ih => asc_nil)
/-! ### pendulum/lay.Uses -/
abbrev lay_Uses_ins : Sh := ⟨[(.one (.val .str)), (.one (.val ty18))], []⟩
abbrev lay_Uses_outs : List Sh := [⟨[(.tup [(false, [(.arr 0)]), (false, [(.val .err)])])], [(.arr 9 .str)]⟩]
abbrev lay_Uses_l15_h : Sh := ⟨[(.one (.map 0)), (.one (.map 1)), (.one (.arr 2)), (.one (.val ty10)), (.one (.val (.int .i64))), (.one (.val (.int .i64)))], [(.map .str ty0 true), (.map .str (.int .i64) false), (.arr 9 .str)]⟩
abbrev lay_Uses_l15_o : List Out := [⟨(.exit 2), [6, 8, 9], ⟨[(.one (.map 0)), (.one (.map 1)), (.one (.arr 2))], [(.map .str ty0 true), (.map .str (.int .i64) false), (.arr 9 .str)]⟩⟩]
def lay_Uses_l15 (n : Nat) : Nat → lay_Uses_l15_h.T → Option (OutT lay_Uses_l15_o)
  | 0, _ => none
  | k + 1, ((_, _, _, x1, x2, x3, _), (m4, m5, l6, _)) =>
    if decide (x3 < x2) then
      if 0 ≤ x3 ∧ x3 < (x1.length : Int) then (
        let v7 : Int := (mfind (keyEq (.str : Ty)) ((rdT ty11 x1 x3).2) m5).getD 0
        if v7 == 0 then
          if (l6.length + ([(rdT ty11 x1 x3).2] : List (.str : Ty).T).length) * 16 ≤ 140737488355328 then (
            let v8 : Int := IntKind.i64.wrap (x3 + 1)
            lay_Uses_l15 n k (((), (), (), x1, x2, v8, ()), (m4, m5, l6 ++ [(rdT ty11 x1 x3).2], ()))) else none
        else
          let v9 : Int := IntKind.i64.wrap (x3 + 1)
          lay_Uses_l15 n k (((), (), (), x1, x2, v9, ()), (m4, m5, l6, ()))) else none
    else
      some (.inl (((), (), (), ()), (m4, m5, l6, ())))
abbrev lay_Uses_l6_h : Sh := ⟨[(.one (.map 0)), (.one (.map 1)), (.one (.arr 2))], [(.map .str ty0 true), (.map .str (.int .i64) false), (.arr 9 .str)]⟩
abbrev lay_Uses_l6_o : List Out := [⟨(.exit 0), [8], ⟨[(.one (.map 0))], [(.map .str (.int .i64) false)]⟩⟩, ⟨.ret, [4, 5], ⟨[(.one (.emp true)), (.one (.val .err))], []⟩⟩]
def lay_Uses_l6 (n : Nat) : Nat → lay_Uses_l6_h.T → Option (OutT lay_Uses_l6_o)
  | 0, _ => none
  | k + 1, ((_, _, _, _), (m1, m2, l3, _)) =>
    if decide ((l3.length : Int) > 0) then
      if 0 ≤ (0 : Int) ∧ (0 : Int) < (l3.length : Int) then (
        if 0 ≤ (1 : Int) ∧ (1 : Int) ≤ (l3.length : Int) then (
          let v4 : Int := (mfind (keyEq (.str : Ty)) (rdT (.str : Ty) l3 0) m2).getD 0
          if decide (v4 > 0) then
            lay_Uses_l6 n k (((), (), (), ()), (m1, m2, cutL l3 1 (l3.length : Int), ()))
          else
            let v5 : ty0.T := (mfind (keyEq (.str : Ty)) (rdT (.str : Ty) l3 0) m1).getD ((⟨#[]⟩ : ByteArray), ([], ([], (0, ([], ([], []))))))
            if !((mfind (keyEq (.str : Ty)) (rdT (.str : Ty) l3 0) m1).isSome) then
              some (.inr (.inl (((), ErrV.sent 116, ()), ())))
            else
              match lay_Uses_l15 n n (((), (), (), v5.2.2.2.2.2.1, (v5.2.2.2.2.2.1.length : Int), 0, ()), (m1, mset (keyEq (.str : Ty)) (rdT (.str : Ty) l3 0) 1 m2, cutL l3 1 (l3.length : Int), ())) with
              | some (.inl ((_, _, _, _), (m6, m7, l8, _))) => (
                lay_Uses_l6 n k (((), (), (), ()), (m6, m7, l8, ())))
              | some (.inr (_)) => none
              | none => none) else none) else none
    else
      some (.inl (((), ()), (m2, ())))
def lay_Uses : Nat → lay_Uses_ins.T → Option (OutsT lay_Uses_outs)
  | 0, _ => none
  | n + 1, ((x1, x2, _), _) =>
    match lay_named n ((x2, ()), ()) with
    | some (.inl ((((_, _), (x3, _), _), _), (m4, _))) => (
      if !(errNil x3) then
        some (((((), ()), (x3, ()), ()), ()), ([], ()))
      else
        match lay_Uses_l6 n n (((), (), (), ()), (m4, [], [x1], ())) with
        | some (.inl ((_, _), (m6, _))) => (
          match usSem (((), (), ()), (m6, [], ())) with
          | some (.inl ((_, x8, _), (l9, _))) => (
            some (((((), ()), (x8, ()), ()), ()), (l9, ())))
          | some (.inr (_)) => none
          | none => none)
        | some (.inr (.inl ((_, x7, _), _))) => (
          some (((((), ()), (x7, ()), ()), ()), ([], ())))
        | some (.inr (.inr (_))) => none
        | none => none)
    | some (.inr (((((_, _), (x5, _), _), _), _))) => (
      if !(errNil x5) then (
        some (((((), ()), (x5, ()), ()), ()), ([], ()))) else none)
    | none => none
def lay_Uses_H (n : Nat) : Hints := ⟨[35], fun _ => [], fun k => match k with | 15 => some ⟨[6, 8, 9, 52, 53, 54], lay_Uses_l15_h, lay_Uses_l15_o, lay_Uses_l15 n⟩ | 6 => some ⟨[6, 8, 9], lay_Uses_l6_h, lay_Uses_l6_o, lay_Uses_l6 n⟩ | _ => none, fun _ => none, fun k => match k with | 21 => some ⟨[8, 15], usH, usO, fun _ => usSem⟩ | _ => none, fun _ => 0⟩
def lay_Uses_O (n : Nat) : FuncId → List FSpec := asc [(36, ⟨lay_named_ins, lay_named_outs, lay_named n⟩)]
def b16 : Code := bodyOf Tryz.f16
theorem lay_Uses_l6_k0 (n : Nat) : LoopOk P CC (lay_Uses_O n) n 0 82 (lay_Uses_H n) ⟨[6, 8, 9], lay_Uses_l6_h, lay_Uses_l6_o, lay_Uses_l6 n⟩ ((loopsOf b16).getD 0 .skip) := by
  refine ⟨fun _ => by kernel_rfl, ?_⟩
  rintro k ⟨⟨⟨⟩, ⟨⟩, ⟨⟩, ⟨⟩⟩, ⟨x1, x2, x3, ⟨⟩⟩⟩
  kernel_rfl
theorem lay_Uses_l15_k1 (n : Nat) : LoopOk P CC (lay_Uses_O n) n 0 82 (lay_Uses_H n) ⟨[6, 8, 9, 52, 53, 54], lay_Uses_l15_h, lay_Uses_l15_o, lay_Uses_l15 n⟩ ((loopsOf b16).getD 1 .skip) := by
  refine ⟨fun _ => by kernel_rfl, ?_⟩
  rintro k ⟨⟨⟨⟩, ⟨⟩, ⟨⟩, x1, x2, x3, ⟨⟩⟩, ⟨x4, x5, x6, ⟨⟩⟩⟩
  kernel_rfl
theorem lay_Uses_ok {S : Nat → Addr} (ok : CfgOk P CC S) : ∀ n, SpecOk P CC S 16 ⟨lay_Uses_ins, lay_Uses_outs, lay_Uses n⟩ :=
  fn_all ok (O := lay_Uses_O) (H := lay_Uses_H) (fn := Tryz.f16) (body := b16) (by kernel_rfl) (by kernel_rfl) (by kernel_rfl) (by decide) (by kernel_rfl)
    (fun x => by kernel_rfl) (fun n => by
      rintro ⟨⟨x1, x2, ⟨⟩⟩, ⟨⟩⟩
      kernel_rfl)
    (fun n => obl_of (by kernel_rfl) (by kernel_rfl) (ln (ls (ls (lz) (by kernel_rfl) (lay_Uses_l6_k0 n)) (by kernel_rfl) (lay_Uses_l15_k1 n)) (by kernel_rfl)) (cn (cn (cn (cn (cn (cn (cn (cn (cn (cn (cn (cn (cn (cn (cn (cn (cn (cn (cn (cn (cn (cn (cn (cn (cn (cn (cn (cn (cn (cn (cn (cn (cn (cz) (by kernel_rfl)) (by kernel_rfl)) (by kernel_rfl)) (by kernel_rfl)) (by kernel_rfl)) (by kernel_rfl)) (by kernel_rfl)) (by kernel_rfl)) (by kernel_rfl)) (by kernel_rfl)) (by kernel_rfl)) (by kernel_rfl)) (by kernel_rfl)) (by kernel_rfl)) (by kernel_rfl)) (by kernel_rfl)) (by kernel_rfl)) (by kernel_rfl)) (by kernel_rfl)) (by kernel_rfl)) (by kernel_rfl)) (by kernel_rfl)) (by kernel_rfl)) (by kernel_rfl)) (by kernel_rfl)) (by kernel_rfl)) (by kernel_rfl)) (by kernel_rfl)) (by kernel_rfl)) (by kernel_rfl)) (by kernel_rfl)) (by kernel_rfl)) (by kernel_rfl)) (hdall (by kernel_rfl) (hdo (hdo (hdo (hdo (hdo (hds (hds (hdo (hdo (hdo (hdo (hdo (hdo (hdo (hdo (hdo (hdo (hdo (hdo (hdo (hdo (hdo (hdo (hdo (hdo (hdo (hdo (hdo (hdo (hdo (hdo (hdo (hdo (hdz) (by kernel_rfl)) (by kernel_rfl)) (by kernel_rfl)) (by kernel_rfl)) (by kernel_rfl)) (by kernel_rfl)) (by kernel_rfl)) (by kernel_rfl)) (by kernel_rfl)) (by kernel_rfl)) (by kernel_rfl)) (by kernel_rfl)) (by kernel_rfl)) (by kernel_rfl)) (by kernel_rfl)) (by kernel_rfl)) (by kernel_rfl)) (by kernel_rfl)) (by kernel_rfl)) (by kernel_rfl)) (by kernel_rfl)) (by kernel_rfl)) (by kernel_rfl)) (by kernel_rfl)) (by kernel_rfl)) (by kernel_rfl)) (p := HandOk P CC n 0 82 ⟨[8, 15], usH, usO, fun _ => usSem⟩ usA (.region 25 us25 false) (.region 26 us26 false)) (by kernel_rfl) (us_hand n)) (p := True) (by kernel_rfl) trivial) (by kernel_rfl)) (by kernel_rfl)) (by kernel_rfl)) (by kernel_rfl)) (by kernel_rfl))))
    (fun n ih => asc_cons (lay_named_ok ok n) <| asc_nil)
/-! ### pendulum/lay.depths -/
abbrev lay_depths_ins : Sh := ⟨[(.one (.val ty17)), (.one (.map 0))], [(.map .str ty0 true)]⟩
abbrev lay_depths_outs : List Sh := [⟨[(.tup [(false, [(.map 1)]), (false, [(.val .bool)])])], [(.map .str ty0 true), (.map .str (.int .i64) false)]⟩]
abbrev lay_depths_l9_h : Sh := ⟨[(.one (.val ty17)), (.one (.map 0)), (.one (.map 1)), (.one (.val .str)), (.one (.val (.int .i64))), (.one (.val (.int .i64))), (.one (.val (.int .i64))), (.one (.val ty17)), (.one (.val (.int .i64))), (.one (.val (.int .i64))), (.one (.val ty10)), (.one (.val (.int .i64))), (.one (.val (.int .i64)))], [(.map .str ty0 true), (.map .str (.int .i64) false)]⟩
abbrev lay_depths_l9_o : List Out := [⟨(.exit 4), [0, 1, 6, 8, 9, 14, 15, 17, 18, 19], ⟨[(.one (.val ty17)), (.one (.map 0)), (.one (.map 1)), (.one (.val .str)), (.one (.val (.int .i64))), (.one (.val (.int .i64))), (.one (.val (.int .i64))), (.one (.val ty17)), (.one (.val (.int .i64))), (.one (.val (.int .i64)))], [(.map .str ty0 true), (.map .str (.int .i64) false)]⟩⟩]
def lay_depths_l9 (n : Nat) : Nat → lay_depths_l9_h.T → Option (OutT lay_depths_l9_o)
  | 0, _ => none
  | k + 1, ((x1, _, _, x2, x3, x4, x5, x6, x7, x8, x9, x10, x11, _), (m12, m13, _)) =>
    if decide (x11 < x10) then
      if 0 ≤ x11 ∧ x11 < (x9.length : Int) then (
        let v14 : Int := (mfind (keyEq (.str : Ty)) ((rdT ty11 x9 x11).2) m13).getD 0
        if v14 == 0 then
          some (.inl ((x1, (), (), x2, 0, x4, x5, x6, x7, x8, ()), (m12, m13, ())))
        else
          let v15 : Int := (mfind (keyEq (.str : Ty)) ((rdT ty11 x9 x11).2) m13).getD 0
          let v16 : Int := IntKind.i64.wrap (v15 + 1)
          let v17 : Int := IntKind.i64.wrap (x11 + 1)
          lay_depths_l9 n k ((x1, (), (), x2, mx x3 v16, x4, x5, x6, x7, x8, x9, x10, v17, ()), (m12, m13, ()))) else none
    else
      some (.inl ((x1, (), (), x2, x3, x4, x5, x6, x7, x8, ()), (m12, m13, ())))
abbrev lay_depths_l5_h : Sh := ⟨[(.one (.val ty17)), (.one (.map 0)), (.one (.map 1)), (.one (.val (.int .i64))), (.one (.val (.int .i64))), (.one (.val ty17)), (.one (.val (.int .i64))), (.one (.val (.int .i64)))], [(.map .str ty0 true), (.map .str (.int .i64) false)]⟩
abbrev lay_depths_l5_o : List Out := [⟨(.exit 2), [0, 1, 6, 14, 15], ⟨[(.one (.val ty17)), (.one (.map 0)), (.one (.map 1)), (.one (.val (.int .i64))), (.one (.val (.int .i64)))], [(.map .str ty0 true), (.map .str (.int .i64) false)]⟩⟩]
def lay_depths_l5 (n : Nat) : Nat → lay_depths_l5_h.T → Option (OutT lay_depths_l5_o)
  | 0, _ => none
  | k + 1, ((x1, _, _, x2, x3, x4, x5, x6, _), (m7, m8, _)) =>
    if decide (x6 < x5) then
      if 0 ≤ x6 ∧ x6 < (x4.length : Int) then (
        let v9 : ty0.T := (mfind (keyEq (.str : Ty)) (rdT (.str : Ty) x4 x6) m7).getD ((⟨#[]⟩ : ByteArray), ([], ([], (0, ([], ([], []))))))
        match lay_depths_l9 n n ((x1, (), (), rdT (.str : Ty) x4 x6, 1, x2, x3, x4, x5, x6, v9.2.2.2.2.2.1, (v9.2.2.2.2.2.1.length : Int), 0, ()), (m7, m8, ())) with
        | some (.inl ((x10, _, _, x11, x12, x13, x14, x15, x16, x17, _), (m18, m19, _))) => (
          if decide (x12 > 0) then
            let v20 : Int := IntKind.i64.wrap (x17 + 1)
            lay_depths_l5 n k ((x10, (), (), x13, x14, x15, x16, v20, ()), (m18, mset (keyEq (.str : Ty)) x11 x12 m19, ()))
          else
            let v21 : Int := IntKind.i64.wrap (x17 + 1)
            lay_depths_l5 n k ((x10, (), (), x13, x14, x15, x16, v21, ()), (m18, m19, ())))
        | some (.inr (_)) => none
        | none => none) else none
    else
      some (.inl ((x1, (), (), x2, x3, ()), (m7, m8, ())))
abbrev lay_depths_l3_h : Sh := ⟨[(.one (.val ty17)), (.one (.map 0)), (.one (.map 1)), (.one (.val (.int .i64))), (.one (.val (.int .i64)))], [(.map .str ty0 true), (.map .str (.int .i64) false)]⟩
abbrev lay_depths_l3_o : List Out := [⟨(.exit 0), [0, 6], ⟨[(.one (.val ty17)), (.one (.map 1))], [(.map .str ty0 true), (.map .str (.int .i64) false)]⟩⟩]
def lay_depths_l3 (n : Nat) : Nat → lay_depths_l3_h.T → Option (OutT lay_depths_l3_o)
  | 0, _ => none
  | k + 1, ((x1, _, _, x2, x3, _), (m4, m5, _)) =>
    if decide (x3 < x2) then
      match lay_depths_l5 n n ((x1, (), (), x2, x3, x1, (x1.length : Int), 0, ()), (m4, m5, ())) with
      | some (.inl ((x6, _, _, x7, x8, _), (m9, m10, _))) => (
        let v11 : Int := IntKind.i64.wrap (x8 + 1)
        lay_depths_l3 n k ((x6, (), (), x7, v11, ()), (m9, m10, ())))
      | some (.inr (_)) => none
      | none => none
    else
      some (.inl ((x1, (), ()), (m4, m5, ())))
def lay_depths : Nat → lay_depths_ins.T → Option (OutsT lay_depths_outs)
  | 0, _ => none
  | n + 1, ((x1, _, _), (m2, _)) =>
    match lay_depths_l3 n n ((x1, (), (), (x1.length : Int), 0, ()), (m2, [], ())) with
    | some (.inl ((x3, _, _), (m4, m5, _))) => (
      some (((((), ()), ((m5.length : Int) == (x3.length : Int), ()), ()), ()), (m4, m5, ())))
    | some (.inr (_)) => none
    | none => none
def lay_depths_H (n : Nat) : Hints := ⟨[], fun _ => [], fun k => match k with | 9 => some ⟨[0, 1, 6, 8, 9, 14, 15, 17, 18, 19, 26, 27, 28], lay_depths_l9_h, lay_depths_l9_o, lay_depths_l9 n⟩ | 5 => some ⟨[0, 1, 6, 14, 15, 17, 18, 19], lay_depths_l5_h, lay_depths_l5_o, lay_depths_l5 n⟩ | 3 => some ⟨[0, 1, 6, 14, 15], lay_depths_l3_h, lay_depths_l3_o, lay_depths_l3 n⟩ | _ => none, fun _ => none, fun _ => none, fun _ => 0⟩
def lay_depths_O (n : Nat) : FuncId → List FSpec := asc []
def b54 : Code := bodyOf Tryz.f54
theorem lay_depths_l3_k0 (n : Nat) : LoopOk P CC (lay_depths_O n) n 1 58 (lay_depths_H n) ⟨[0, 1, 6, 14, 15], lay_depths_l3_h, lay_depths_l3_o, lay_depths_l3 n⟩ ((loopsOf b54).getD 0 .skip) := by
  refine ⟨fun _ => by kernel_rfl, ?_⟩
  rintro k ⟨⟨x1, ⟨⟩, ⟨⟩, x2, x3, ⟨⟩⟩, ⟨x4, x5, ⟨⟩⟩⟩
  kernel_rfl
theorem lay_depths_l5_k1 (n : Nat) : LoopOk P CC (lay_depths_O n) n 1 58 (lay_depths_H n) ⟨[0, 1, 6, 14, 15, 17, 18, 19], lay_depths_l5_h, lay_depths_l5_o, lay_depths_l5 n⟩ ((loopsOf b54).getD 1 .skip) := by
  refine ⟨fun _ => by kernel_rfl, ?_⟩
  rintro k ⟨⟨x1, ⟨⟩, ⟨⟩, x2, x3, x4, x5, x6, ⟨⟩⟩, ⟨x7, x8, ⟨⟩⟩⟩
  kernel_rfl
theorem lay_depths_l9_k2 (n : Nat) : LoopOk P CC (lay_depths_O n) n 1 58 (lay_depths_H n) ⟨[0, 1, 6, 8, 9, 14, 15, 17, 18, 19, 26, 27, 28], lay_depths_l9_h, lay_depths_l9_o, lay_depths_l9 n⟩ ((loopsOf b54).getD 2 .skip) := by
  refine ⟨fun _ => by kernel_rfl, ?_⟩
  rintro k ⟨⟨x1, ⟨⟩, ⟨⟩, x2, x3, x4, x5, x6, x7, x8, x9, x10, x11, ⟨⟩⟩, ⟨x12, x13, ⟨⟩⟩⟩
  kernel_rfl
theorem lay_depths_ok {S : Nat → Addr} (ok : CfgOk P CC S) : ∀ n, SpecOk P CC S 54 ⟨lay_depths_ins, lay_depths_outs, lay_depths n⟩ :=
  fn_all ok (O := lay_depths_O) (H := lay_depths_H) (fn := Tryz.f54) (body := b54) (by kernel_rfl) (by kernel_rfl) (by kernel_rfl) (by decide) (by kernel_rfl)
    (fun x => by kernel_rfl) (fun n => by
      rintro ⟨⟨x1, ⟨⟩, ⟨⟩⟩, ⟨x2, ⟨⟩⟩⟩
      kernel_rfl)
    (fun n => obl_of (by kernel_rfl) (by kernel_rfl) (ls (ls (ls (lz) (by kernel_rfl) (lay_depths_l3_k0 n)) (by kernel_rfl) (lay_depths_l5_k1 n)) (by kernel_rfl) (lay_depths_l9_k2 n)) (cn (cn (cn (cn (cn (cn (cn (cn (cn (cn (cn (cn (cn (cn (cn (cn (cn (cn (cn (cn (cn (cn (cn (cn (cz) (by kernel_rfl)) (by kernel_rfl)) (by kernel_rfl)) (by kernel_rfl)) (by kernel_rfl)) (by kernel_rfl)) (by kernel_rfl)) (by kernel_rfl)) (by kernel_rfl)) (by kernel_rfl)) (by kernel_rfl)) (by kernel_rfl)) (by kernel_rfl)) (by kernel_rfl)) (by kernel_rfl)) (by kernel_rfl)) (by kernel_rfl)) (by kernel_rfl)) (by kernel_rfl)) (by kernel_rfl)) (by kernel_rfl)) (by kernel_rfl)) (by kernel_rfl)) (by kernel_rfl)) (hn fun _ => rfl))
    (fun n ih => asc_nil)
/-! ### (*pendulum/lay.layer).walk -/
abbrev lay_layer_walk_2_ins : Sh := ⟨[(.one (.ptr 0 0)), (.one (.val .str)), (.one (.val .str))], [(.obj 85 [(.map 1), (.arr 2), (.map 3), (.val (.int .i64))]), (.map .str ty0 true), (.arr 134 ty7), (.map .str (.int .i64) false)]⟩
abbrev lay_layer_walk_2_outs : List Sh := [⟨[(.one (.val .err))], [(.obj 85 [(.map 1), (.arr 4), (.map 3), (.val (.int .i64))]), (.map .str ty0 true), .dead, (.map .str (.int .i64) false), (.arr 134 ty7)]⟩]
abbrev lay_layer_walk_2_c10_h : Sh := ⟨[(.one (.ptr 0 0)), (.one (.val .str)), (.one (.ptr 4 0))], [(.obj 85 [(.map 1), (.arr 2), (.map 3), (.val (.int .i64))]), (.map .str ty0 true), (.arr 134 ty7), (.map .str (.int .i64) false), (.obj 37 [(.val .str), (.val ty2), (.val ty2), (.val (.int .i64)), (.val ty6), (.val ty10), (.val ty12)])]⟩
abbrev lay_layer_walk_2_c10_o : List Out := [⟨.normal, [0, 2, 7], ⟨[(.one (.ptr 0 0)), (.one (.val .str)), (.one (.ptr 4 0))], [(.obj 85 [(.map 1), (.arr 2), (.map 3), (.val (.int .i64))]), (.map .str ty0 true), (.arr 134 ty7), (.map .str (.int .i64) false), (.obj 37 [(.val .str), (.val ty2), (.val ty2), (.val (.int .i64)), (.val ty6), (.val ty10), (.val ty12)])]⟩⟩]
def lay_layer_walk_2_c10 (n : Nat) (rc : lay_layer_walk_2_ins.T → Option (OutsT lay_layer_walk_2_outs)) : lay_layer_walk_2_c10_h.T → Option (OutT lay_layer_walk_2_c10_o)
  | ((_, x1, _, _), ((_, _, _, x2, _), m3, l4, m5, (x6, x7, x8, x9, x10, x11, x12, _), _)) =>
    let v13 : Int := (mfind (keyEq (.str : Ty)) x1 m5).getD 0
    if !((mfind (keyEq (.str : Ty)) x1 m5).isSome) then
      some (.inl (((), x1, (), ()), (((), (), (), x2, ()), m3, l4, mset (keyEq (.str : Ty)) x1 (l4.length : Int) m5, (x6, x7, x8, x9, x10, x11, x12, ()), ())))
    else
      some (.inl (((), x1, (), ()), (((), (), (), x2, ()), m3, l4, m5, (x6, x7, x8, x9, x10, x11, x12, ()), ())))
abbrev lay_layer_walk_2_l11_h : Sh := ⟨[(.one (.ptr 0 0)), (.one (.val .str)), (.one (.ptr 4 0)), (.one (.val ty6)), (.one (.val (.int .i64))), (.one (.val (.int .i64)))], [(.obj 85 [(.map 1), (.arr 5), (.map 3), (.val (.int .i64))]), (.map .str ty0 true), .dead, (.map .str (.int .i64) false), (.obj 37 [(.val .str), (.val ty2), (.val ty2), (.val (.int .i64)), (.val ty6), (.val ty10), (.val ty12)]), (.arr 134 ty7)]⟩
abbrev lay_layer_walk_2_l11_o : List Out := [⟨(.exit 0), [0, 2, 7], ⟨[(.one (.ptr 0 0)), (.one (.val .str)), (.one (.ptr 4 0))], [(.obj 85 [(.map 1), (.arr 5), (.map 3), (.val (.int .i64))]), (.map .str ty0 true), .dead, (.map .str (.int .i64) false), (.obj 37 [(.val .str), (.val ty2), (.val ty2), (.val (.int .i64)), (.val ty6), (.val ty10), (.val ty12)]), (.arr 134 ty7)]⟩⟩]
def lay_layer_walk_2_l11 (n : Nat) (rc : lay_layer_walk_2_ins.T → Option (OutsT lay_layer_walk_2_outs)) : Nat → lay_layer_walk_2_l11_h.T → Option (OutT lay_layer_walk_2_l11_o)
  | 0, _ => none
  | k + 1, ((_, x1, _, x2, x3, x4, _), ((_, _, _, x5, _), m6, _, m7, (x8, x9, x10, x11, x12, x13, x14, _), l15, _)) =>
    if decide (x4 < x3) then
      if 0 ≤ x4 ∧ x4 < (x2.length : Int) then (
        if x1.size + ((rdT ty7 x2 x4).1).size ≤ 9223372036854775807 then (
          if (l15.length + ([(x1 ++ ((rdT ty7 x2 x4).1), ((rdT ty7 x2 x4).2))] : List ty7.T).length) * 32 ≤ 140737488355328 then (
            let v16 : Int := IntKind.i64.wrap (x4 + 1)
            lay_layer_walk_2_l11 n rc k (((), x1, (), x2, x3, v16, ()), (((), (), (), x5, ()), m6, (), m7, (x8, x9, x10, x11, x12, x13, x14, ()), l15 ++ [(x1 ++ ((rdT ty7 x2 x4).1), ((rdT ty7 x2 x4).2))], ()))) else none) else none) else none
    else
      some (.inl (((), x1, (), ()), (((), (), (), x5, ()), m6, (), m7, (x8, x9, x10, x11, x12, x13, x14, ()), l15, ())))
abbrev lay_layer_walk_2_l16_h : Sh := ⟨[(.one (.ptr 0 0)), (.one (.val .str)), (.one (.val ty10)), (.one (.val (.int .i64))), (.one (.val (.int .i64)))], [(.obj 85 [(.map 1), (.arr 4), (.map 3), (.val (.int .i64))]), (.map .str ty0 true), .dead, (.map .str (.int .i64) false), (.arr 134 ty7)]⟩
abbrev lay_layer_walk_2_l16_o : List Out := [⟨(.exit 2), [], ⟨[], [(.obj 85 [(.map 1), (.arr 4), (.map 3), (.val (.int .i64))]), (.map .str ty0 true), .dead, (.map .str (.int .i64) false), (.arr 134 ty7)]⟩⟩, ⟨.ret, [6], ⟨[(.one (.val .err))], [(.obj 85 [(.map 1), (.arr 4), (.map 3), (.val (.int .i64))]), (.map .str ty0 true), .dead, (.map .str (.int .i64) false), (.arr 134 ty7)]⟩⟩]
def lay_layer_walk_2_l16 (n : Nat) (rc : lay_layer_walk_2_ins.T → Option (OutsT lay_layer_walk_2_outs)) : Nat → lay_layer_walk_2_l16_h.T → Option (OutT lay_layer_walk_2_l16_o)
  | 0, _ => none
  | k + 1, ((_, x1, x2, x3, x4, _), ((_, _, _, x5, _), m6, _, m7, l8, _)) =>
    if decide (x4 < x3) then
      if 0 ≤ x4 ∧ x4 < (x2.length : Int) then (
        if x1.size + ((rdT ty11 x2 x4).1).size ≤ 9223372036854775807 then (
          if (x1 ++ ((rdT ty11 x2 x4).1)).size + (⟨#[47]⟩ : ByteArray).size ≤ 9223372036854775807 then (
            match rc (((), (rdT ty11 x2 x4).2, (x1 ++ ((rdT ty11 x2 x4).1)) ++ (⟨#[47]⟩ : ByteArray), ()), (((), (), (), x5, ()), m6, l8, m7, ())) with
            | some ((x9, _), ((_, _, _, x10, _), m11, _, m12, l13, _)) => (
              if !(errNil x9) then
                some (.inr (.inl ((x9, ()), (((), (), (), x10, ()), m11, (), m12, l13, ()))))
              else
                let v14 : Int := IntKind.i64.wrap (x4 + 1)
                lay_layer_walk_2_l16 n rc k (((), x1, x2, x3, v14, ()), (((), (), (), x10, ()), m11, (), m12, l13, ())))
            | none => none) else none) else none) else none
    else
      some (.inl ((), (((), (), (), x5, ()), m6, (), m7, l8, ())))
def lay_layer_walk_2 : Nat → lay_layer_walk_2_ins.T → Option (OutsT lay_layer_walk_2_outs)
  | 0, _ => none
  | n + 1, ((_, x1, x2, _), ((_, _, _, x3, _), m4, l5, m6, _)) =>
    let v7 : Int := IntKind.i64.wrap (x3 + 1)
    if decide (v7 > 512) then
      some ((ErrV.sent 103, ()), (((), (), (), v7, ()), m4, (), m6, l5, ()))
    else
      let v8 : ty0.T := (mfind (keyEq (.str : Ty)) x1 m4).getD ((⟨#[]⟩ : ByteArray), ([], ([], (0, ([], ([], []))))))
      let v9 : Int := IntKind.i64.wrap (512 - (l5.length : Int))
      if decide ((v8.2.2.2.2.1.length : Int) > v9) then
        some ((ErrV.sent 103, ()), (((), (), (), v7, ()), m4, (), m6, l5, ()))
      else
        match lay_layer_walk_2_c10 n (lay_layer_walk_2 n) (((), x2, (), ()), (((), (), (), v7, ()), m4, l5, m6, (v8.1, v8.2.1, v8.2.2.1, v8.2.2.2.1, v8.2.2.2.2.1, v8.2.2.2.2.2.1, v8.2.2.2.2.2.2, ()), ())) with
        | some (.inl ((_, x10, _, _), ((_, _, _, x11, _), m12, l13, m14, (x15, x16, x17, x18, x19, x20, x21, _), _))) => (
          match lay_layer_walk_2_l11 n (lay_layer_walk_2 n) n (((), x10, (), x19, (x19.length : Int), 0, ()), (((), (), (), x11, ()), m12, (), m14, (x15, x16, x17, x18, x19, x20, x21, ()), l13, ())) with
          | some (.inl ((_, x22, _, _), ((_, _, _, x23, _), m24, _, m25, (x26, x27, x28, x29, x30, x31, x32, _), l33, _))) => (
            match lay_layer_walk_2_l16 n (lay_layer_walk_2 n) n (((), x22, x31, (x31.length : Int), 0, ()), (((), (), (), x23, ()), m24, (), m25, l33, ())) with
            | some (.inl (_, ((_, _, _, x34, _), m35, _, m36, l37, _))) => (
              some ((ErrV.nil, ()), (((), (), (), x34, ()), m35, (), m36, l37, ())))
            | some (.inr (.inl ((x38, _), ((_, _, _, x39, _), m40, _, m41, l42, _)))) => (
              some ((x38, ()), (((), (), (), x39, ()), m40, (), m41, l42, ())))
            | some (.inr (.inr (_))) => none
            | none => none)
          | some (.inr (_)) => none
          | none => none)
        | some (.inr (_)) => none
        | none => none
def lay_layer_walk_2_H (n : Nat) : Hints := ⟨[], fun _ => [], fun k => match k with | 11 => some ⟨[0, 2, 7, 67, 68, 69], lay_layer_walk_2_l11_h, lay_layer_walk_2_l11_o, lay_layer_walk_2_l11 n (lay_layer_walk_2 n)⟩ | 16 => some ⟨[0, 2, 93, 94, 95], lay_layer_walk_2_l16_h, lay_layer_walk_2_l16_o, lay_layer_walk_2_l16 n (lay_layer_walk_2 n)⟩ | _ => none, fun k => match k with | 10 => some ⟨[0, 2, 7], lay_layer_walk_2_c10_h, lay_layer_walk_2_c10_o, fun n => lay_layer_walk_2_c10 n (lay_layer_walk_2 n)⟩ | _ => none, fun _ => none, fun _ => 0⟩
def lay_layer_walk_2_O (n : Nat) : FuncId → List FSpec := asc [(55, ⟨lay_layer_walk_2_ins, lay_layer_walk_2_outs, lay_layer_walk_2 n⟩)]
def b55 : Code := bodyOf Tryz.f55
theorem lay_layer_walk_2_l11_k0 (n : Nat) : LoopOk P CC (lay_layer_walk_2_O n) n 4 112 (lay_layer_walk_2_H n) ⟨[0, 2, 7, 67, 68, 69], lay_layer_walk_2_l11_h, lay_layer_walk_2_l11_o, lay_layer_walk_2_l11 n (lay_layer_walk_2 n)⟩ ((loopsOf b55).getD 0 .skip) := by
  refine ⟨fun _ => by kernel_rfl, ?_⟩
  rintro k ⟨⟨⟨⟩, x1, ⟨⟩, x2, x3, x4, ⟨⟩⟩, ⟨⟨⟨⟩, ⟨⟩, ⟨⟩, x5, ⟨⟩⟩, x6, ⟨⟩, x7, ⟨x8, x9, x10, x11, x12, x13, x14, ⟨⟩⟩, x15, ⟨⟩⟩⟩
  kernel_rfl
theorem lay_layer_walk_2_l16_k1 (n : Nat) : LoopOk P CC (lay_layer_walk_2_O n) n 4 112 (lay_layer_walk_2_H n) ⟨[0, 2, 93, 94, 95], lay_layer_walk_2_l16_h, lay_layer_walk_2_l16_o, lay_layer_walk_2_l16 n (lay_layer_walk_2 n)⟩ ((loopsOf b55).getD 1 .skip) := by
  refine ⟨fun _ => by kernel_rfl, ?_⟩
  rintro k ⟨⟨⟨⟩, x1, x2, x3, x4, ⟨⟩⟩, ⟨⟨⟨⟩, ⟨⟩, ⟨⟩, x5, ⟨⟩⟩, x6, ⟨⟩, x7, x8, ⟨⟩⟩⟩
  kernel_rfl
theorem lay_layer_walk_2_c10_k9 (n : Nat) : CutOk P CC (lay_layer_walk_2_O n) n 4 112 (lay_layer_walk_2_H n) ⟨[0, 2, 7], lay_layer_walk_2_c10_h, lay_layer_walk_2_c10_o, fun n => lay_layer_walk_2_c10 n (lay_layer_walk_2 n)⟩ ((cutsOf b55).getD 9 (0, .skip)).2 := by
  rintro ⟨⟨⟨⟩, x1, ⟨⟩, ⟨⟩⟩, ⟨⟨⟨⟩, ⟨⟩, ⟨⟩, x2, ⟨⟩⟩, x3, x4, x5, ⟨x6, x7, x8, x9, x10, x11, x12, ⟨⟩⟩, ⟨⟩⟩⟩
  kernel_rfl
theorem lay_layer_walk_2_ok {S : Nat → Addr} (ok : CfgOk P CC S) : ∀ n, SpecOk P CC S 55 ⟨lay_layer_walk_2_ins, lay_layer_walk_2_outs, lay_layer_walk_2 n⟩ :=
  fn_all ok (O := lay_layer_walk_2_O) (H := lay_layer_walk_2_H) (fn := Tryz.f55) (body := b55) (by kernel_rfl) (by kernel_rfl) (by kernel_rfl) (by decide) (by kernel_rfl)
    (fun x => by kernel_rfl) (fun n => by
      rintro ⟨⟨⟨⟩, x1, x2, ⟨⟩⟩, ⟨⟨⟨⟩, ⟨⟩, ⟨⟩, x3, ⟨⟩⟩, x4, x5, x6, ⟨⟩⟩⟩
      kernel_rfl)
    (fun n => obl_of (by kernel_rfl) (by kernel_rfl) (ls (ls (lz) (by kernel_rfl) (lay_layer_walk_2_l11_k0 n)) (by kernel_rfl) (lay_layer_walk_2_l16_k1 n)) (cn (cn (cn (cn (cn (cn (cn (cn (cn (cn (cn (cn (cn (cn (cn (cn (cn (cn (cs (cn (cn (cn (cn (cn (cn (cn (cn (cn (cz) (by kernel_rfl)) (by kernel_rfl)) (by kernel_rfl)) (by kernel_rfl)) (by kernel_rfl)) (by kernel_rfl)) (by kernel_rfl)) (by kernel_rfl)) (by kernel_rfl)) (by kernel_rfl) (lay_layer_walk_2_c10_k9 n)) (by kernel_rfl)) (by kernel_rfl)) (by kernel_rfl)) (by kernel_rfl)) (by kernel_rfl)) (by kernel_rfl)) (by kernel_rfl)) (by kernel_rfl)) (by kernel_rfl)) (by kernel_rfl)) (by kernel_rfl)) (by kernel_rfl)) (by kernel_rfl)) (by kernel_rfl)) (by kernel_rfl)) (by kernel_rfl)) (by kernel_rfl)) (by kernel_rfl)) (hn fun _ => rfl))
    (fun n ih => asc_cons (ih) <| asc_nil)
/-! ### (*pendulum/lay.layer).walk -/
abbrev lay_layer_walk_ins : Sh := ⟨[(.one (.ptr 0 0)), (.one (.val .str)), (.one (.val .str))], [(.obj 85 [(.map 1), (.emp true), (.map 2), (.val (.int .i64))]), (.map .str ty0 true), (.map .str (.int .i64) false)]⟩
abbrev lay_layer_walk_outs : List Sh := [⟨[(.one (.val .err))], [(.obj 85 [(.map 1), (.arr 3), (.map 2), (.val (.int .i64))]), (.map .str ty0 true), (.map .str (.int .i64) false), (.arr 134 ty7)]⟩]
abbrev lay_layer_walk_c10_h : Sh := ⟨[(.one (.ptr 0 0)), (.one (.val .str)), (.one (.ptr 3 0))], [(.obj 85 [(.map 1), (.emp true), (.map 2), (.val (.int .i64))]), (.map .str ty0 true), (.map .str (.int .i64) false), (.obj 37 [(.val .str), (.val ty2), (.val ty2), (.val (.int .i64)), (.val ty6), (.val ty10), (.val ty12)])]⟩
abbrev lay_layer_walk_c10_o : List Out := [⟨.normal, [0, 2, 7], ⟨[(.one (.ptr 0 0)), (.one (.val .str)), (.one (.ptr 3 0))], [(.obj 85 [(.map 1), (.emp true), (.map 2), (.val (.int .i64))]), (.map .str ty0 true), (.map .str (.int .i64) false), (.obj 37 [(.val .str), (.val ty2), (.val ty2), (.val (.int .i64)), (.val ty6), (.val ty10), (.val ty12)])]⟩⟩]
def lay_layer_walk_c10 (n : Nat) (rc : lay_layer_walk_ins.T → Option (OutsT lay_layer_walk_outs)) : lay_layer_walk_c10_h.T → Option (OutT lay_layer_walk_c10_o)
  | ((_, x1, _, _), ((_, _, _, x2, _), m3, m4, (x5, x6, x7, x8, x9, x10, x11, _), _)) =>
    let v12 : Int := (mfind (keyEq (.str : Ty)) x1 m4).getD 0
    if !((mfind (keyEq (.str : Ty)) x1 m4).isSome) then
      some (.inl (((), x1, (), ()), (((), (), (), x2, ()), m3, mset (keyEq (.str : Ty)) x1 0 m4, (x5, x6, x7, x8, x9, x10, x11, ()), ())))
    else
      some (.inl (((), x1, (), ()), (((), (), (), x2, ()), m3, m4, (x5, x6, x7, x8, x9, x10, x11, ()), ())))
abbrev lay_layer_walk_l11_h : Sh := ⟨[(.one (.ptr 0 0)), (.one (.val .str)), (.one (.ptr 3 0)), (.one (.val ty6)), (.one (.val (.int .i64))), (.one (.val (.int .i64)))], [(.obj 85 [(.map 1), (.arr 4), (.map 2), (.val (.int .i64))]), (.map .str ty0 true), (.map .str (.int .i64) false), (.obj 37 [(.val .str), (.val ty2), (.val ty2), (.val (.int .i64)), (.val ty6), (.val ty10), (.val ty12)]), (.arr 134 ty7)]⟩
abbrev lay_layer_walk_l11_o : List Out := [⟨(.exit 0), [0, 2, 7], ⟨[(.one (.ptr 0 0)), (.one (.val .str)), (.one (.ptr 3 0))], [(.obj 85 [(.map 1), (.arr 4), (.map 2), (.val (.int .i64))]), (.map .str ty0 true), (.map .str (.int .i64) false), (.obj 37 [(.val .str), (.val ty2), (.val ty2), (.val (.int .i64)), (.val ty6), (.val ty10), (.val ty12)]), (.arr 134 ty7)]⟩⟩]
def lay_layer_walk_l11 (n : Nat) (rc : lay_layer_walk_ins.T → Option (OutsT lay_layer_walk_outs)) : Nat → lay_layer_walk_l11_h.T → Option (OutT lay_layer_walk_l11_o)
  | 0, _ => none
  | k + 1, ((_, x1, _, x2, x3, x4, _), ((_, _, _, x5, _), m6, m7, (x8, x9, x10, x11, x12, x13, x14, _), l15, _)) =>
    if decide (x4 < x3) then
      if 0 ≤ x4 ∧ x4 < (x2.length : Int) then (
        if x1.size + ((rdT ty7 x2 x4).1).size ≤ 9223372036854775807 then (
          if (l15.length + ([(x1 ++ ((rdT ty7 x2 x4).1), ((rdT ty7 x2 x4).2))] : List ty7.T).length) * 32 ≤ 140737488355328 then (
            let v16 : Int := IntKind.i64.wrap (x4 + 1)
            lay_layer_walk_l11 n rc k (((), x1, (), x2, x3, v16, ()), (((), (), (), x5, ()), m6, m7, (x8, x9, x10, x11, x12, x13, x14, ()), l15 ++ [(x1 ++ ((rdT ty7 x2 x4).1), ((rdT ty7 x2 x4).2))], ()))) else none) else none) else none
    else
      some (.inl (((), x1, (), ()), (((), (), (), x5, ()), m6, m7, (x8, x9, x10, x11, x12, x13, x14, ()), l15, ())))
abbrev lay_layer_walk_l16_h : Sh := ⟨[(.one (.ptr 0 0)), (.one (.val .str)), (.one (.val ty10)), (.one (.val (.int .i64))), (.one (.val (.int .i64)))], [(.obj 85 [(.map 1), (.arr 3), (.map 2), (.val (.int .i64))]), (.map .str ty0 true), (.map .str (.int .i64) false), (.arr 134 ty7)]⟩
abbrev lay_layer_walk_l16_o : List Out := [⟨(.exit 2), [], ⟨[], [(.obj 85 [(.map 1), (.arr 3), (.map 2), (.val (.int .i64))]), (.map .str ty0 true), (.map .str (.int .i64) false), (.arr 134 ty7)]⟩⟩, ⟨.ret, [6], ⟨[(.one (.val .err))], [(.obj 85 [(.map 1), (.arr 3), (.map 2), (.val (.int .i64))]), (.map .str ty0 true), (.map .str (.int .i64) false), (.arr 134 ty7)]⟩⟩]
def lay_layer_walk_l16 (n : Nat) (rc : lay_layer_walk_ins.T → Option (OutsT lay_layer_walk_outs)) : Nat → lay_layer_walk_l16_h.T → Option (OutT lay_layer_walk_l16_o)
  | 0, _ => none
  | k + 1, ((_, x1, x2, x3, x4, _), ((_, _, _, x5, _), m6, m7, l8, _)) =>
    if decide (x4 < x3) then
      if 0 ≤ x4 ∧ x4 < (x2.length : Int) then (
        if x1.size + ((rdT ty11 x2 x4).1).size ≤ 9223372036854775807 then (
          if (x1 ++ ((rdT ty11 x2 x4).1)).size + (⟨#[47]⟩ : ByteArray).size ≤ 9223372036854775807 then (
            match lay_layer_walk_2 n (((), (rdT ty11 x2 x4).2, (x1 ++ ((rdT ty11 x2 x4).1)) ++ (⟨#[47]⟩ : ByteArray), ()), (((), (), (), x5, ()), m6, l8, m7, ())) with
            | some ((x9, _), ((_, _, _, x10, _), m11, _, m12, l13, _)) => (
              if !(errNil x9) then
                some (.inr (.inl ((x9, ()), (((), (), (), x10, ()), m11, m12, l13, ()))))
              else
                let v14 : Int := IntKind.i64.wrap (x4 + 1)
                lay_layer_walk_l16 n rc k (((), x1, x2, x3, v14, ()), (((), (), (), x10, ()), m11, m12, l13, ())))
            | none => none) else none) else none) else none
    else
      some (.inl ((), (((), (), (), x5, ()), m6, m7, l8, ())))
def lay_layer_walk : Nat → lay_layer_walk_ins.T → Option (OutsT lay_layer_walk_outs)
  | 0, _ => none
  | n + 1, ((_, x1, x2, _), ((_, _, _, x3, _), m4, m5, _)) =>
    let v6 : Int := IntKind.i64.wrap (x3 + 1)
    if decide (v6 > 512) then
      some ((ErrV.sent 103, ()), (((), (), (), v6, ()), m4, m5, [], ()))
    else
      let v7 : ty0.T := (mfind (keyEq (.str : Ty)) x1 m4).getD ((⟨#[]⟩ : ByteArray), ([], ([], (0, ([], ([], []))))))
      if decide ((v7.2.2.2.2.1.length : Int) > 512) then
        some ((ErrV.sent 103, ()), (((), (), (), v6, ()), m4, m5, [], ()))
      else
        match lay_layer_walk_c10 n (lay_layer_walk n) (((), x2, (), ()), (((), (), (), v6, ()), m4, m5, (v7.1, v7.2.1, v7.2.2.1, v7.2.2.2.1, v7.2.2.2.2.1, v7.2.2.2.2.2.1, v7.2.2.2.2.2.2, ()), ())) with
        | some (.inl ((_, x8, _, _), ((_, _, _, x9, _), m10, m11, (x12, x13, x14, x15, x16, x17, x18, _), _))) => (
          match lay_layer_walk_l11 n (lay_layer_walk n) n (((), x8, (), x16, (x16.length : Int), 0, ()), (((), (), (), x9, ()), m10, m11, (x12, x13, x14, x15, x16, x17, x18, ()), [], ())) with
          | some (.inl ((_, x19, _, _), ((_, _, _, x20, _), m21, m22, (x23, x24, x25, x26, x27, x28, x29, _), l30, _))) => (
            match lay_layer_walk_l16 n (lay_layer_walk n) n (((), x19, x28, (x28.length : Int), 0, ()), (((), (), (), x20, ()), m21, m22, l30, ())) with
            | some (.inl (_, ((_, _, _, x31, _), m32, m33, l34, _))) => (
              some ((ErrV.nil, ()), (((), (), (), x31, ()), m32, m33, l34, ())))
            | some (.inr (.inl ((x35, _), ((_, _, _, x36, _), m37, m38, l39, _)))) => (
              some ((x35, ()), (((), (), (), x36, ()), m37, m38, l39, ())))
            | some (.inr (.inr (_))) => none
            | none => none)
          | some (.inr (_)) => none
          | none => none)
        | some (.inr (_)) => none
        | none => none
def lay_layer_walk_H (n : Nat) : Hints := ⟨[], fun _ => [], fun k => match k with | 11 => some ⟨[0, 2, 7, 67, 68, 69], lay_layer_walk_l11_h, lay_layer_walk_l11_o, lay_layer_walk_l11 n (lay_layer_walk n)⟩ | 16 => some ⟨[0, 2, 93, 94, 95], lay_layer_walk_l16_h, lay_layer_walk_l16_o, lay_layer_walk_l16 n (lay_layer_walk n)⟩ | _ => none, fun k => match k with | 10 => some ⟨[0, 2, 7], lay_layer_walk_c10_h, lay_layer_walk_c10_o, fun n => lay_layer_walk_c10 n (lay_layer_walk n)⟩ | _ => none, fun _ => none, fun _ => 0⟩
def lay_layer_walk_O (n : Nat) : FuncId → List FSpec := asc [(55, ⟨lay_layer_walk_2_ins, lay_layer_walk_2_outs, lay_layer_walk_2 n⟩)]
theorem lay_layer_walk_l11_k0 (n : Nat) : LoopOk P CC (lay_layer_walk_O n) n 3 112 (lay_layer_walk_H n) ⟨[0, 2, 7, 67, 68, 69], lay_layer_walk_l11_h, lay_layer_walk_l11_o, lay_layer_walk_l11 n (lay_layer_walk n)⟩ ((loopsOf b55).getD 0 .skip) := by
  refine ⟨fun _ => by kernel_rfl, ?_⟩
  rintro k ⟨⟨⟨⟩, x1, ⟨⟩, x2, x3, x4, ⟨⟩⟩, ⟨⟨⟨⟩, ⟨⟩, ⟨⟩, x5, ⟨⟩⟩, x6, x7, ⟨x8, x9, x10, x11, x12, x13, x14, ⟨⟩⟩, x15, ⟨⟩⟩⟩
  kernel_rfl
theorem lay_layer_walk_l16_k1 (n : Nat) : LoopOk P CC (lay_layer_walk_O n) n 3 112 (lay_layer_walk_H n) ⟨[0, 2, 93, 94, 95], lay_layer_walk_l16_h, lay_layer_walk_l16_o, lay_layer_walk_l16 n (lay_layer_walk n)⟩ ((loopsOf b55).getD 1 .skip) := by
  refine ⟨fun _ => by kernel_rfl, ?_⟩
  rintro k ⟨⟨⟨⟩, x1, x2, x3, x4, ⟨⟩⟩, ⟨⟨⟨⟩, ⟨⟩, ⟨⟩, x5, ⟨⟩⟩, x6, x7, x8, ⟨⟩⟩⟩
  kernel_rfl
theorem lay_layer_walk_c10_k9 (n : Nat) : CutOk P CC (lay_layer_walk_O n) n 3 112 (lay_layer_walk_H n) ⟨[0, 2, 7], lay_layer_walk_c10_h, lay_layer_walk_c10_o, fun n => lay_layer_walk_c10 n (lay_layer_walk n)⟩ ((cutsOf b55).getD 9 (0, .skip)).2 := by
  rintro ⟨⟨⟨⟩, x1, ⟨⟩, ⟨⟩⟩, ⟨⟨⟨⟩, ⟨⟩, ⟨⟩, x2, ⟨⟩⟩, x3, x4, ⟨x5, x6, x7, x8, x9, x10, x11, ⟨⟩⟩, ⟨⟩⟩⟩
  kernel_rfl
theorem lay_layer_walk_ok {S : Nat → Addr} (ok : CfgOk P CC S) : ∀ n, SpecOk P CC S 55 ⟨lay_layer_walk_ins, lay_layer_walk_outs, lay_layer_walk n⟩ :=
  fn_all ok (O := lay_layer_walk_O) (H := lay_layer_walk_H) (fn := Tryz.f55) (body := b55) (by kernel_rfl) (by kernel_rfl) (by kernel_rfl) (by decide) (by kernel_rfl)
    (fun x => by kernel_rfl) (fun n => by
      rintro ⟨⟨⟨⟩, x1, x2, ⟨⟩⟩, ⟨⟨⟨⟩, ⟨⟩, ⟨⟩, x3, ⟨⟩⟩, x4, x5, ⟨⟩⟩⟩
      kernel_rfl)
    (fun n => obl_of (by kernel_rfl) (by kernel_rfl) (ls (ls (lz) (by kernel_rfl) (lay_layer_walk_l11_k0 n)) (by kernel_rfl) (lay_layer_walk_l16_k1 n)) (cn (cn (cn (cn (cn (cn (cn (cn (cn (cn (cn (cn (cn (cn (cn (cn (cn (cn (cs (cn (cn (cn (cn (cn (cn (cn (cn (cn (cz) (by kernel_rfl)) (by kernel_rfl)) (by kernel_rfl)) (by kernel_rfl)) (by kernel_rfl)) (by kernel_rfl)) (by kernel_rfl)) (by kernel_rfl)) (by kernel_rfl)) (by kernel_rfl) (lay_layer_walk_c10_k9 n)) (by kernel_rfl)) (by kernel_rfl)) (by kernel_rfl)) (by kernel_rfl)) (by kernel_rfl)) (by kernel_rfl)) (by kernel_rfl)) (by kernel_rfl)) (by kernel_rfl)) (by kernel_rfl)) (by kernel_rfl)) (by kernel_rfl)) (by kernel_rfl)) (by kernel_rfl)) (by kernel_rfl)) (by kernel_rfl)) (by kernel_rfl)) (by kernel_rfl)) (hn fun _ => rfl))
    (fun n ih => asc_cons (lay_layer_walk_2_ok ok n) <| asc_nil)
/-! ### pendulum/lay.depths -/
abbrev lay_depths_2_ins : Sh := ⟨[(.one (.val ty17)), (.one .nilmap)], []⟩
abbrev lay_depths_2_outs : List Sh := [⟨[(.tup [(false, [(.map 0)]), (false, [(.val .bool)])])], [(.map .str (.int .i64) false)]⟩]
abbrev lay_depths_2_l5_h : Sh := ⟨[(.one (.val ty17)), (.one .nilmap), (.one (.map 0)), (.one (.val (.int .i64))), (.one (.val (.int .i64))), (.one (.val ty17)), (.one (.val (.int .i64))), (.one (.val (.int .i64)))], [(.map .str (.int .i64) false)]⟩
abbrev lay_depths_2_l5_o : List Out := [⟨(.exit 2), [0, 1, 6, 14, 15], ⟨[(.one (.val ty17)), (.one .nilmap), (.one (.map 0)), (.one (.val (.int .i64))), (.one (.val (.int .i64)))], [(.map .str (.int .i64) false)]⟩⟩]
def lay_depths_2_l5 (n : Nat) : Nat → lay_depths_2_l5_h.T → Option (OutT lay_depths_2_l5_o)
  | 0, _ => none
  | k + 1, ((x1, _, _, x2, x3, x4, x5, x6, _), (m7, _)) =>
    if decide (x6 < x5) then
      if 0 ≤ x6 ∧ x6 < (x4.length : Int) then
        none
      else
        none
    else
      some (.inl ((x1, (), (), x2, x3, ()), (m7, ())))
abbrev lay_depths_2_l3_h : Sh := ⟨[(.one (.val ty17)), (.one .nilmap), (.one (.map 0)), (.one (.val (.int .i64))), (.one (.val (.int .i64)))], [(.map .str (.int .i64) false)]⟩
abbrev lay_depths_2_l3_o : List Out := [⟨(.exit 0), [0, 6], ⟨[(.one (.val ty17)), (.one (.map 0))], [(.map .str (.int .i64) false)]⟩⟩]
def lay_depths_2_l3 (n : Nat) : Nat → lay_depths_2_l3_h.T → Option (OutT lay_depths_2_l3_o)
  | 0, _ => none
  | k + 1, ((x1, _, _, x2, x3, _), (m4, _)) =>
    if decide (x3 < x2) then
      match lay_depths_2_l5 n n ((x1, (), (), x2, x3, x1, (x1.length : Int), 0, ()), (m4, ())) with
      | some (.inl ((x5, _, _, x6, x7, _), (m8, _))) => (
        let v9 : Int := IntKind.i64.wrap (x7 + 1)
        lay_depths_2_l3 n k ((x5, (), (), x6, v9, ()), (m8, ())))
      | some (.inr (_)) => none
      | none => none
    else
      some (.inl ((x1, (), ()), (m4, ())))
def lay_depths_2 : Nat → lay_depths_2_ins.T → Option (OutsT lay_depths_2_outs)
  | 0, _ => none
  | n + 1, ((x1, _, _), _) =>
    match lay_depths_2_l3 n n ((x1, (), (), (x1.length : Int), 0, ()), ([], ())) with
    | some (.inl ((x2, _, _), (m3, _))) => (
      some (((((), ()), ((m3.length : Int) == (x2.length : Int), ()), ()), ()), (m3, ())))
    | some (.inr (_)) => none
    | none => none
def lay_depths_2_H (n : Nat) : Hints := ⟨[], fun _ => [], fun k => match k with | 5 => some ⟨[0, 1, 6, 14, 15, 17, 18, 19], lay_depths_2_l5_h, lay_depths_2_l5_o, lay_depths_2_l5 n⟩ | 3 => some ⟨[0, 1, 6, 14, 15], lay_depths_2_l3_h, lay_depths_2_l3_o, lay_depths_2_l3 n⟩ | _ => none, fun _ => none, fun _ => none, fun _ => 0⟩
def lay_depths_2_O (n : Nat) : FuncId → List FSpec := asc []
theorem lay_depths_2_l3_k0 (n : Nat) : LoopOk P CC (lay_depths_2_O n) n 0 58 (lay_depths_2_H n) ⟨[0, 1, 6, 14, 15], lay_depths_2_l3_h, lay_depths_2_l3_o, lay_depths_2_l3 n⟩ ((loopsOf b54).getD 0 .skip) := by
  refine ⟨fun _ => by kernel_rfl, ?_⟩
  rintro k ⟨⟨x1, ⟨⟩, ⟨⟩, x2, x3, ⟨⟩⟩, ⟨x4, ⟨⟩⟩⟩
  kernel_rfl
theorem lay_depths_2_l5_k1 (n : Nat) : LoopOk P CC (lay_depths_2_O n) n 0 58 (lay_depths_2_H n) ⟨[0, 1, 6, 14, 15, 17, 18, 19], lay_depths_2_l5_h, lay_depths_2_l5_o, lay_depths_2_l5 n⟩ ((loopsOf b54).getD 1 .skip) := by
  refine ⟨fun _ => by kernel_rfl, ?_⟩
  rintro k ⟨⟨x1, ⟨⟩, ⟨⟩, x2, x3, x4, x5, x6, ⟨⟩⟩, ⟨x7, ⟨⟩⟩⟩
  kernel_rfl
theorem lay_depths_2_ok {S : Nat → Addr} (ok : CfgOk P CC S) : ∀ n, SpecOk P CC S 54 ⟨lay_depths_2_ins, lay_depths_2_outs, lay_depths_2 n⟩ :=
  fn_all ok (O := lay_depths_2_O) (H := lay_depths_2_H) (fn := Tryz.f54) (body := b54) (by kernel_rfl) (by kernel_rfl) (by kernel_rfl) (by decide) (by kernel_rfl)
    (fun x => by kernel_rfl) (fun n => by
      rintro ⟨⟨x1, ⟨⟩, ⟨⟩⟩, ⟨⟩⟩
      kernel_rfl)
    (fun n => obl_of (by kernel_rfl) (by kernel_rfl) (ln (ls (ls (lz) (by kernel_rfl) (lay_depths_2_l3_k0 n)) (by kernel_rfl) (lay_depths_2_l5_k1 n)) (by kernel_rfl)) (cn (cn (cn (cn (cn (cn (cn (cn (cn (cn (cn (cn (cn (cn (cn (cn (cn (cn (cn (cn (cn (cn (cn (cn (cz) (by kernel_rfl)) (by kernel_rfl)) (by kernel_rfl)) (by kernel_rfl)) (by kernel_rfl)) (by kernel_rfl)) (by kernel_rfl)) (by kernel_rfl)) (by kernel_rfl)) (by kernel_rfl)) (by kernel_rfl)) (by kernel_rfl)) (by kernel_rfl)) (by kernel_rfl)) (by kernel_rfl)) (by kernel_rfl)) (by kernel_rfl)) (by kernel_rfl)) (by kernel_rfl)) (by kernel_rfl)) (by kernel_rfl)) (by kernel_rfl)) (by kernel_rfl)) (by kernel_rfl)) (hn fun _ => rfl))
    (fun n ih => asc_nil)
/-! ### (*pendulum/lay.layer).walk -/
abbrev lay_layer_walk_3_ins : Sh := ⟨[(.one (.ptr 0 0)), (.one (.val .str)), (.one (.val .str))], [(.obj 85 [.nilmap, (.emp true), (.map 1), (.val (.int .i64))]), (.map .str (.int .i64) false)]⟩
abbrev lay_layer_walk_3_outs : List Sh := [⟨[(.one (.val .err))], [(.obj 85 [.nilmap, (.emp true), (.map 1), (.val (.int .i64))]), (.map .str (.int .i64) false)]⟩]
def lay_layer_walk_3 : Nat → lay_layer_walk_3_ins.T → Option (OutsT lay_layer_walk_3_outs)
  | 0, _ => none
  | n + 1, ((_, x1, x2, _), ((_, _, _, x3, _), m4, _)) =>
    let v5 : Int := IntKind.i64.wrap (x3 + 1)
    if decide (v5 > 512) then (
      some ((ErrV.sent 103, ()), (((), (), (), v5, ()), m4, ()))) else none
def lay_layer_walk_3_H (n : Nat) : Hints := ⟨[], fun _ => [], fun _ => none, fun _ => none, fun _ => none, fun _ => 0⟩
def lay_layer_walk_3_O (n : Nat) : FuncId → List FSpec := asc []
theorem lay_layer_walk_3_ok {S : Nat → Addr} (ok : CfgOk P CC S) : ∀ n, SpecOk P CC S 55 ⟨lay_layer_walk_3_ins, lay_layer_walk_3_outs, lay_layer_walk_3 n⟩ :=
  fn_all ok (O := lay_layer_walk_3_O) (H := lay_layer_walk_3_H) (fn := Tryz.f55) (body := b55) (by kernel_rfl) (by kernel_rfl) (by kernel_rfl) (by decide) (by kernel_rfl)
    (fun x => by kernel_rfl) (fun n => by
      rintro ⟨⟨⟨⟩, x1, x2, ⟨⟩⟩, ⟨⟨⟨⟩, ⟨⟩, ⟨⟩, x3, ⟨⟩⟩, x4, ⟨⟩⟩⟩
      kernel_rfl)
    (fun n => obl_of (by kernel_rfl) (by kernel_rfl) (ln (ln (lz) (by kernel_rfl)) (by kernel_rfl)) (cn (cn (cn (cn (cn (cn (cn (cn (cn (cn (cn (cn (cn (cn (cn (cn (cn (cn (cn (cn (cn (cn (cn (cn (cn (cn (cn (cn (cz) (by kernel_rfl)) (by kernel_rfl)) (by kernel_rfl)) (by kernel_rfl)) (by kernel_rfl)) (by kernel_rfl)) (by kernel_rfl)) (by kernel_rfl)) (by kernel_rfl)) (by kernel_rfl)) (by kernel_rfl)) (by kernel_rfl)) (by kernel_rfl)) (by kernel_rfl)) (by kernel_rfl)) (by kernel_rfl)) (by kernel_rfl)) (by kernel_rfl)) (by kernel_rfl)) (by kernel_rfl)) (by kernel_rfl)) (by kernel_rfl)) (by kernel_rfl)) (by kernel_rfl)) (by kernel_rfl)) (by kernel_rfl)) (by kernel_rfl)) (by kernel_rfl)) (hn fun _ => rfl))
    (fun n ih => asc_nil)
/-! ### pendulum/lay.all -/
abbrev lay_all_ins : Sh := ⟨[(.one (.val .str)), (.one (.val ty18))], []⟩
abbrev lay_all_outs : List Sh := [⟨[(.tup [(false, [(.ptr 0 0)]), (false, [(.val .err)])])], [(.obj 85 [(.map 1), (.arr 2), (.map 3), (.val (.int .i64))]), (.map .str ty0 true), (.arr 134 ty7), (.map .str (.int .i64) false)]⟩, ⟨[(.tup [(false, [(.ptr 0 0)]), (false, [(.val .err)])])], [(.obj 85 [.nilmap, (.emp true), (.map 1), (.val (.int .i64))]), (.map .str (.int .i64) false)]⟩, ⟨[(.tup [(false, [.nilp]), (false, [(.val .err)])])], []⟩]
def lay_all : Nat → lay_all_ins.T → Option (OutsT lay_all_outs)
  | 0, _ => none
  | n + 1, ((x1, x2, _), _) =>
    match lay_Uses n ((x1, x2, ()), ()) with
    | some ((((_, _), (x3, _), _), _), (l4, _)) => (
      if !(errNil x3) then
        some (.inr (.inr ((((((), ()), (x3, ()), ()), ()), ()))))
      else
        match lay_named n ((x2, ()), ()) with
        | some (.inl ((((_, _), (x5, _), _), _), (m6, _))) => (
          if !(errNil x5) then
            some (.inr (.inr ((((((), ()), (x5, ()), ()), ()), ()))))
          else
            match lay_depths n ((l4, (), ()), (m6, ())) with
            | some ((((_, _), (x8, _), _), _), (m9, m10, _)) => (
              if !x8 then
                some (.inr (.inr ((((((), ()), (ErrV.sent 113, ()), ()), ()), ()))))
              else
                let v11 : Int := (mfind (keyEq (.str : Ty)) x1 m10).getD 0
                if decide (v11 > 8) then
                  some (.inr (.inr ((((((), ()), (ErrV.sent 108, ()), ()), ()), ()))))
                else
                  match lay_layer_walk n (((), x1, (⟨#[]⟩ : ByteArray), ()), (((), (), (), 0, ()), m9, [], ())) with
                  | some ((x12, _), ((_, _, _, x13, _), m14, m15, l16, _)) => (
                    if !(errNil x12) then
                      some (.inr (.inr ((((((), ()), (x12, ()), ()), ()), ()))))
                    else
                      some (.inl (((((), ()), (ErrV.nil, ()), ()), ()), (((), (), (), x13, ()), m14, l16, m15, ()))))
                  | none => none)
            | none => none)
        | some (.inr (((((_, _), (x7, _), _), _), _))) => (
          if !(errNil x7) then
            some (.inr (.inr ((((((), ()), (x7, ()), ()), ()), ()))))
          else
            match lay_depths_2 n ((l4, (), ()), ()) with
            | some ((((_, _), (x17, _), _), _), (m18, _)) => (
              if !x17 then
                some (.inr (.inr ((((((), ()), (ErrV.sent 113, ()), ()), ()), ()))))
              else
                let v19 : Int := (mfind (keyEq (.str : Ty)) x1 m18).getD 0
                if decide (v19 > 8) then
                  some (.inr (.inr ((((((), ()), (ErrV.sent 108, ()), ()), ()), ()))))
                else
                  match lay_layer_walk_3 n (((), x1, (⟨#[]⟩ : ByteArray), ()), (((), (), (), 0, ()), [], ())) with
                  | some ((x20, _), ((_, _, _, x21, _), m22, _)) => (
                    if !(errNil x20) then
                      some (.inr (.inr ((((((), ()), (x20, ()), ()), ()), ()))))
                    else
                      some (.inr (.inl (((((), ()), (ErrV.nil, ()), ()), ()), (((), (), (), x21, ()), m22, ())))))
                  | none => none)
            | none => none)
        | none => none)
    | none => none
def lay_all_H (n : Nat) : Hints := ⟨[], fun _ => [], fun _ => none, fun _ => none, fun _ => none, fun _ => 0⟩
def lay_all_O (n : Nat) : FuncId → List FSpec := asc [(16, ⟨lay_Uses_ins, lay_Uses_outs, lay_Uses n⟩), (36, ⟨lay_named_ins, lay_named_outs, lay_named n⟩), (54, ⟨lay_depths_ins, lay_depths_outs, lay_depths n⟩), (54, ⟨lay_depths_2_ins, lay_depths_2_outs, lay_depths_2 n⟩), (55, ⟨lay_layer_walk_ins, lay_layer_walk_outs, lay_layer_walk n⟩), (55, ⟨lay_layer_walk_3_ins, lay_layer_walk_3_outs, lay_layer_walk_3 n⟩)]
def b35 : Code := bodyOf Tryz.f35
theorem lay_all_ok {S : Nat → Addr} (ok : CfgOk P CC S) : ∀ n, SpecOk P CC S 35 ⟨lay_all_ins, lay_all_outs, lay_all n⟩ :=
  fn_all ok (O := lay_all_O) (H := lay_all_H) (fn := Tryz.f35) (body := b35) (by kernel_rfl) (by kernel_rfl) (by kernel_rfl) (by decide) (by kernel_rfl)
    (fun x => by kernel_rfl) (fun n => by
      rintro ⟨⟨x1, x2, ⟨⟩⟩, ⟨⟩⟩
      kernel_rfl)
    (fun n => obl_of (by kernel_rfl) (by kernel_rfl) (lz) (cn (cn (cn (cn (cn (cn (cn (cn (cn (cn (cn (cn (cn (cn (cn (cn (cn (cn (cn (cn (cn (cz) (by kernel_rfl)) (by kernel_rfl)) (by kernel_rfl)) (by kernel_rfl)) (by kernel_rfl)) (by kernel_rfl)) (by kernel_rfl)) (by kernel_rfl)) (by kernel_rfl)) (by kernel_rfl)) (by kernel_rfl)) (by kernel_rfl)) (by kernel_rfl)) (by kernel_rfl)) (by kernel_rfl)) (by kernel_rfl)) (by kernel_rfl)) (by kernel_rfl)) (by kernel_rfl)) (by kernel_rfl)) (by kernel_rfl)) (hn fun _ => rfl))
    (fun n ih => asc_cons (lay_Uses_ok ok n) <| asc_cons (lay_named_ok ok n) <| asc_cons (lay_depths_ok ok n) <| asc_cons (lay_depths_2_ok ok n) <| asc_cons (lay_layer_walk_ok ok n) <| asc_cons (lay_layer_walk_3_ok ok n) <| asc_nil)
/-! ### pendulum/lay.Of -/
abbrev lay_Of_ins : Sh := ⟨[(.one (.val .str)), (.one (.val ty18))], []⟩
abbrev lay_Of_outs : List Sh := [⟨[(.tup [(false, [(.arr 0)]), (false, [(.val .err)])])], [(.arr 134 ty7)]⟩]
def lay_Of : Nat → lay_Of_ins.T → Option (OutsT lay_Of_outs)
  | 0, _ => none
  | n + 1, ((x1, x2, _), _) =>
    match lay_all n ((x1, x2, ()), ()) with
    | some (.inl ((((_, _), (x3, _), _), _), ((_, _, _, x4, _), m5, l6, m7, _))) => (
      if !(errNil x3) then
        some (((((), ()), (x3, ()), ()), ()), ([], ()))
      else
        some (((((), ()), (ErrV.nil, ()), ()), ()), (l6, ())))
    | some (.inr (.inl ((((_, _), (x8, _), _), _), ((_, _, _, x9, _), m10, _)))) => (
      if !(errNil x8) then
        some (((((), ()), (x8, ()), ()), ()), ([], ()))
      else
        some (((((), ()), (ErrV.nil, ()), ()), ()), ([], ())))
    | some (.inr (.inr (((((_, _), (x11, _), _), _), _)))) => (
      if !(errNil x11) then (
        some (((((), ()), (x11, ()), ()), ()), ([], ()))) else none)
    | none => none
def lay_Of_H (n : Nat) : Hints := ⟨[], fun _ => [], fun _ => none, fun _ => none, fun _ => none, fun _ => 0⟩
def lay_Of_O (n : Nat) : FuncId → List FSpec := asc [(35, ⟨lay_all_ins, lay_all_outs, lay_all n⟩)]
def b15 : Code := bodyOf Tryz.f15
theorem lay_Of_ok {S : Nat → Addr} (ok : CfgOk P CC S) : ∀ n, SpecOk P CC S 15 ⟨lay_Of_ins, lay_Of_outs, lay_Of n⟩ :=
  fn_all ok (O := lay_Of_O) (H := lay_Of_H) (fn := Tryz.f15) (body := b15) (by kernel_rfl) (by kernel_rfl) (by kernel_rfl) (by decide) (by kernel_rfl)
    (fun x => by kernel_rfl) (fun n => by
      rintro ⟨⟨x1, x2, ⟨⟩⟩, ⟨⟩⟩
      kernel_rfl)
    (fun n => obl_of (by kernel_rfl) (by kernel_rfl) (lz) (cn (cn (cn (cn (cn (cn (cz) (by kernel_rfl)) (by kernel_rfl)) (by kernel_rfl)) (by kernel_rfl)) (by kernel_rfl)) (by kernel_rfl)) (hn fun _ => rfl))
    (fun n ih => asc_cons (lay_all_ok ok n) <| asc_nil)
/-! ### slices.Clone[[]byte,byte] -/
abbrev slices_Clone_byte_byte_raw_ins : Sh := ⟨[(.one (.val ty19))], []⟩
abbrev slices_Clone_byte_byte_raw_outs : List Sh := [⟨[(.one (.arr 0))], [(.arr 5 (.int .u8))]⟩]
def slices_Clone_byte_byte_raw : Nat → slices_Clone_byte_byte_raw_ins.T → Option (OutsT slices_Clone_byte_byte_raw_outs)
  | 0, _ => none
  | n + 1, ((x1, _), _) =>
    if (x1.isEmpty || (Ty.size ((.int .u8) : Ty) == 0)) = true then
      both fun b2 =>
        if b2 then
          some (((), ()), ([], ()))
        else
          if (([] : List ((.int .u8) : Ty).T).length + x1.length) * 1 ≤ 140737488355328 then (
            some (((), ()), ([] ++ x1, ()))) else none
    else
      if (([] : List ((.int .u8) : Ty).T).length + x1.length) * 1 ≤ 140737488355328 then (
        some (((), ()), ([] ++ x1, ()))) else none
def slices_Clone_byte_byte_raw_H (n : Nat) : Hints := ⟨[], fun _ => [], fun _ => none, fun _ => none, fun _ => none, fun _ => 0⟩
def slices_Clone_byte_byte_raw_O (n : Nat) : FuncId → List FSpec := asc []
def b41 : Code := bodyOf Tryz.f41
theorem slices_Clone_byte_byte_raw_ok {S : Nat → Addr} (ok : CfgOk P CC S) : ∀ n, SpecOk P CC S 41 ⟨slices_Clone_byte_byte_raw_ins, slices_Clone_byte_byte_raw_outs, slices_Clone_byte_byte_raw n⟩ :=
  fn_all ok (O := slices_Clone_byte_byte_raw_O) (H := slices_Clone_byte_byte_raw_H) (fn := Tryz.f41) (body := b41) (by kernel_rfl) (by kernel_rfl) (by kernel_rfl) (by decide) (by kernel_rfl)
    (fun x => by kernel_rfl) (fun n => by
      rintro ⟨⟨x1, ⟨⟩⟩, ⟨⟩⟩
      kernel_rfl)
    (fun n => obl_of (by kernel_rfl) (by kernel_rfl) (lz) (cn (cn (cn (cn (cn (cz) (by kernel_rfl)) (by kernel_rfl)) (by kernel_rfl)) (by kernel_rfl)) (by kernel_rfl)) (hn fun _ => rfl))
    (fun n ih => asc_nil)
abbrev slices_Clone_byte_byte_ins : Sh := slices_Clone_byte_byte_raw_ins
abbrev slices_Clone_byte_byte_outs : List Sh := slices_Clone_byte_byte_raw_outs
def slices_Clone_byte_byte : Nat → slices_Clone_byte_byte_ins.T → Option (OutsT slices_Clone_byte_byte_outs)
  | 0, _ => none
  | n + 1, ((x1, _), _) => if (([] : List ((.int .u8) : Ty).T).length + x1.length) * 1 ≤ 140737488355328 then (some (((), ()), (x1, ()))) else none
theorem slices_Clone_byte_byte_ok {S : Nat → Addr} (ok : CfgOk P CC S) : ∀ n, SpecOk P CC S 41 ⟨slices_Clone_byte_byte_ins, slices_Clone_byte_byte_outs, slices_Clone_byte_byte n⟩ := fun n => (slices_Clone_byte_byte_raw_ok ok n).weaken fun x y h => by
  cases n with
  | zero => cases h
  | succ n =>
    obtain ⟨⟨x1, ⟨⟩⟩, ⟨⟩⟩ := x
    simp only [slices_Clone_byte_byte] at h
    split at h
    · rename_i hc
      cases h
      simp only [slices_Clone_byte_byte_raw]
      split
      · rename_i he
        have h0 : x1 = [] := by simpa [Ty.size] using he
        subst h0
        exact both_same rfl rfl
      · first | rfl | (rw [if_pos hc]; rfl)
    · cases h
/-! ### pendulum/wire.put -/
abbrev wire_put_ins : Sh := ⟨[(.one (.arr 0)), (.one (.val (.int .i64)))], [(.arr 5 (.int .u8))]⟩
abbrev wire_put_outs : List Sh := [⟨[(.one (.arr 1))], [.dead, (.arr 5 (.int .u8))]⟩]
abbrev wire_put_l2_h : Sh := ⟨[(.one (.arr 1)), (.one (.val (.int .u64)))], [.dead, (.arr 5 (.int .u8))]⟩
abbrev wire_put_l2_o : List Out := [⟨(.exit 0), [0, 5], ⟨[(.one (.arr 1)), (.one (.val (.int .u64)))], [.dead, (.arr 5 (.int .u8))]⟩⟩]
def wire_put_l2 (n : Nat) : Nat → wire_put_l2_h.T → Option (OutT wire_put_l2_o)
  | 0, _ => none
  | k + 1, ((_, x1, _), (_, l2, _)) =>
    if decide (x1 ≥ 128) then
      let v3 : Int := bitsOp .or .u8 (IntKind.u8.wrap x1) 128
      if (l2.length + ([v3] : List ((.int .u8) : Ty).T).length) * 1 ≤ 140737488355328 then (
        wire_put_l2 n k (((), shrOp .u64 x1 7, ()), ((), l2 ++ [v3], ()))) else none
    else
      some (.inl (((), x1, ()), ((), l2, ())))
def wire_put : Nat → wire_put_ins.T → Option (OutsT wire_put_outs)
  | 0, _ => none
  | n + 1, ((_, x1, _), (l2, _)) =>
    let v3 : Int := shlOp .u64 (IntKind.u64.wrap x1) 1
    let v4 : Int := IntKind.u64.wrap (shrOp .i64 x1 63)
    match wire_put_l2 n n (((), bitsOp .xor .u64 v3 v4, ()), ((), l2, ())) with
    | some (.inl ((_, x5, _), (_, l6, _))) => (
      if (l6.length + ([IntKind.u8.wrap x5] : List ((.int .u8) : Ty).T).length) * 1 ≤ 140737488355328 then (
        some (((), ()), ((), l6 ++ [IntKind.u8.wrap x5], ()))) else none)
    | some (.inr (_)) => none
    | none => none
def wire_put_H (n : Nat) : Hints := ⟨[], fun _ => [], fun k => match k with | 2 => some ⟨[0, 5], wire_put_l2_h, wire_put_l2_o, wire_put_l2 n⟩ | _ => none, fun _ => none, fun _ => none, fun _ => 0⟩
def wire_put_O (n : Nat) : FuncId → List FSpec := asc []
def b58 : Code := bodyOf Tryz.f58
theorem wire_put_l2_k0 (n : Nat) : LoopOk P CC (wire_put_O n) n 1 28 (wire_put_H n) ⟨[0, 5], wire_put_l2_h, wire_put_l2_o, wire_put_l2 n⟩ ((loopsOf b58).getD 0 .skip) := by
  refine ⟨fun _ => by kernel_rfl, ?_⟩
  rintro k ⟨⟨⟨⟩, x1, ⟨⟩⟩, ⟨⟨⟩, x2, ⟨⟩⟩⟩
  kernel_rfl
theorem wire_put_ok {S : Nat → Addr} (ok : CfgOk P CC S) : ∀ n, SpecOk P CC S 58 ⟨wire_put_ins, wire_put_outs, wire_put n⟩ :=
  fn_all ok (O := wire_put_O) (H := wire_put_H) (fn := Tryz.f58) (body := b58) (by kernel_rfl) (by kernel_rfl) (by kernel_rfl) (by decide) (by kernel_rfl)
    (fun x => by kernel_rfl) (fun n => by
      rintro ⟨⟨⟨⟩, x1, ⟨⟩⟩, ⟨x2, ⟨⟩⟩⟩
      kernel_rfl)
    (fun n => obl_of (by kernel_rfl) (by kernel_rfl) (ls (lz) (by kernel_rfl) (wire_put_l2_k0 n)) (cn (cn (cn (cn (cn (cn (cn (cz) (by kernel_rfl)) (by kernel_rfl)) (by kernel_rfl)) (by kernel_rfl)) (by kernel_rfl)) (by kernel_rfl)) (by kernel_rfl)) (hn fun _ => rfl))
    (fun n ih => asc_nil)
/-! ### pendulum/wire.PutText -/
abbrev wire_PutText_ins : Sh := ⟨[(.one (.arr 0)), (.one (.val .str))], [(.arr 5 (.int .u8))]⟩
abbrev wire_PutText_outs : List Sh := [⟨[(.one (.arr 1))], [(.frz 5 (.int .u8)), (.arr 5 (.int .u8))]⟩]
def wire_PutText : Nat → wire_PutText_ins.T → Option (OutsT wire_PutText_outs)
  | 0, _ => none
  | n + 1, ((_, x1, _), (l2, _)) =>
    match slices_Clone_byte_byte n ((l2, ()), ()) with
    | some ((_, _), (l3, _)) => (
      match wire_put n (((), (x1.size : Int), ()), (l3, ())) with
      | some ((_, _), (_, l4, _)) => (
        if (l4.length + (bytesL x1).length) * 1 ≤ 140737488355328 then (
          some (((), ()), (l2, l4 ++ (bytesL x1), ()))) else none)
      | none => none)
    | none => none
def wire_PutText_H (n : Nat) : Hints := ⟨[], fun _ => [], fun _ => none, fun _ => none, fun _ => none, fun _ => 0⟩
def wire_PutText_O (n : Nat) : FuncId → List FSpec := asc [(41, ⟨slices_Clone_byte_byte_ins, slices_Clone_byte_byte_outs, slices_Clone_byte_byte n⟩), (58, ⟨wire_put_ins, wire_put_outs, wire_put n⟩)]
def b39 : Code := bodyOf Tryz.f39
theorem wire_PutText_ok {S : Nat → Addr} (ok : CfgOk P CC S) : ∀ n, SpecOk P CC S 39 ⟨wire_PutText_ins, wire_PutText_outs, wire_PutText n⟩ :=
  fn_all ok (O := wire_PutText_O) (H := wire_PutText_H) (fn := Tryz.f39) (body := b39) (by kernel_rfl) (by kernel_rfl) (by kernel_rfl) (by decide) (by kernel_rfl)
    (fun x => by kernel_rfl) (fun n => by
      rintro ⟨⟨⟨⟩, x1, ⟨⟩⟩, ⟨x2, ⟨⟩⟩⟩
      kernel_rfl)
    (fun n => obl_of (by kernel_rfl) (by kernel_rfl) (lz) (cn (cn (cz) (by kernel_rfl)) (by kernel_rfl)) (hn fun _ => rfl))
    (fun n ih => asc_cons (slices_Clone_byte_byte_ok ok n) <| asc_cons (wire_put_ok ok n) <| asc_nil)
/-! ### pendulum/code.text -/
abbrev code_text_ins : Sh := ⟨[(.one (.arr 0)), (.one (.val .str))], [(.arr 5 (.int .u8))]⟩
abbrev code_text_outs : List Sh := [⟨[(.one (.arr 1))], [.dead, (.arr 5 (.int .u8))]⟩]
def code_text : Nat → code_text_ins.T → Option (OutsT code_text_outs)
  | 0, _ => none
  | n + 1, ((_, x1, _), (l2, _)) =>
    match wire_PutText n (((), x1, ()), ([], ())) with
    | some ((_, _), (l3, l4, _)) => (
      if (l2.length + l4.length) * 1 ≤ 140737488355328 then (
        some (((), ()), ((), l2 ++ l4, ()))) else none)
    | none => none
def code_text_H (n : Nat) : Hints := ⟨[], fun _ => [], fun _ => none, fun _ => none, fun _ => none, fun _ => 0⟩
def code_text_O (n : Nat) : FuncId → List FSpec := asc [(39, ⟨wire_PutText_ins, wire_PutText_outs, wire_PutText n⟩)]
def b18 : Code := bodyOf Tryz.f18
theorem code_text_ok {S : Nat → Addr} (ok : CfgOk P CC S) : ∀ n, SpecOk P CC S 18 ⟨code_text_ins, code_text_outs, code_text n⟩ :=
  fn_all ok (O := code_text_O) (H := code_text_H) (fn := Tryz.f18) (body := b18) (by kernel_rfl) (by kernel_rfl) (by kernel_rfl) (by decide) (by kernel_rfl)
    (fun x => by kernel_rfl) (fun n => by
      rintro ⟨⟨⟨⟩, x1, ⟨⟩⟩, ⟨x2, ⟨⟩⟩⟩
      kernel_rfl)
    (fun n => obl_of (by kernel_rfl) (by kernel_rfl) (lz) (cn (cn (cz) (by kernel_rfl)) (by kernel_rfl)) (hn fun _ => rfl))
    (fun n ih => asc_cons (wire_PutText_ok ok n) <| asc_nil)
/-! ### pendulum/wire.Put -/
abbrev wire_Put_ins : Sh := ⟨[(.one (.arr 0)), (.one (.val (.int .i64)))], [(.arr 5 (.int .u8))]⟩
abbrev wire_Put_outs : List Sh := [⟨[(.one (.arr 1))], [(.frz 5 (.int .u8)), (.arr 5 (.int .u8))]⟩]
def wire_Put : Nat → wire_Put_ins.T → Option (OutsT wire_Put_outs)
  | 0, _ => none
  | n + 1, ((_, x1, _), (l2, _)) =>
    match slices_Clone_byte_byte n ((l2, ()), ()) with
    | some ((_, _), (l3, _)) => (
      match wire_put n (((), x1, ()), (l3, ())) with
      | some ((_, _), (_, l4, _)) => (
        some (((), ()), (l2, l4, ())))
      | none => none)
    | none => none
def wire_Put_H (n : Nat) : Hints := ⟨[], fun _ => [], fun _ => none, fun _ => none, fun _ => none, fun _ => 0⟩
def wire_Put_O (n : Nat) : FuncId → List FSpec := asc [(41, ⟨slices_Clone_byte_byte_ins, slices_Clone_byte_byte_outs, slices_Clone_byte_byte n⟩), (58, ⟨wire_put_ins, wire_put_outs, wire_put n⟩)]
def b38 : Code := bodyOf Tryz.f38
theorem wire_Put_ok {S : Nat → Addr} (ok : CfgOk P CC S) : ∀ n, SpecOk P CC S 38 ⟨wire_Put_ins, wire_Put_outs, wire_Put n⟩ :=
  fn_all ok (O := wire_Put_O) (H := wire_Put_H) (fn := Tryz.f38) (body := b38) (by kernel_rfl) (by kernel_rfl) (by kernel_rfl) (by decide) (by kernel_rfl)
    (fun x => by kernel_rfl) (fun n => by
      rintro ⟨⟨⟨⟩, x1, ⟨⟩⟩, ⟨x2, ⟨⟩⟩⟩
      kernel_rfl)
    (fun n => obl_of (by kernel_rfl) (by kernel_rfl) (lz) (cn (cn (cz) (by kernel_rfl)) (by kernel_rfl)) (hn fun _ => rfl))
    (fun n ih => asc_cons (slices_Clone_byte_byte_ok ok n) <| asc_cons (wire_put_ok ok n) <| asc_nil)
/-! ### pendulum/code.put -/
abbrev code_put_ins : Sh := ⟨[(.one (.arr 0)), (.one (.arr 1))], [(.arr 5 (.int .u8)), (.arr 3 (.int .i64))]⟩
abbrev code_put_outs : List Sh := [⟨[(.one (.arr 2))], [.dead, (.arr 3 (.int .i64)), (.arr 5 (.int .u8))]⟩]
abbrev code_put_l2_h : Sh := ⟨[(.one (.arr 2)), (.one (.arr 1)), (.one (.val (.int .i64))), (.one (.val (.int .i64)))], [.dead, (.arr 3 (.int .i64)), (.arr 5 (.int .u8))]⟩
abbrev code_put_l2_o : List Out := [⟨(.exit 0), [0], ⟨[(.one (.arr 2))], [.dead, (.arr 3 (.int .i64)), (.arr 5 (.int .u8))]⟩⟩]
def code_put_l2 (n : Nat) : Nat → code_put_l2_h.T → Option (OutT code_put_l2_o)
  | 0, _ => none
  | k + 1, ((_, _, x1, x2, _), (_, l3, l4, _)) =>
    if decide (x2 < x1) then
      if 0 ≤ x2 ∧ x2 < (l3.length : Int) then (
        let v5 : Int := rdT ((.int .i64) : Ty) l3 x2
        match wire_Put n (((), v5, ()), ([], ())) with
        | some ((_, _), (l6, l7, _)) => (
          if (l4.length + l7.length) * 1 ≤ 140737488355328 then (
            let v8 : Int := IntKind.i64.wrap (x2 + 1)
            code_put_l2 n k (((), (), x1, v8, ()), ((), l3, l4 ++ l7, ()))) else none)
        | none => none) else none
    else
      some (.inl (((), ()), ((), l3, l4, ())))
def code_put : Nat → code_put_ins.T → Option (OutsT code_put_outs)
  | 0, _ => none
  | n + 1, ((_, _, _), (l1, l2, _)) =>
    match code_put_l2 n n (((), (), (l2.length : Int), 0, ()), ((), l2, l1, ())) with
    | some (.inl ((_, _), (_, l3, l4, _))) => (
      some (((), ()), ((), l3, l4, ())))
    | some (.inr (_)) => none
    | none => none
def code_put_H (n : Nat) : Hints := ⟨[], fun _ => [], fun k => match k with | 2 => some ⟨[0, 7, 8, 9], code_put_l2_h, code_put_l2_o, code_put_l2 n⟩ | _ => none, fun _ => none, fun _ => none, fun _ => 0⟩
def code_put_O (n : Nat) : FuncId → List FSpec := asc [(38, ⟨wire_Put_ins, wire_Put_outs, wire_Put n⟩)]
def b17 : Code := bodyOf Tryz.f17
theorem code_put_l2_k0 (n : Nat) : LoopOk P CC (code_put_O n) n 2 19 (code_put_H n) ⟨[0, 7, 8, 9], code_put_l2_h, code_put_l2_o, code_put_l2 n⟩ ((loopsOf b17).getD 0 .skip) := by
  refine ⟨fun _ => by kernel_rfl, ?_⟩
  rintro k ⟨⟨⟨⟩, ⟨⟩, x1, x2, ⟨⟩⟩, ⟨⟨⟩, x3, x4, ⟨⟩⟩⟩
  kernel_rfl
theorem code_put_ok {S : Nat → Addr} (ok : CfgOk P CC S) : ∀ n, SpecOk P CC S 17 ⟨code_put_ins, code_put_outs, code_put n⟩ :=
  fn_all ok (O := code_put_O) (H := code_put_H) (fn := Tryz.f17) (body := b17) (by kernel_rfl) (by kernel_rfl) (by kernel_rfl) (by decide) (by kernel_rfl)
    (fun x => by kernel_rfl) (fun n => by
      rintro ⟨⟨⟨⟩, ⟨⟩, ⟨⟩⟩, ⟨x1, x2, ⟨⟩⟩⟩
      kernel_rfl)
    (fun n => obl_of (by kernel_rfl) (by kernel_rfl) (ls (lz) (by kernel_rfl) (code_put_l2_k0 n)) (cn (cn (cn (cn (cn (cn (cn (cn (cz) (by kernel_rfl)) (by kernel_rfl)) (by kernel_rfl)) (by kernel_rfl)) (by kernel_rfl)) (by kernel_rfl)) (by kernel_rfl)) (by kernel_rfl)) (hn fun _ => rfl))
    (fun n ih => asc_cons (wire_Put_ok ok n) <| asc_nil)
/-! ### pendulum/code.Link$1 -/
abbrev code_Link_1_ins : Sh := ⟨[(.agg [(.val .str), (.val ty2), (.val ty2), (.val (.int .i64)), (.val ty6), (.val ty10), (.val ty12)]), (.one (.ptr 0 0))], [(.obj 9 [(.val .str)])]⟩
abbrev code_Link_1_outs : List Sh := [⟨[(.one (.val .bool))], [(.obj 9 [(.val .str)])]⟩]
def code_Link_1 : Nat → code_Link_1_ins.T → Option (OutsT code_Link_1_outs)
  | 0, _ => none
  | n + 1, (((x1, x2, x3, x4, x5, x6, x7, _), _, _), ((x8, _), _)) =>
    some ((strEq x1 x8, ()), ((x8, ()), ()))
def code_Link_1_H (n : Nat) : Hints := ⟨[], fun _ => [], fun _ => none, fun _ => none, fun _ => none, fun _ => 0⟩
def code_Link_1_O (n : Nat) : FuncId → List FSpec := asc []
def b20 : Code := bodyOf Tryz.f20
theorem code_Link_1_ok {S : Nat → Addr} (ok : CfgOk P CC S) : ∀ n, SpecOk P CC S 20 ⟨code_Link_1_ins, code_Link_1_outs, code_Link_1 n⟩ :=
  fn_all ok (O := code_Link_1_O) (H := code_Link_1_H) (fn := Tryz.f20) (body := b20) (by kernel_rfl) (by kernel_rfl) (by kernel_rfl) (by decide) (by kernel_rfl)
    (fun x => by kernel_rfl) (fun n => by
      rintro ⟨⟨⟨x1, x2, x3, x4, x5, x6, x7, ⟨⟩⟩, ⟨⟩, ⟨⟩⟩, ⟨⟨x8, ⟨⟩⟩, ⟨⟩⟩⟩
      kernel_rfl)
    (fun n => obl_of (by kernel_rfl) (by kernel_rfl) (lz) (cn (cn (cz) (by kernel_rfl)) (by kernel_rfl)) (hn fun _ => rfl))
    (fun n ih => asc_nil)
/-! ### slices.IndexFunc[[]pendulum/api.Object,pendulum/api.Object] -/
abbrev slices_IndexFunc_api_Object_api_Object_ins : Sh := ⟨[(.one (.val ty18)), (.one (.fn 20 [0]))], [(.obj 9 [(.val .str)])]⟩
abbrev slices_IndexFunc_api_Object_api_Object_outs : List Sh := [⟨[(.one (.val (.int .i64)))], [(.obj 9 [(.val .str)])]⟩]
abbrev slices_IndexFunc_api_Object_api_Object_l2_h : Sh := ⟨[(.one (.val ty18)), (.one (.fn 20 [0])), (.one (.val (.int .i64))), (.one (.val (.int .i64)))], [(.obj 9 [(.val .str)])]⟩
abbrev slices_IndexFunc_api_Object_api_Object_l2_o : List Out := [⟨(.exit 0), [], ⟨[], [(.obj 9 [(.val .str)])]⟩⟩, ⟨.ret, [4], ⟨[(.one (.val (.int .i64)))], [(.obj 9 [(.val .str)])]⟩⟩]
def slices_IndexFunc_api_Object_api_Object_l2 (n : Nat) : Nat → slices_IndexFunc_api_Object_api_Object_l2_h.T → Option (OutT slices_IndexFunc_api_Object_api_Object_l2_o)
  | 0, _ => none
  | k + 1, ((x1, _, x2, x3, _), ((x4, _), _)) =>
    if decide (x3 < x2) then
      if 0 ≤ x3 ∧ x3 < (x1.length : Int) then (
        match code_Link_1 n ((((rdT ty0 x1 x3).1, ((rdT ty0 x1 x3).2).1, (((rdT ty0 x1 x3).2).2).1, ((((rdT ty0 x1 x3).2).2).2).1, (((((rdT ty0 x1 x3).2).2).2).2).1, ((((((rdT ty0 x1 x3).2).2).2).2).2).1, ((((((rdT ty0 x1 x3).2).2).2).2).2).2, ()), (), ()), ((x4, ()), ())) with
        | some ((x5, _), ((x6, _), _)) => (
          if x5 then
            some (.inr (.inl ((x3, ()), ((x6, ()), ()))))
          else
            let v7 : Int := IntKind.i64.wrap (x3 + 1)
            slices_IndexFunc_api_Object_api_Object_l2 n k ((x1, (), x2, v7, ()), ((x6, ()), ())))
        | none => none) else none
    else
      some (.inl ((), ((x4, ()), ())))
def slices_IndexFunc_api_Object_api_Object : Nat → slices_IndexFunc_api_Object_api_Object_ins.T → Option (OutsT slices_IndexFunc_api_Object_api_Object_outs)
  | 0, _ => none
  | n + 1, ((x1, _, _), ((x2, _), _)) =>
    match slices_IndexFunc_api_Object_api_Object_l2 n n ((x1, (), (x1.length : Int), 0, ()), ((x2, ()), ())) with
    | some (.inl (_, ((x3, _), _))) => (
      some (((-1), ()), ((x3, ()), ())))
    | some (.inr (.inl ((x4, _), ((x5, _), _)))) => (
      some ((x4, ()), ((x5, ()), ())))
    | some (.inr (.inr (_))) => none
    | none => none
def slices_IndexFunc_api_Object_api_Object_H (n : Nat) : Hints := ⟨[], fun _ => [], fun k => match k with | 2 => some ⟨[0, 1, 7, 8], slices_IndexFunc_api_Object_api_Object_l2_h, slices_IndexFunc_api_Object_api_Object_l2_o, slices_IndexFunc_api_Object_api_Object_l2 n⟩ | _ => none, fun _ => none, fun _ => none, fun _ => 0⟩
def slices_IndexFunc_api_Object_api_Object_O (n : Nat) : FuncId → List FSpec := asc [(20, ⟨code_Link_1_ins, code_Link_1_outs, code_Link_1 n⟩)]
def b19 : Code := bodyOf Tryz.f19
theorem slices_IndexFunc_api_Object_api_Object_l2_k0 (n : Nat) : LoopOk P CC (slices_IndexFunc_api_Object_api_Object_O n) n 1 19 (slices_IndexFunc_api_Object_api_Object_H n) ⟨[0, 1, 7, 8], slices_IndexFunc_api_Object_api_Object_l2_h, slices_IndexFunc_api_Object_api_Object_l2_o, slices_IndexFunc_api_Object_api_Object_l2 n⟩ ((loopsOf b19).getD 0 .skip) := by
  refine ⟨fun _ => by kernel_rfl, ?_⟩
  rintro k ⟨⟨x1, ⟨⟩, x2, x3, ⟨⟩⟩, ⟨⟨x4, ⟨⟩⟩, ⟨⟩⟩⟩
  kernel_rfl
theorem slices_IndexFunc_api_Object_api_Object_ok {S : Nat → Addr} (ok : CfgOk P CC S) : ∀ n, SpecOk P CC S 19 ⟨slices_IndexFunc_api_Object_api_Object_ins, slices_IndexFunc_api_Object_api_Object_outs, slices_IndexFunc_api_Object_api_Object n⟩ :=
  fn_all ok (O := slices_IndexFunc_api_Object_api_Object_O) (H := slices_IndexFunc_api_Object_api_Object_H) (fn := Tryz.f19) (body := b19) (by kernel_rfl) (by kernel_rfl) (by kernel_rfl) (by decide) (by kernel_rfl)
    (fun x => by kernel_rfl) (fun n => by
      rintro ⟨⟨x1, ⟨⟩, ⟨⟩⟩, ⟨⟨x2, ⟨⟩⟩, ⟨⟩⟩⟩
      kernel_rfl)
    (fun n => obl_of (by kernel_rfl) (by kernel_rfl) (ls (lz) (by kernel_rfl) (slices_IndexFunc_api_Object_api_Object_l2_k0 n)) (cn (cn (cn (cn (cn (cn (cn (cn (cn (cn (cz) (by kernel_rfl)) (by kernel_rfl)) (by kernel_rfl)) (by kernel_rfl)) (by kernel_rfl)) (by kernel_rfl)) (by kernel_rfl)) (by kernel_rfl)) (by kernel_rfl)) (by kernel_rfl)) (hn fun _ => rfl))
    (fun n ih => asc_cons (code_Link_1_ok ok n) <| asc_nil)
/-! ### pendulum/code.fits$1 -/
abbrev code_fits_1_ins : Sh := ⟨[(.one (.val .str))], []⟩
abbrev code_fits_1_outs : List Sh := [⟨[(.one (.val .bool))], []⟩]
def code_fits_1 : Nat → code_fits_1_ins.T → Option (OutsT code_fits_1_outs)
  | 0, _ => none
  | n + 1, ((x1, _), _) =>
    some ((decide ((x1.size : Int) > 200), ()), ())
def code_fits_1_H (n : Nat) : Hints := ⟨[], fun _ => [], fun _ => none, fun _ => none, fun _ => none, fun _ => 0⟩
def code_fits_1_O (n : Nat) : FuncId → List FSpec := asc []
def b60 : Code := bodyOf Tryz.f60
theorem code_fits_1_ok {S : Nat → Addr} (ok : CfgOk P CC S) : ∀ n, SpecOk P CC S 60 ⟨code_fits_1_ins, code_fits_1_outs, code_fits_1 n⟩ :=
  fn_all ok (O := code_fits_1_O) (H := code_fits_1_H) (fn := Tryz.f60) (body := b60) (by kernel_rfl) (by kernel_rfl) (by kernel_rfl) (by decide) (by kernel_rfl)
    (fun x => by kernel_rfl) (fun n => by
      rintro ⟨⟨x1, ⟨⟩⟩, ⟨⟩⟩
      kernel_rfl)
    (fun n => obl_of (by kernel_rfl) (by kernel_rfl) (lz) (cn (cn (cz) (by kernel_rfl)) (by kernel_rfl)) (hn fun _ => rfl))
    (fun n ih => asc_nil)
/-! ### slices.IndexFunc[[]string,string] -/
abbrev slices_IndexFunc_string_string_ins : Sh := ⟨[(.one (.val ty17)), (.one (.fn 60 []))], []⟩
abbrev slices_IndexFunc_string_string_outs : List Sh := [⟨[(.one (.val (.int .i64)))], []⟩]
abbrev slices_IndexFunc_string_string_l2_h : Sh := ⟨[(.one (.val ty17)), (.one (.fn 60 [])), (.one (.val (.int .i64))), (.one (.val (.int .i64)))], []⟩
abbrev slices_IndexFunc_string_string_l2_o : List Out := [⟨(.exit 0), [], ⟨[], []⟩⟩, ⟨.ret, [4], ⟨[(.one (.val (.int .i64)))], []⟩⟩]
def slices_IndexFunc_string_string_l2 (n : Nat) : Nat → slices_IndexFunc_string_string_l2_h.T → Option (OutT slices_IndexFunc_string_string_l2_o)
  | 0, _ => none
  | k + 1, ((x1, _, x2, x3, _), _) =>
    if decide (x3 < x2) then
      if 0 ≤ x3 ∧ x3 < (x1.length : Int) then (
        match code_fits_1 n ((rdT (.str : Ty) x1 x3, ()), ()) with
        | some ((x4, _), _) => (
          if x4 then
            some (.inr (.inl ((x3, ()), ())))
          else
            let v5 : Int := IntKind.i64.wrap (x3 + 1)
            slices_IndexFunc_string_string_l2 n k ((x1, (), x2, v5, ()), ()))
        | none => none) else none
    else
      some (.inl ((), ()))
def slices_IndexFunc_string_string : Nat → slices_IndexFunc_string_string_ins.T → Option (OutsT slices_IndexFunc_string_string_outs)
  | 0, _ => none
  | n + 1, ((x1, _, _), _) =>
    match slices_IndexFunc_string_string_l2 n n ((x1, (), (x1.length : Int), 0, ()), ()) with
    | some (.inl (_, _)) => (
      some (((-1), ()), ()))
    | some (.inr (.inl ((x2, _), _))) => (
      some ((x2, ()), ()))
    | some (.inr (.inr (_))) => none
    | none => none
def slices_IndexFunc_string_string_H (n : Nat) : Hints := ⟨[], fun _ => [], fun k => match k with | 2 => some ⟨[0, 1, 7, 8], slices_IndexFunc_string_string_l2_h, slices_IndexFunc_string_string_l2_o, slices_IndexFunc_string_string_l2 n⟩ | _ => none, fun _ => none, fun _ => none, fun _ => 0⟩
def slices_IndexFunc_string_string_O (n : Nat) : FuncId → List FSpec := asc [(60, ⟨code_fits_1_ins, code_fits_1_outs, code_fits_1 n⟩)]
def b84 : Code := bodyOf Tryz.f84
theorem slices_IndexFunc_string_string_l2_k0 (n : Nat) : LoopOk P CC (slices_IndexFunc_string_string_O n) n 0 19 (slices_IndexFunc_string_string_H n) ⟨[0, 1, 7, 8], slices_IndexFunc_string_string_l2_h, slices_IndexFunc_string_string_l2_o, slices_IndexFunc_string_string_l2 n⟩ ((loopsOf b84).getD 0 .skip) := by
  refine ⟨fun _ => by kernel_rfl, ?_⟩
  rintro k ⟨⟨x1, ⟨⟩, x2, x3, ⟨⟩⟩, ⟨⟩⟩
  kernel_rfl
theorem slices_IndexFunc_string_string_ok {S : Nat → Addr} (ok : CfgOk P CC S) : ∀ n, SpecOk P CC S 84 ⟨slices_IndexFunc_string_string_ins, slices_IndexFunc_string_string_outs, slices_IndexFunc_string_string n⟩ :=
  fn_all ok (O := slices_IndexFunc_string_string_O) (H := slices_IndexFunc_string_string_H) (fn := Tryz.f84) (body := b84) (by kernel_rfl) (by kernel_rfl) (by kernel_rfl) (by decide) (by kernel_rfl)
    (fun x => by kernel_rfl) (fun n => by
      rintro ⟨⟨x1, ⟨⟩, ⟨⟩⟩, ⟨⟩⟩
      kernel_rfl)
    (fun n => obl_of (by kernel_rfl) (by kernel_rfl) (ls (lz) (by kernel_rfl) (slices_IndexFunc_string_string_l2_k0 n)) (cn (cn (cn (cn (cn (cn (cn (cn (cn (cn (cz) (by kernel_rfl)) (by kernel_rfl)) (by kernel_rfl)) (by kernel_rfl)) (by kernel_rfl)) (by kernel_rfl)) (by kernel_rfl)) (by kernel_rfl)) (by kernel_rfl)) (by kernel_rfl)) (hn fun _ => rfl))
    (fun n ih => asc_cons (code_fits_1_ok ok n) <| asc_nil)
/-! ### slices.ContainsFunc[[]string,string] -/
abbrev slices_ContainsFunc_string_string_ins : Sh := ⟨[(.one (.val ty17)), (.one (.fn 60 []))], []⟩
abbrev slices_ContainsFunc_string_string_outs : List Sh := [⟨[(.one (.val .bool))], []⟩]
def slices_ContainsFunc_string_string : Nat → slices_ContainsFunc_string_string_ins.T → Option (OutsT slices_ContainsFunc_string_string_outs)
  | 0, _ => none
  | n + 1, ((x1, _, _), _) =>
    match slices_IndexFunc_string_string n ((x1, (), ()), ()) with
    | some ((x2, _), _) => (
      some ((decide (x2 ≥ 0), ()), ()))
    | none => none
def slices_ContainsFunc_string_string_H (n : Nat) : Hints := ⟨[], fun _ => [], fun _ => none, fun _ => none, fun _ => none, fun _ => 0⟩
def slices_ContainsFunc_string_string_O (n : Nat) : FuncId → List FSpec := asc [(84, ⟨slices_IndexFunc_string_string_ins, slices_IndexFunc_string_string_outs, slices_IndexFunc_string_string n⟩)]
def b59 : Code := bodyOf Tryz.f59
theorem slices_ContainsFunc_string_string_ok {S : Nat → Addr} (ok : CfgOk P CC S) : ∀ n, SpecOk P CC S 59 ⟨slices_ContainsFunc_string_string_ins, slices_ContainsFunc_string_string_outs, slices_ContainsFunc_string_string n⟩ :=
  fn_all ok (O := slices_ContainsFunc_string_string_O) (H := slices_ContainsFunc_string_string_H) (fn := Tryz.f59) (body := b59) (by kernel_rfl) (by kernel_rfl) (by kernel_rfl) (by decide) (by kernel_rfl)
    (fun x => by kernel_rfl) (fun n => by
      rintro ⟨⟨x1, ⟨⟩, ⟨⟩⟩, ⟨⟩⟩
      kernel_rfl)
    (fun n => obl_of (by kernel_rfl) (by kernel_rfl) (lz) (cn (cn (cz) (by kernel_rfl)) (by kernel_rfl)) (hn fun _ => rfl))
    (fun n ih => asc_cons (slices_IndexFunc_string_string_ok ok n) <| asc_nil)
/-! ### slices.Grow[[]int,int] -/
abbrev slices_Grow_int_int_ins : Sh := ⟨[(.one (.emp true)), (.one (.val (.int .i64)))], []⟩
abbrev slices_Grow_int_int_outs : List Sh := [⟨[(.one (.arr 0))], [(.arr 3 (.int .i64))]⟩]
def slices_Grow_int_int : Nat → slices_Grow_int_int_ins.T → Option (OutsT slices_Grow_int_int_outs)
  | 0, _ => none
  | n + 1, ((_, x1, _), _) =>
    if decide (x1 < 0) then
      none
    else
      let v2 : Int := IntKind.i64.wrap (x1 - 0)
      if decide (v2 > 0) then
        if 0 ≤ (0 : Int) ∧ (0 : Int) ≤ (0 : Int) then (
          if 0 < v2 ∧ v2 * ((8 : Nat) : Int) ≤ 140737488355328 then (
            if 0 ≤ (0 : Int) ∧ (0 : Int) ≤ ((List.replicate (v2 : Int).toNat 0).length : Int) then (
              some (((), ()), (cutL (List.replicate (v2 : Int).toNat 0) 0 0, ()))) else none) else none) else none
      else
        some (((), ()), ([], ()))
def slices_Grow_int_int_H (n : Nat) : Hints := ⟨[25], fun _ => [], fun _ => none, fun _ => none, fun _ => none, fun _ => 0⟩
def slices_Grow_int_int_O (n : Nat) : FuncId → List FSpec := asc []
def b85 : Code := bodyOf Tryz.f85
theorem slices_Grow_int_int_ok {S : Nat → Addr} (ok : CfgOk P CC S) : ∀ n, SpecOk P CC S 85 ⟨slices_Grow_int_int_ins, slices_Grow_int_int_outs, slices_Grow_int_int n⟩ :=
  fn_all ok (O := slices_Grow_int_int_O) (H := slices_Grow_int_int_H) (fn := Tryz.f85) (body := b85) (by kernel_rfl) (by kernel_rfl) (by kernel_rfl) (by decide) (by kernel_rfl)
    (fun x => by kernel_rfl) (fun n => by
      rintro ⟨⟨⟨⟩, x1, ⟨⟩⟩, ⟨⟩⟩
      kernel_rfl)
    (fun n => obl_of (by kernel_rfl) (by kernel_rfl) (lz) (cn (cn (cn (cn (cn (cn (cn (cz) (by kernel_rfl)) (by kernel_rfl)) (by kernel_rfl)) (by kernel_rfl)) (by kernel_rfl)) (by kernel_rfl)) (by kernel_rfl)) (hn fun _ => rfl))
    (fun n ih => asc_nil)
/-! ### slices.Concat[[]int,int] -/
abbrev slices_Concat_int_int_ins : Sh := ⟨[(.one (.arr 0))], [(.arr 32 ty2)]⟩
abbrev slices_Concat_int_int_outs : List Sh := [⟨[(.one (.arr 1))], [(.arr 32 ty2), (.arr 3 (.int .i64))]⟩]
abbrev slices_Concat_int_int_l3_h : Sh := ⟨[(.one (.arr 0)), (.one (.val (.int .i64))), (.one (.arr 0)), (.one (.val (.int .i64))), (.one (.val (.int .i64)))], [(.arr 32 ty2)]⟩
abbrev slices_Concat_int_int_l3_o : List Out := [⟨(.exit 0), [0, 3], ⟨[(.one (.arr 0)), (.one (.val (.int .i64)))], [(.arr 32 ty2)]⟩⟩]
def slices_Concat_int_int_l3 (n : Nat) : Nat → slices_Concat_int_int_l3_h.T → Option (OutT slices_Concat_int_int_l3_o)
  | 0, _ => none
  | k + 1, ((_, x1, _, x2, x3, _), (l4, _)) =>
    if decide (x3 < x2) then
      if 0 ≤ x3 ∧ x3 < (l4.length : Int) then (
        let v5 : Int := IntKind.i64.wrap (x1 + ((rdT ty2 l4 x3).length : Int))
        if decide (v5 < 0) then
          none
        else
          let v6 : Int := IntKind.i64.wrap (x3 + 1)
          slices_Concat_int_int_l3 n k (((), v5, (), x2, v6, ()), (l4, ()))) else none
    else
      some (.inl (((), x1, ()), (l4, ())))
abbrev slices_Concat_int_int_l11_h : Sh := ⟨[(.one (.arr 1)), (.one (.arr 0)), (.one (.val (.int .i64))), (.one (.val (.int .i64)))], [(.arr 32 ty2), (.arr 3 (.int .i64))]⟩
abbrev slices_Concat_int_int_l11_o : List Out := [⟨(.exit 2), [6], ⟨[(.one (.arr 1))], [(.arr 32 ty2), (.arr 3 (.int .i64))]⟩⟩]
def slices_Concat_int_int_l11 (n : Nat) : Nat → slices_Concat_int_int_l11_h.T → Option (OutT slices_Concat_int_int_l11_o)
  | 0, _ => none
  | k + 1, ((_, _, x1, x2, _), (l3, l4, _)) =>
    if decide (x2 < x1) then
      if 0 ≤ x2 ∧ x2 < (l3.length : Int) then (
        if (l4.length + (rdT ty2 l3 x2).length) * 8 ≤ 140737488355328 then (
          let v5 : Int := IntKind.i64.wrap (x2 + 1)
          slices_Concat_int_int_l11 n k (((), (), x1, v5, ()), (l3, l4 ++ (rdT ty2 l3 x2), ()))) else none) else none
    else
      some (.inl (((), ()), (l3, l4, ())))
def slices_Concat_int_int : Nat → slices_Concat_int_int_ins.T → Option (OutsT slices_Concat_int_int_outs)
  | 0, _ => none
  | n + 1, ((_, _), (l1, _)) =>
    match slices_Concat_int_int_l3 n n (((), 0, (), (l1.length : Int), 0, ()), (l1, ())) with
    | some (.inl ((_, x2, _), (l3, _))) => (
      match slices_Grow_int_int n (((), x2, ()), ()) with
      | some ((_, _), (l4, _)) => (
        match slices_Concat_int_int_l11 n n (((), (), (l3.length : Int), 0, ()), (l3, l4, ())) with
        | some (.inl ((_, _), (l5, l6, _))) => (
          some (((), ()), (l5, l6, ())))
        | some (.inr (_)) => none
        | none => none)
      | none => none)
    | some (.inr (_)) => none
    | none => none
def slices_Concat_int_int_H (n : Nat) : Hints := ⟨[], fun _ => [], fun k => match k with | 3 => some ⟨[0, 3, 9, 10, 11], slices_Concat_int_int_l3_h, slices_Concat_int_int_l3_o, slices_Concat_int_int_l3 n⟩ | 11 => some ⟨[6, 25, 26, 27], slices_Concat_int_int_l11_h, slices_Concat_int_int_l11_o, slices_Concat_int_int_l11 n⟩ | _ => none, fun _ => none, fun _ => none, fun _ => 0⟩
def slices_Concat_int_int_O (n : Nat) : FuncId → List FSpec := asc [(85, ⟨slices_Grow_int_int_ins, slices_Grow_int_int_outs, slices_Grow_int_int n⟩)]
def b61 : Code := bodyOf Tryz.f61
theorem slices_Concat_int_int_l3_k0 (n : Nat) : LoopOk P CC (slices_Concat_int_int_O n) n 1 36 (slices_Concat_int_int_H n) ⟨[0, 3, 9, 10, 11], slices_Concat_int_int_l3_h, slices_Concat_int_int_l3_o, slices_Concat_int_int_l3 n⟩ ((loopsOf b61).getD 0 .skip) := by
  refine ⟨fun _ => by kernel_rfl, ?_⟩
  rintro k ⟨⟨⟨⟩, x1, ⟨⟩, x2, x3, ⟨⟩⟩, ⟨x4, ⟨⟩⟩⟩
  kernel_rfl
theorem slices_Concat_int_int_l11_k1 (n : Nat) : LoopOk P CC (slices_Concat_int_int_O n) n 1 36 (slices_Concat_int_int_H n) ⟨[6, 25, 26, 27], slices_Concat_int_int_l11_h, slices_Concat_int_int_l11_o, slices_Concat_int_int_l11 n⟩ ((loopsOf b61).getD 1 .skip) := by
  refine ⟨fun _ => by kernel_rfl, ?_⟩
  rintro k ⟨⟨⟨⟩, ⟨⟩, x1, x2, ⟨⟩⟩, ⟨x3, x4, ⟨⟩⟩⟩
  kernel_rfl
theorem slices_Concat_int_int_ok {S : Nat → Addr} (ok : CfgOk P CC S) : ∀ n, SpecOk P CC S 61 ⟨slices_Concat_int_int_ins, slices_Concat_int_int_outs, slices_Concat_int_int n⟩ :=
  fn_all ok (O := slices_Concat_int_int_O) (H := slices_Concat_int_int_H) (fn := Tryz.f61) (body := b61) (by kernel_rfl) (by kernel_rfl) (by kernel_rfl) (by decide) (by kernel_rfl)
    (fun x => by kernel_rfl) (fun n => by
      rintro ⟨⟨⟨⟩, ⟨⟩⟩, ⟨x1, ⟨⟩⟩⟩
      kernel_rfl)
    (fun n => obl_of (by kernel_rfl) (by kernel_rfl) (ls (ls (lz) (by kernel_rfl) (slices_Concat_int_int_l3_k0 n)) (by kernel_rfl) (slices_Concat_int_int_l11_k1 n)) (cn (cn (cn (cn (cn (cn (cn (cn (cn (cn (cn (cn (cn (cn (cn (cn (cn (cn (cz) (by kernel_rfl)) (by kernel_rfl)) (by kernel_rfl)) (by kernel_rfl)) (by kernel_rfl)) (by kernel_rfl)) (by kernel_rfl)) (by kernel_rfl)) (by kernel_rfl)) (by kernel_rfl)) (by kernel_rfl)) (by kernel_rfl)) (by kernel_rfl)) (by kernel_rfl)) (by kernel_rfl)) (by kernel_rfl)) (by kernel_rfl)) (by kernel_rfl)) (hn fun _ => rfl))
    (fun n ih => asc_cons (slices_Grow_int_int_ok ok n) <| asc_nil)
/-! ### pendulum/code.fits$2 -/
abbrev code_fits_2_ins : Sh := ⟨[(.one (.val (.int .i64)))], []⟩
abbrev code_fits_2_outs : List Sh := [⟨[(.one (.val .bool))], []⟩]
def code_fits_2 : Nat → code_fits_2_ins.T → Option (OutsT code_fits_2_outs)
  | 0, _ => none
  | n + 1, ((x1, _), _) =>
    if x1 != 1 then
      some ((x1 != 2, ()), ())
    else
      some ((false, ()), ())
def code_fits_2_H (n : Nat) : Hints := ⟨[], fun _ => [], fun _ => none, fun _ => none, fun _ => none, fun _ => 0⟩
def code_fits_2_O (n : Nat) : FuncId → List FSpec := asc []
def b63 : Code := bodyOf Tryz.f63
theorem code_fits_2_ok {S : Nat → Addr} (ok : CfgOk P CC S) : ∀ n, SpecOk P CC S 63 ⟨code_fits_2_ins, code_fits_2_outs, code_fits_2 n⟩ :=
  fn_all ok (O := code_fits_2_O) (H := code_fits_2_H) (fn := Tryz.f63) (body := b63) (by kernel_rfl) (by kernel_rfl) (by kernel_rfl) (by decide) (by kernel_rfl)
    (fun x => by kernel_rfl) (fun n => by
      rintro ⟨⟨x1, ⟨⟩⟩, ⟨⟩⟩
      kernel_rfl)
    (fun n => obl_of (by kernel_rfl) (by kernel_rfl) (lz) (cn (cn (cz) (by kernel_rfl)) (by kernel_rfl)) (hn fun _ => rfl))
    (fun n ih => asc_nil)
/-! ### slices.IndexFunc[[]int,int] -/
abbrev slices_IndexFunc_int_int_ins : Sh := ⟨[(.one (.val ty2)), (.one (.fn 63 []))], []⟩
abbrev slices_IndexFunc_int_int_outs : List Sh := [⟨[(.one (.val (.int .i64)))], []⟩]
abbrev slices_IndexFunc_int_int_l2_h : Sh := ⟨[(.one (.val ty2)), (.one (.fn 63 [])), (.one (.val (.int .i64))), (.one (.val (.int .i64)))], []⟩
abbrev slices_IndexFunc_int_int_l2_o : List Out := [⟨(.exit 0), [], ⟨[], []⟩⟩, ⟨.ret, [4], ⟨[(.one (.val (.int .i64)))], []⟩⟩]
def slices_IndexFunc_int_int_l2 (n : Nat) : Nat → slices_IndexFunc_int_int_l2_h.T → Option (OutT slices_IndexFunc_int_int_l2_o)
  | 0, _ => none
  | k + 1, ((x1, _, x2, x3, _), _) =>
    if decide (x3 < x2) then
      if 0 ≤ x3 ∧ x3 < (x1.length : Int) then (
        let v4 : Int := rdT ((.int .i64) : Ty) x1 x3
        match code_fits_2 n ((v4, ()), ()) with
        | some ((x5, _), _) => (
          if x5 then
            some (.inr (.inl ((x3, ()), ())))
          else
            let v6 : Int := IntKind.i64.wrap (x3 + 1)
            slices_IndexFunc_int_int_l2 n k ((x1, (), x2, v6, ()), ()))
        | none => none) else none
    else
      some (.inl ((), ()))
def slices_IndexFunc_int_int : Nat → slices_IndexFunc_int_int_ins.T → Option (OutsT slices_IndexFunc_int_int_outs)
  | 0, _ => none
  | n + 1, ((x1, _, _), _) =>
    match slices_IndexFunc_int_int_l2 n n ((x1, (), (x1.length : Int), 0, ()), ()) with
    | some (.inl (_, _)) => (
      some (((-1), ()), ()))
    | some (.inr (.inl ((x2, _), _))) => (
      some ((x2, ()), ()))
    | some (.inr (.inr (_))) => none
    | none => none
def slices_IndexFunc_int_int_H (n : Nat) : Hints := ⟨[], fun _ => [], fun k => match k with | 2 => some ⟨[0, 1, 7, 8], slices_IndexFunc_int_int_l2_h, slices_IndexFunc_int_int_l2_o, slices_IndexFunc_int_int_l2 n⟩ | _ => none, fun _ => none, fun _ => none, fun _ => 0⟩
def slices_IndexFunc_int_int_O (n : Nat) : FuncId → List FSpec := asc [(63, ⟨code_fits_2_ins, code_fits_2_outs, code_fits_2 n⟩)]
def b86 : Code := bodyOf Tryz.f86
theorem slices_IndexFunc_int_int_l2_k0 (n : Nat) : LoopOk P CC (slices_IndexFunc_int_int_O n) n 0 19 (slices_IndexFunc_int_int_H n) ⟨[0, 1, 7, 8], slices_IndexFunc_int_int_l2_h, slices_IndexFunc_int_int_l2_o, slices_IndexFunc_int_int_l2 n⟩ ((loopsOf b86).getD 0 .skip) := by
  refine ⟨fun _ => by kernel_rfl, ?_⟩
  rintro k ⟨⟨x1, ⟨⟩, x2, x3, ⟨⟩⟩, ⟨⟩⟩
  kernel_rfl
theorem slices_IndexFunc_int_int_ok {S : Nat → Addr} (ok : CfgOk P CC S) : ∀ n, SpecOk P CC S 86 ⟨slices_IndexFunc_int_int_ins, slices_IndexFunc_int_int_outs, slices_IndexFunc_int_int n⟩ :=
  fn_all ok (O := slices_IndexFunc_int_int_O) (H := slices_IndexFunc_int_int_H) (fn := Tryz.f86) (body := b86) (by kernel_rfl) (by kernel_rfl) (by kernel_rfl) (by decide) (by kernel_rfl)
    (fun x => by kernel_rfl) (fun n => by
      rintro ⟨⟨x1, ⟨⟩, ⟨⟩⟩, ⟨⟩⟩
      kernel_rfl)
    (fun n => obl_of (by kernel_rfl) (by kernel_rfl) (ls (lz) (by kernel_rfl) (slices_IndexFunc_int_int_l2_k0 n)) (cn (cn (cn (cn (cn (cn (cn (cn (cn (cn (cz) (by kernel_rfl)) (by kernel_rfl)) (by kernel_rfl)) (by kernel_rfl)) (by kernel_rfl)) (by kernel_rfl)) (by kernel_rfl)) (by kernel_rfl)) (by kernel_rfl)) (by kernel_rfl)) (hn fun _ => rfl))
    (fun n ih => asc_cons (code_fits_2_ok ok n) <| asc_nil)
/-! ### slices.ContainsFunc[[]int,int] -/
abbrev slices_ContainsFunc_int_int_ins : Sh := ⟨[(.one (.val ty2)), (.one (.fn 63 []))], []⟩
abbrev slices_ContainsFunc_int_int_outs : List Sh := [⟨[(.one (.val .bool))], []⟩]
def slices_ContainsFunc_int_int : Nat → slices_ContainsFunc_int_int_ins.T → Option (OutsT slices_ContainsFunc_int_int_outs)
  | 0, _ => none
  | n + 1, ((x1, _, _), _) =>
    match slices_IndexFunc_int_int n ((x1, (), ()), ()) with
    | some ((x2, _), _) => (
      some ((decide (x2 ≥ 0), ()), ()))
    | none => none
def slices_ContainsFunc_int_int_H (n : Nat) : Hints := ⟨[], fun _ => [], fun _ => none, fun _ => none, fun _ => none, fun _ => 0⟩
def slices_ContainsFunc_int_int_O (n : Nat) : FuncId → List FSpec := asc [(86, ⟨slices_IndexFunc_int_int_ins, slices_IndexFunc_int_int_outs, slices_IndexFunc_int_int n⟩)]
def b62 : Code := bodyOf Tryz.f62
theorem slices_ContainsFunc_int_int_ok {S : Nat → Addr} (ok : CfgOk P CC S) : ∀ n, SpecOk P CC S 62 ⟨slices_ContainsFunc_int_int_ins, slices_ContainsFunc_int_int_outs, slices_ContainsFunc_int_int n⟩ :=
  fn_all ok (O := slices_ContainsFunc_int_int_O) (H := slices_ContainsFunc_int_int_H) (fn := Tryz.f62) (body := b62) (by kernel_rfl) (by kernel_rfl) (by kernel_rfl) (by decide) (by kernel_rfl)
    (fun x => by kernel_rfl) (fun n => by
      rintro ⟨⟨x1, ⟨⟩, ⟨⟩⟩, ⟨⟩⟩
      kernel_rfl)
    (fun n => obl_of (by kernel_rfl) (by kernel_rfl) (lz) (cn (cn (cz) (by kernel_rfl)) (by kernel_rfl)) (hn fun _ => rfl))
    (fun n ih => asc_cons (slices_IndexFunc_int_int_ok ok n) <| asc_nil)
/-! ### pendulum/code.fits$3 -/
abbrev code_fits_3_ins : Sh := ⟨[(.one (.val (.int .i64)))], []⟩
abbrev code_fits_3_outs : List Sh := [⟨[(.one (.val .bool))], []⟩]
def code_fits_3 : Nat → code_fits_3_ins.T → Option (OutsT code_fits_3_outs)
  | 0, _ => none
  | n + 1, ((x1, _), _) =>
    if decide (x1 < (-1)) then
      some ((true, ()), ())
    else
      some ((decide (x1 > 1048576), ()), ())
def code_fits_3_H (n : Nat) : Hints := ⟨[], fun _ => [], fun _ => none, fun _ => none, fun _ => none, fun _ => 0⟩
def code_fits_3_O (n : Nat) : FuncId → List FSpec := asc []
def b64 : Code := bodyOf Tryz.f64
theorem code_fits_3_ok {S : Nat → Addr} (ok : CfgOk P CC S) : ∀ n, SpecOk P CC S 64 ⟨code_fits_3_ins, code_fits_3_outs, code_fits_3 n⟩ :=
  fn_all ok (O := code_fits_3_O) (H := code_fits_3_H) (fn := Tryz.f64) (body := b64) (by kernel_rfl) (by kernel_rfl) (by kernel_rfl) (by decide) (by kernel_rfl)
    (fun x => by kernel_rfl) (fun n => by
      rintro ⟨⟨x1, ⟨⟩⟩, ⟨⟩⟩
      kernel_rfl)
    (fun n => obl_of (by kernel_rfl) (by kernel_rfl) (lz) (cn (cn (cz) (by kernel_rfl)) (by kernel_rfl)) (hn fun _ => rfl))
    (fun n ih => asc_nil)
/-! ### slices.IndexFunc[[]int,int] -/
abbrev slices_IndexFunc_int_int_2_ins : Sh := ⟨[(.one (.val ty2)), (.one (.fn 64 []))], []⟩
abbrev slices_IndexFunc_int_int_2_outs : List Sh := [⟨[(.one (.val (.int .i64)))], []⟩]
abbrev slices_IndexFunc_int_int_2_l2_h : Sh := ⟨[(.one (.val ty2)), (.one (.fn 64 [])), (.one (.val (.int .i64))), (.one (.val (.int .i64)))], []⟩
abbrev slices_IndexFunc_int_int_2_l2_o : List Out := [⟨(.exit 0), [], ⟨[], []⟩⟩, ⟨.ret, [4], ⟨[(.one (.val (.int .i64)))], []⟩⟩]
def slices_IndexFunc_int_int_2_l2 (n : Nat) : Nat → slices_IndexFunc_int_int_2_l2_h.T → Option (OutT slices_IndexFunc_int_int_2_l2_o)
  | 0, _ => none
  | k + 1, ((x1, _, x2, x3, _), _) =>
    if decide (x3 < x2) then
      if 0 ≤ x3 ∧ x3 < (x1.length : Int) then (
        let v4 : Int := rdT ((.int .i64) : Ty) x1 x3
        match code_fits_3 n ((v4, ()), ()) with
        | some ((x5, _), _) => (
          if x5 then
            some (.inr (.inl ((x3, ()), ())))
          else
            let v6 : Int := IntKind.i64.wrap (x3 + 1)
            slices_IndexFunc_int_int_2_l2 n k ((x1, (), x2, v6, ()), ()))
        | none => none) else none
    else
      some (.inl ((), ()))
def slices_IndexFunc_int_int_2 : Nat → slices_IndexFunc_int_int_2_ins.T → Option (OutsT slices_IndexFunc_int_int_2_outs)
  | 0, _ => none
  | n + 1, ((x1, _, _), _) =>
    match slices_IndexFunc_int_int_2_l2 n n ((x1, (), (x1.length : Int), 0, ()), ()) with
    | some (.inl (_, _)) => (
      some (((-1), ()), ()))
    | some (.inr (.inl ((x2, _), _))) => (
      some ((x2, ()), ()))
    | some (.inr (.inr (_))) => none
    | none => none
def slices_IndexFunc_int_int_2_H (n : Nat) : Hints := ⟨[], fun _ => [], fun k => match k with | 2 => some ⟨[0, 1, 7, 8], slices_IndexFunc_int_int_2_l2_h, slices_IndexFunc_int_int_2_l2_o, slices_IndexFunc_int_int_2_l2 n⟩ | _ => none, fun _ => none, fun _ => none, fun _ => 0⟩
def slices_IndexFunc_int_int_2_O (n : Nat) : FuncId → List FSpec := asc [(64, ⟨code_fits_3_ins, code_fits_3_outs, code_fits_3 n⟩)]
theorem slices_IndexFunc_int_int_2_l2_k0 (n : Nat) : LoopOk P CC (slices_IndexFunc_int_int_2_O n) n 0 19 (slices_IndexFunc_int_int_2_H n) ⟨[0, 1, 7, 8], slices_IndexFunc_int_int_2_l2_h, slices_IndexFunc_int_int_2_l2_o, slices_IndexFunc_int_int_2_l2 n⟩ ((loopsOf b86).getD 0 .skip) := by
  refine ⟨fun _ => by kernel_rfl, ?_⟩
  rintro k ⟨⟨x1, ⟨⟩, x2, x3, ⟨⟩⟩, ⟨⟩⟩
  kernel_rfl
theorem slices_IndexFunc_int_int_2_ok {S : Nat → Addr} (ok : CfgOk P CC S) : ∀ n, SpecOk P CC S 86 ⟨slices_IndexFunc_int_int_2_ins, slices_IndexFunc_int_int_2_outs, slices_IndexFunc_int_int_2 n⟩ :=
  fn_all ok (O := slices_IndexFunc_int_int_2_O) (H := slices_IndexFunc_int_int_2_H) (fn := Tryz.f86) (body := b86) (by kernel_rfl) (by kernel_rfl) (by kernel_rfl) (by decide) (by kernel_rfl)
    (fun x => by kernel_rfl) (fun n => by
      rintro ⟨⟨x1, ⟨⟩, ⟨⟩⟩, ⟨⟩⟩
      kernel_rfl)
    (fun n => obl_of (by kernel_rfl) (by kernel_rfl) (ls (lz) (by kernel_rfl) (slices_IndexFunc_int_int_2_l2_k0 n)) (cn (cn (cn (cn (cn (cn (cn (cn (cn (cn (cz) (by kernel_rfl)) (by kernel_rfl)) (by kernel_rfl)) (by kernel_rfl)) (by kernel_rfl)) (by kernel_rfl)) (by kernel_rfl)) (by kernel_rfl)) (by kernel_rfl)) (by kernel_rfl)) (hn fun _ => rfl))
    (fun n ih => asc_cons (code_fits_3_ok ok n) <| asc_nil)
/-! ### slices.ContainsFunc[[]int,int] -/
abbrev slices_ContainsFunc_int_int_2_ins : Sh := ⟨[(.one (.val ty2)), (.one (.fn 64 []))], []⟩
abbrev slices_ContainsFunc_int_int_2_outs : List Sh := [⟨[(.one (.val .bool))], []⟩]
def slices_ContainsFunc_int_int_2 : Nat → slices_ContainsFunc_int_int_2_ins.T → Option (OutsT slices_ContainsFunc_int_int_2_outs)
  | 0, _ => none
  | n + 1, ((x1, _, _), _) =>
    match slices_IndexFunc_int_int_2 n ((x1, (), ()), ()) with
    | some ((x2, _), _) => (
      some ((decide (x2 ≥ 0), ()), ()))
    | none => none
def slices_ContainsFunc_int_int_2_H (n : Nat) : Hints := ⟨[], fun _ => [], fun _ => none, fun _ => none, fun _ => none, fun _ => 0⟩
def slices_ContainsFunc_int_int_2_O (n : Nat) : FuncId → List FSpec := asc [(86, ⟨slices_IndexFunc_int_int_2_ins, slices_IndexFunc_int_int_2_outs, slices_IndexFunc_int_int_2 n⟩)]
theorem slices_ContainsFunc_int_int_2_ok {S : Nat → Addr} (ok : CfgOk P CC S) : ∀ n, SpecOk P CC S 62 ⟨slices_ContainsFunc_int_int_2_ins, slices_ContainsFunc_int_int_2_outs, slices_ContainsFunc_int_int_2 n⟩ :=
  fn_all ok (O := slices_ContainsFunc_int_int_2_O) (H := slices_ContainsFunc_int_int_2_H) (fn := Tryz.f62) (body := b62) (by kernel_rfl) (by kernel_rfl) (by kernel_rfl) (by decide) (by kernel_rfl)
    (fun x => by kernel_rfl) (fun n => by
      rintro ⟨⟨x1, ⟨⟩, ⟨⟩⟩, ⟨⟩⟩
      kernel_rfl)
    (fun n => obl_of (by kernel_rfl) (by kernel_rfl) (lz) (cn (cn (cz) (by kernel_rfl)) (by kernel_rfl)) (hn fun _ => rfl))
    (fun n ih => asc_cons (slices_IndexFunc_int_int_2_ok ok n) <| asc_nil)
/-! ### pendulum/code.fits -/
abbrev code_fits_ins : Sh := ⟨[(.agg [(.val .str), (.val ty2), (.val ty2), (.val (.int .i64)), (.val ty6), (.val ty10), (.val ty12)])], []⟩
abbrev code_fits_outs : List Sh := [⟨[(.one (.val .err))], []⟩]
abbrev code_fits_l3_h : Sh := ⟨[(.one (.ptr 0 0)), (.one (.arr 1)), (.one (.val ty6)), (.one (.val (.int .i64))), (.one (.val (.int .i64)))], [(.obj 37 [(.val .str), (.val ty2), (.val ty2), (.val (.int .i64)), (.val ty6), (.val ty10), (.val ty12)]), (.arr 9 .str)]⟩
abbrev code_fits_l3_o : List Out := [⟨(.exit 0), [1, 3], ⟨[(.one (.ptr 0 0)), (.one (.arr 1))], [(.obj 37 [(.val .str), (.val ty2), (.val ty2), (.val (.int .i64)), (.val ty6), (.val ty10), (.val ty12)]), (.arr 9 .str)]⟩⟩]
def code_fits_l3 (n : Nat) : Nat → code_fits_l3_h.T → Option (OutT code_fits_l3_o)
  | 0, _ => none
  | k + 1, ((_, _, x1, x2, x3, _), ((x4, x5, x6, x7, x8, x9, x10, _), l11, _)) =>
    if decide (x3 < x2) then
      if 0 ≤ x3 ∧ x3 < (x1.length : Int) then (
        if (l11.length + ([(rdT ty7 x1 x3).1] : List (.str : Ty).T).length) * 16 ≤ 140737488355328 then (
          let v12 : Int := IntKind.i64.wrap (x3 + 1)
          code_fits_l3 n k (((), (), x1, x2, v12, ()), ((x4, x5, x6, x7, x8, x9, x10, ()), l11 ++ [(rdT ty7 x1 x3).1], ()))) else none) else none
    else
      some (.inl (((), (), ()), ((x4, x5, x6, x7, x8, x9, x10, ()), l11, ())))
abbrev code_fits_l8_h : Sh := ⟨[(.one (.ptr 0 0)), (.one (.arr 1)), (.one (.val ty10)), (.one (.val (.int .i64))), (.one (.val (.int .i64)))], [(.obj 37 [(.val .str), (.val ty2), (.val ty2), (.val (.int .i64)), (.val ty6), (.val ty10), (.val ty12)]), (.arr 9 .str)]⟩
abbrev code_fits_l8_o : List Out := [⟨(.exit 2), [1, 3], ⟨[(.one (.ptr 0 0)), (.one (.arr 1))], [(.obj 37 [(.val .str), (.val ty2), (.val ty2), (.val (.int .i64)), (.val ty6), (.val ty10), (.val ty12)]), (.arr 9 .str)]⟩⟩]
def code_fits_l8 (n : Nat) : Nat → code_fits_l8_h.T → Option (OutT code_fits_l8_o)
  | 0, _ => none
  | k + 1, ((_, _, x1, x2, x3, _), ((x4, x5, x6, x7, x8, x9, x10, _), l11, _)) =>
    if decide (x3 < x2) then
      if 0 ≤ x3 ∧ x3 < (x1.length : Int) then (
        if (l11.length + ([(rdT ty11 x1 x3).1, (rdT ty11 x1 x3).2] : List (.str : Ty).T).length) * 16 ≤ 140737488355328 then (
          let v12 : Int := IntKind.i64.wrap (x3 + 1)
          code_fits_l8 n k (((), (), x1, x2, v12, ()), ((x4, x5, x6, x7, x8, x9, x10, ()), l11 ++ [(rdT ty11 x1 x3).1, (rdT ty11 x1 x3).2], ()))) else none) else none
    else
      some (.inl (((), (), ()), ((x4, x5, x6, x7, x8, x9, x10, ()), l11, ())))
abbrev code_fits_l18_h : Sh := ⟨[(.one (.ptr 0 0)), (.one (.arr 1)), (.one (.val ty6)), (.one (.val (.int .i64))), (.one (.val (.int .i64)))], [(.obj 37 [(.val .str), (.val ty2), (.val ty2), (.val (.int .i64)), (.val ty6), (.val ty10), (.val ty12)]), (.arr 3 (.int .i64))]⟩
abbrev code_fits_l18_o : List Out := [⟨(.exit 4), [1, 8], ⟨[(.one (.ptr 0 0)), (.one (.arr 1))], [(.obj 37 [(.val .str), (.val ty2), (.val ty2), (.val (.int .i64)), (.val ty6), (.val ty10), (.val ty12)]), (.arr 3 (.int .i64))]⟩⟩]
def code_fits_l18 (n : Nat) : Nat → code_fits_l18_h.T → Option (OutT code_fits_l18_o)
  | 0, _ => none
  | k + 1, ((_, _, x1, x2, x3, _), ((x4, x5, x6, x7, x8, x9, x10, _), l11, _)) =>
    if decide (x3 < x2) then
      if 0 ≤ x3 ∧ x3 < (x1.length : Int) then (
        if (l11.length + ([((rdT ty7 x1 x3).2).1] : List ((.int .i64) : Ty).T).length) * 8 ≤ 140737488355328 then (
          let v12 : Int := IntKind.i64.wrap (x3 + 1)
          code_fits_l18 n k (((), (), x1, x2, v12, ()), ((x4, x5, x6, x7, x8, x9, x10, ()), l11 ++ [((rdT ty7 x1 x3).2).1], ()))) else none) else none
    else
      some (.inl (((), (), ()), ((x4, x5, x6, x7, x8, x9, x10, ()), l11, ())))
abbrev code_fits_l25_h : Sh := ⟨[(.one (.val ty12)), (.one (.val (.int .i64))), (.one (.val (.int .i64)))], []⟩
abbrev code_fits_l25_o : List Out := [⟨(.exit 6), [], ⟨[], []⟩⟩, ⟨.ret, [2], ⟨[(.one (.val .err))], []⟩⟩]
def code_fits_l25 (n : Nat) : Nat → code_fits_l25_h.T → Option (OutT code_fits_l25_o)
  | 0, _ => none
  | k + 1, ((x1, x2, x3, _), _) =>
    if decide (x3 < x2) then
      if 0 ≤ x3 ∧ x3 < (x1.length : Int) then (
        if decide ((rdT ty13 x1 x3).1 < 1) then
          some (.inr (.inl ((ErrV.sent 104, ()), ())))
        else
          if decide ((rdT ty13 x1 x3).1 > 12) then
            some (.inr (.inl ((ErrV.sent 104, ()), ())))
          else
            match slices_ContainsFunc_int_int_2 n (([((rdT ty13 x1 x3).2).1, (((rdT ty13 x1 x3).2).2).1, ((((rdT ty13 x1 x3).2).2).2).1, (((((rdT ty13 x1 x3).2).2).2).2).1], (), ()), ()) with
            | some ((x4, _), _) => (
              if x4 then
                some (.inr (.inl ((ErrV.sent 104, ()), ())))
              else
                let v5 : Int := IntKind.i64.wrap (x3 + 1)
                code_fits_l25 n k ((x1, x2, v5, ()), ()))
            | none => none) else none
    else
      some (.inl ((), ()))
def code_fits : Nat → code_fits_ins.T → Option (OutsT code_fits_outs)
  | 0, _ => none
  | n + 1, (((x1, x2, x3, x4, x5, x6, x7, _), _), _) =>
    match code_fits_l3 n n (((), (), x5, (x5.length : Int), 0, ()), ((x1, x2, x3, x4, x5, x6, x7, ()), [x1], ())) with
    | some (.inl ((_, _, _), ((x8, x9, x10, x11, x12, x13, x14, _), l15, _))) => (
      match code_fits_l8 n n (((), (), x13, (x13.length : Int), 0, ()), ((x8, x9, x10, x11, x12, x13, x14, ()), l15, ())) with
      | some (.inl ((_, _, _), ((x16, x17, x18, x19, x20, x21, x22, _), l23, _))) => (
        match slices_ContainsFunc_string_string n ((l23, (), ()), ()) with
        | some ((x24, _), _) => (
          if x24 then
            some ((ErrV.sent 109, ()), ())
          else
            if decide ((x17.length : Int) > 64) then
              some ((ErrV.sent 103, ()), ())
            else
              if decide ((x18.length : Int) > 64) then
                some ((ErrV.sent 103, ()), ())
              else
                if decide ((x20.length : Int) > 1024) then
                  some ((ErrV.sent 103, ()), ())
                else
                  if decide ((x21.length : Int) > 256) then
                    some ((ErrV.sent 103, ()), ())
                  else
                    if decide ((x22.length : Int) > 4096) then
                      some ((ErrV.sent 103, ()), ())
                    else
                      match slices_Concat_int_int n (((), ()), ([x17, x18], ())) with
                      | some ((_, _), (l25, l26, _)) => (
                        match code_fits_l18 n n (((), (), x20, (x20.length : Int), 0, ()), ((x16, x17, x18, x19, x20, x21, x22, ()), l26, ())) with
                        | some (.inl ((_, _, _), ((x27, x28, x29, x30, x31, x32, x33, _), l34, _))) => (
                          if decide (x30 < 0) then
                            some ((ErrV.sent 104, ()), ())
                          else
                            if decide (x30 > 1024) then
                              some ((ErrV.sent 104, ()), ())
                            else
                              match slices_ContainsFunc_int_int n ((l34, (), ()), ()) with
                              | some ((x35, _), _) => (
                                if x35 then
                                  some ((ErrV.sent 104, ()), ())
                                else
                                  match code_fits_l25 n n ((x33, (x33.length : Int), 0, ()), ()) with
                                  | some (.inl (_, _)) => (
                                    some ((ErrV.nil, ()), ()))
                                  | some (.inr (.inl ((x36, _), _))) => (
                                    some ((x36, ()), ()))
                                  | some (.inr (.inr (_))) => none
                                  | none => none)
                              | none => none)
                        | some (.inr (_)) => none
                        | none => none)
                      | none => none)
        | none => none)
      | some (.inr (_)) => none
      | none => none)
    | some (.inr (_)) => none
    | none => none
def code_fits_H (n : Nat) : Hints := ⟨[], fun _ => [], fun k => match k with | 3 => some ⟨[1, 3, 17, 18, 19], code_fits_l3_h, code_fits_l3_o, code_fits_l3 n⟩ | 8 => some ⟨[1, 3, 30, 31, 32], code_fits_l8_h, code_fits_l8_o, code_fits_l8 n⟩ | 18 => some ⟨[1, 8, 83, 84, 85], code_fits_l18_h, code_fits_l18_o, code_fits_l18 n⟩ | 25 => some ⟨[109, 110, 111], code_fits_l25_h, code_fits_l25_o, code_fits_l25 n⟩ | _ => none, fun _ => none, fun _ => none, fun _ => 0⟩
def code_fits_O (n : Nat) : FuncId → List FSpec := asc [(59, ⟨slices_ContainsFunc_string_string_ins, slices_ContainsFunc_string_string_outs, slices_ContainsFunc_string_string n⟩), (61, ⟨slices_Concat_int_int_ins, slices_Concat_int_int_outs, slices_Concat_int_int n⟩), (62, ⟨slices_ContainsFunc_int_int_ins, slices_ContainsFunc_int_int_outs, slices_ContainsFunc_int_int n⟩), (62, ⟨slices_ContainsFunc_int_int_2_ins, slices_ContainsFunc_int_int_2_outs, slices_ContainsFunc_int_int_2 n⟩)]
def b40 : Code := bodyOf Tryz.f40
theorem code_fits_l3_k0 (n : Nat) : LoopOk P CC (code_fits_O n) n 0 137 (code_fits_H n) ⟨[1, 3, 17, 18, 19], code_fits_l3_h, code_fits_l3_o, code_fits_l3 n⟩ ((loopsOf b40).getD 0 .skip) := by
  refine ⟨fun _ => by kernel_rfl, ?_⟩
  rintro k ⟨⟨⟨⟩, ⟨⟩, x1, x2, x3, ⟨⟩⟩, ⟨⟨x4, x5, x6, x7, x8, x9, x10, ⟨⟩⟩, x11, ⟨⟩⟩⟩
  kernel_rfl
theorem code_fits_l8_k1 (n : Nat) : LoopOk P CC (code_fits_O n) n 0 137 (code_fits_H n) ⟨[1, 3, 30, 31, 32], code_fits_l8_h, code_fits_l8_o, code_fits_l8 n⟩ ((loopsOf b40).getD 1 .skip) := by
  refine ⟨fun _ => by kernel_rfl, ?_⟩
  rintro k ⟨⟨⟨⟩, ⟨⟩, x1, x2, x3, ⟨⟩⟩, ⟨⟨x4, x5, x6, x7, x8, x9, x10, ⟨⟩⟩, x11, ⟨⟩⟩⟩
  kernel_rfl
theorem code_fits_l18_k2 (n : Nat) : LoopOk P CC (code_fits_O n) n 0 137 (code_fits_H n) ⟨[1, 8, 83, 84, 85], code_fits_l18_h, code_fits_l18_o, code_fits_l18 n⟩ ((loopsOf b40).getD 2 .skip) := by
  refine ⟨fun _ => by kernel_rfl, ?_⟩
  rintro k ⟨⟨⟨⟩, ⟨⟩, x1, x2, x3, ⟨⟩⟩, ⟨⟨x4, x5, x6, x7, x8, x9, x10, ⟨⟩⟩, x11, ⟨⟩⟩⟩
  kernel_rfl
theorem code_fits_l25_k3 (n : Nat) : LoopOk P CC (code_fits_O n) n 0 137 (code_fits_H n) ⟨[109, 110, 111], code_fits_l25_h, code_fits_l25_o, code_fits_l25 n⟩ ((loopsOf b40).getD 3 .skip) := by
  refine ⟨fun _ => by kernel_rfl, ?_⟩
  rintro k ⟨⟨x1, x2, x3, ⟨⟩⟩, ⟨⟩⟩
  kernel_rfl
theorem code_fits_ok {S : Nat → Addr} (ok : CfgOk P CC S) : ∀ n, SpecOk P CC S 40 ⟨code_fits_ins, code_fits_outs, code_fits n⟩ :=
  fn_all ok (O := code_fits_O) (H := code_fits_H) (fn := Tryz.f40) (body := b40) (by kernel_rfl) (by kernel_rfl) (by kernel_rfl) (by decide) (by kernel_rfl)
    (fun x => by kernel_rfl) (fun n => by
      rintro ⟨⟨⟨x1, x2, x3, x4, x5, x6, x7, ⟨⟩⟩, ⟨⟩⟩, ⟨⟩⟩
      kernel_rfl)
    (fun n => obl_of (by kernel_rfl) (by kernel_rfl) (ls (ls (ls (ls (lz) (by kernel_rfl) (code_fits_l3_k0 n)) (by kernel_rfl) (code_fits_l8_k1 n)) (by kernel_rfl) (code_fits_l18_k2 n)) (by kernel_rfl) (code_fits_l25_k3 n)) (cn (cn (cn (cn (cn (cn (cn (cn (cn (cn (cn (cn (cn (cn (cn (cn (cn (cn (cn (cn (cn (cn (cn (cn (cn (cn (cn (cn (cn (cn (cn (cn (cn (cn (cn (cn (cn (cn (cn (cz) (by kernel_rfl)) (by kernel_rfl)) (by kernel_rfl)) (by kernel_rfl)) (by kernel_rfl)) (by kernel_rfl)) (by kernel_rfl)) (by kernel_rfl)) (by kernel_rfl)) (by kernel_rfl)) (by kernel_rfl)) (by kernel_rfl)) (by kernel_rfl)) (by kernel_rfl)) (by kernel_rfl)) (by kernel_rfl)) (by kernel_rfl)) (by kernel_rfl)) (by kernel_rfl)) (by kernel_rfl)) (by kernel_rfl)) (by kernel_rfl)) (by kernel_rfl)) (by kernel_rfl)) (by kernel_rfl)) (by kernel_rfl)) (by kernel_rfl)) (by kernel_rfl)) (by kernel_rfl)) (by kernel_rfl)) (by kernel_rfl)) (by kernel_rfl)) (by kernel_rfl)) (by kernel_rfl)) (by kernel_rfl)) (by kernel_rfl)) (by kernel_rfl)) (by kernel_rfl)) (by kernel_rfl)) (hn fun _ => rfl))
    (fun n ih => asc_cons (slices_ContainsFunc_string_string_ok ok n) <| asc_cons (slices_Concat_int_int_ok ok n) <| asc_cons (slices_ContainsFunc_int_int_ok ok n) <| asc_cons (slices_ContainsFunc_int_int_2_ok ok n) <| asc_nil)
/-! ### pendulum/code.put -/
abbrev code_put_2_ins : Sh := ⟨[(.one (.arr 0)), (.one (.val ty2))], [(.arr 5 (.int .u8))]⟩
abbrev code_put_2_outs : List Sh := [⟨[(.one (.arr 1))], [.dead, (.arr 5 (.int .u8))]⟩]
abbrev code_put_2_l2_h : Sh := ⟨[(.one (.arr 1)), (.one (.val ty2)), (.one (.val (.int .i64))), (.one (.val (.int .i64)))], [.dead, (.arr 5 (.int .u8))]⟩
abbrev code_put_2_l2_o : List Out := [⟨(.exit 0), [0], ⟨[(.one (.arr 1))], [.dead, (.arr 5 (.int .u8))]⟩⟩]
def code_put_2_l2 (n : Nat) : Nat → code_put_2_l2_h.T → Option (OutT code_put_2_l2_o)
  | 0, _ => none
  | k + 1, ((_, x1, x2, x3, _), (_, l4, _)) =>
    if decide (x3 < x2) then
      if 0 ≤ x3 ∧ x3 < (x1.length : Int) then (
        let v5 : Int := rdT ((.int .i64) : Ty) x1 x3
        match wire_Put n (((), v5, ()), ([], ())) with
        | some ((_, _), (l6, l7, _)) => (
          if (l4.length + l7.length) * 1 ≤ 140737488355328 then (
            let v8 : Int := IntKind.i64.wrap (x3 + 1)
            code_put_2_l2 n k (((), x1, x2, v8, ()), ((), l4 ++ l7, ()))) else none)
        | none => none) else none
    else
      some (.inl (((), ()), ((), l4, ())))
def code_put_2 : Nat → code_put_2_ins.T → Option (OutsT code_put_2_outs)
  | 0, _ => none
  | n + 1, ((_, x1, _), (l2, _)) =>
    match code_put_2_l2 n n (((), x1, (x1.length : Int), 0, ()), ((), l2, ())) with
    | some (.inl ((_, _), (_, l3, _))) => (
      some (((), ()), ((), l3, ())))
    | some (.inr (_)) => none
    | none => none
def code_put_2_H (n : Nat) : Hints := ⟨[], fun _ => [], fun k => match k with | 2 => some ⟨[0, 7, 8, 9], code_put_2_l2_h, code_put_2_l2_o, code_put_2_l2 n⟩ | _ => none, fun _ => none, fun _ => none, fun _ => 0⟩
def code_put_2_O (n : Nat) : FuncId → List FSpec := asc [(38, ⟨wire_Put_ins, wire_Put_outs, wire_Put n⟩)]
theorem code_put_2_l2_k0 (n : Nat) : LoopOk P CC (code_put_2_O n) n 1 19 (code_put_2_H n) ⟨[0, 7, 8, 9], code_put_2_l2_h, code_put_2_l2_o, code_put_2_l2 n⟩ ((loopsOf b17).getD 0 .skip) := by
  refine ⟨fun _ => by kernel_rfl, ?_⟩
  rintro k ⟨⟨⟨⟩, x1, x2, x3, ⟨⟩⟩, ⟨⟨⟩, x4, ⟨⟩⟩⟩
  kernel_rfl
theorem code_put_2_ok {S : Nat → Addr} (ok : CfgOk P CC S) : ∀ n, SpecOk P CC S 17 ⟨code_put_2_ins, code_put_2_outs, code_put_2 n⟩ :=
  fn_all ok (O := code_put_2_O) (H := code_put_2_H) (fn := Tryz.f17) (body := b17) (by kernel_rfl) (by kernel_rfl) (by kernel_rfl) (by decide) (by kernel_rfl)
    (fun x => by kernel_rfl) (fun n => by
      rintro ⟨⟨⟨⟩, x1, ⟨⟩⟩, ⟨x2, ⟨⟩⟩⟩
      kernel_rfl)
    (fun n => obl_of (by kernel_rfl) (by kernel_rfl) (ls (lz) (by kernel_rfl) (code_put_2_l2_k0 n)) (cn (cn (cn (cn (cn (cn (cn (cn (cz) (by kernel_rfl)) (by kernel_rfl)) (by kernel_rfl)) (by kernel_rfl)) (by kernel_rfl)) (by kernel_rfl)) (by kernel_rfl)) (by kernel_rfl)) (hn fun _ => rfl))
    (fun n ih => asc_cons (wire_Put_ok ok n) <| asc_nil)
/-! ### pendulum/code.Bytes -/
abbrev code_Bytes_ins : Sh := ⟨[(.agg [(.val .str), (.val ty2), (.val ty2), (.val (.int .i64)), (.val ty6), (.val ty10), (.val ty12)])], []⟩
abbrev code_Bytes_outs : List Sh := [⟨[(.tup [(false, [(.arr 0)]), (false, [(.val .err)])])], [(.arr 5 (.int .u8))]⟩]
abbrev code_Bytes_l9_h : Sh := ⟨[(.one (.ptr 0 0)), (.one (.arr 1)), (.one (.val ty6)), (.one (.val (.int .i64))), (.one (.val (.int .i64)))], [(.obj 37 [(.val .str), (.val ty2), (.val ty2), (.val (.int .i64)), (.val ty6), (.val ty10), (.val ty12)]), (.arr 5 (.int .u8))]⟩
abbrev code_Bytes_l9_o : List Out := [⟨(.exit 0), [1, 5], ⟨[(.one (.ptr 0 0)), (.one (.arr 1))], [(.obj 37 [(.val .str), (.val ty2), (.val ty2), (.val (.int .i64)), (.val ty6), (.val ty10), (.val ty12)]), (.arr 5 (.int .u8))]⟩⟩]
def code_Bytes_l9 (n : Nat) : Nat → code_Bytes_l9_h.T → Option (OutT code_Bytes_l9_o)
  | 0, _ => none
  | k + 1, ((_, _, x1, x2, x3, _), ((x4, x5, x6, x7, x8, x9, x10, _), l11, _)) =>
    if decide (x3 < x2) then
      if 0 ≤ x3 ∧ x3 < (x1.length : Int) then (
        match code_text n (((), (rdT ty7 x1 x3).1, ()), (l11, ())) with
        | some ((_, _), (_, l12, _)) => (
          match code_put_2 n (((), [((rdT ty7 x1 x3).2).1], ()), (l12, ())) with
          | some ((_, _), (_, l13, _)) => (
            match wire_Put n (((), ((rdT ty7 x1 x3).2).2, ()), ([], ())) with
            | some ((_, _), (l14, l15, _)) => (
              if (l13.length + l15.length) * 1 ≤ 140737488355328 then (
                let v16 : Int := IntKind.i64.wrap (x3 + 1)
                code_Bytes_l9 n k (((), (), x1, x2, v16, ()), ((x4, x5, x6, x7, x8, x9, x10, ()), l13 ++ l15, ()))) else none)
            | none => none)
          | none => none)
        | none => none) else none
    else
      some (.inl (((), (), ()), ((x4, x5, x6, x7, x8, x9, x10, ()), l11, ())))
abbrev code_Bytes_l16_h : Sh := ⟨[(.one (.ptr 0 0)), (.one (.arr 1)), (.one (.val ty10)), (.one (.val (.int .i64))), (.one (.val (.int .i64)))], [(.obj 37 [(.val .str), (.val ty2), (.val ty2), (.val (.int .i64)), (.val ty6), (.val ty10), (.val ty12)]), (.arr 5 (.int .u8))]⟩
abbrev code_Bytes_l16_o : List Out := [⟨(.exit 2), [1, 5], ⟨[(.one (.ptr 0 0)), (.one (.arr 1))], [(.obj 37 [(.val .str), (.val ty2), (.val ty2), (.val (.int .i64)), (.val ty6), (.val ty10), (.val ty12)]), (.arr 5 (.int .u8))]⟩⟩]
def code_Bytes_l16 (n : Nat) : Nat → code_Bytes_l16_h.T → Option (OutT code_Bytes_l16_o)
  | 0, _ => none
  | k + 1, ((_, _, x1, x2, x3, _), ((x4, x5, x6, x7, x8, x9, x10, _), l11, _)) =>
    if decide (x3 < x2) then
      if 0 ≤ x3 ∧ x3 < (x1.length : Int) then (
        match code_text n (((), (rdT ty11 x1 x3).1, ()), (l11, ())) with
        | some ((_, _), (_, l12, _)) => (
          match code_text n (((), (rdT ty11 x1 x3).2, ()), (l12, ())) with
          | some ((_, _), (_, l13, _)) => (
            let v14 : Int := IntKind.i64.wrap (x3 + 1)
            code_Bytes_l16 n k (((), (), x1, x2, v14, ()), ((x4, x5, x6, x7, x8, x9, x10, ()), l13, ())))
          | none => none)
        | none => none) else none
    else
      some (.inl (((), (), ()), ((x4, x5, x6, x7, x8, x9, x10, ()), l11, ())))
abbrev code_Bytes_l22_h : Sh := ⟨[(.one (.arr 0)), (.one (.val ty12)), (.one (.val (.int .i64))), (.one (.val (.int .i64)))], [(.arr 5 (.int .u8))]⟩
abbrev code_Bytes_l22_o : List Out := [⟨(.exit 4), [5], ⟨[(.one (.arr 0))], [(.arr 5 (.int .u8))]⟩⟩]
def code_Bytes_l22 (n : Nat) : Nat → code_Bytes_l22_h.T → Option (OutT code_Bytes_l22_o)
  | 0, _ => none
  | k + 1, ((_, x1, x2, x3, _), (l4, _)) =>
    if decide (x3 < x2) then
      if 0 ≤ x3 ∧ x3 < (x1.length : Int) then (
        match code_put n (((), (), ()), (l4, [(rdT ty13 x1 x3).1, ((rdT ty13 x1 x3).2).1, (((rdT ty13 x1 x3).2).2).1, ((((rdT ty13 x1 x3).2).2).2).1, (((((rdT ty13 x1 x3).2).2).2).2).1], ())) with
        | some ((_, _), (_, l5, l6, _)) => (
          match wire_Put n (((), (((((rdT ty13 x1 x3).2).2).2).2).2, ()), ([], ())) with
          | some ((_, _), (l7, l8, _)) => (
            if (l6.length + l8.length) * 1 ≤ 140737488355328 then (
              let v9 : Int := IntKind.i64.wrap (x3 + 1)
              code_Bytes_l22 n k (((), x1, x2, v9, ()), (l6 ++ l8, ()))) else none)
          | none => none)
        | none => none) else none
    else
      some (.inl (((), ()), (l4, ())))
def code_Bytes : Nat → code_Bytes_ins.T → Option (OutsT code_Bytes_outs)
  | 0, _ => none
  | n + 1, (((x1, x2, x3, x4, x5, x6, x7, _), _), _) =>
    match code_fits n (((x1, x2, x3, x4, x5, x6, x7, ()), ()), ()) with
    | some ((x8, _), _) => (
      if !(errNil x8) then
        some (((((), ()), (x8, ()), ()), ()), ([], ()))
      else
        match code_text n (((), x1, ()), ([], ())) with
        | some ((_, _), (_, l9, _)) => (
          match code_put_2 n (((), [(x2.length : Int)], ()), (l9, ())) with
          | some ((_, _), (_, l10, _)) => (
            match code_put_2 n (((), x2, ()), (l10, ())) with
            | some ((_, _), (_, l11, _)) => (
              match code_put_2 n (((), [(x3.length : Int)], ()), (l11, ())) with
              | some ((_, _), (_, l12, _)) => (
                match code_put_2 n (((), x3, ()), (l12, ())) with
                | some ((_, _), (_, l13, _)) => (
                  match code_put n (((), (), ()), (l13, [x4, (x5.length : Int)], ())) with
                  | some ((_, _), (_, l14, l15, _)) => (
                    match code_Bytes_l9 n n (((), (), x5, (x5.length : Int), 0, ()), ((x1, x2, x3, x4, x5, x6, x7, ()), l15, ())) with
                    | some (.inl ((_, _, _), ((x16, x17, x18, x19, x20, x21, x22, _), l23, _))) => (
                      match code_put n (((), (), ()), (l23, [(x21.length : Int)], ())) with
                      | some ((_, _), (_, l24, l25, _)) => (
                        match code_Bytes_l16 n n (((), (), x21, (x21.length : Int), 0, ()), ((x16, x17, x18, x19, x20, x21, x22, ()), l25, ())) with
                        | some (.inl ((_, _, _), ((x26, x27, x28, x29, x30, x31, x32, _), l33, _))) => (
                          match code_put n (((), (), ()), (l33, [(x32.length : Int)], ())) with
                          | some ((_, _), (_, l34, l35, _)) => (
                            match code_Bytes_l22 n n (((), x32, (x32.length : Int), 0, ()), (l35, ())) with
                            | some (.inl ((_, _), (l36, _))) => (
                              some (((((), ()), (ErrV.nil, ()), ()), ()), (l36, ())))
                            | some (.inr (_)) => none
                            | none => none)
                          | none => none)
                        | some (.inr (_)) => none
                        | none => none)
                      | none => none)
                    | some (.inr (_)) => none
                    | none => none)
                  | none => none)
                | none => none)
              | none => none)
            | none => none)
          | none => none)
        | none => none)
    | none => none
def code_Bytes_H (n : Nat) : Hints := ⟨[], fun _ => [], fun k => match k with | 9 => some ⟨[1, 5, 47, 48, 49], code_Bytes_l9_h, code_Bytes_l9_o, code_Bytes_l9 n⟩ | 16 => some ⟨[1, 5, 74, 75, 76], code_Bytes_l16_h, code_Bytes_l16_o, code_Bytes_l16 n⟩ | 22 => some ⟨[5, 95, 96, 97], code_Bytes_l22_h, code_Bytes_l22_o, code_Bytes_l22 n⟩ | _ => none, fun _ => none, fun _ => none, fun _ => 0⟩
def code_Bytes_O (n : Nat) : FuncId → List FSpec := asc [(17, ⟨code_put_ins, code_put_outs, code_put n⟩), (17, ⟨code_put_2_ins, code_put_2_outs, code_put_2 n⟩), (18, ⟨code_text_ins, code_text_outs, code_text n⟩), (38, ⟨wire_Put_ins, wire_Put_outs, wire_Put n⟩), (40, ⟨code_fits_ins, code_fits_outs, code_fits n⟩)]
def b21 : Code := bodyOf Tryz.f21
theorem code_Bytes_l9_k0 (n : Nat) : LoopOk P CC (code_Bytes_O n) n 0 121 (code_Bytes_H n) ⟨[1, 5, 47, 48, 49], code_Bytes_l9_h, code_Bytes_l9_o, code_Bytes_l9 n⟩ ((loopsOf b21).getD 0 .skip) := by
  refine ⟨fun _ => by kernel_rfl, ?_⟩
  rintro k ⟨⟨⟨⟩, ⟨⟩, x1, x2, x3, ⟨⟩⟩, ⟨⟨x4, x5, x6, x7, x8, x9, x10, ⟨⟩⟩, x11, ⟨⟩⟩⟩
  kernel_rfl
theorem code_Bytes_l16_k1 (n : Nat) : LoopOk P CC (code_Bytes_O n) n 0 121 (code_Bytes_H n) ⟨[1, 5, 74, 75, 76], code_Bytes_l16_h, code_Bytes_l16_o, code_Bytes_l16 n⟩ ((loopsOf b21).getD 1 .skip) := by
  refine ⟨fun _ => by kernel_rfl, ?_⟩
  rintro k ⟨⟨⟨⟩, ⟨⟩, x1, x2, x3, ⟨⟩⟩, ⟨⟨x4, x5, x6, x7, x8, x9, x10, ⟨⟩⟩, x11, ⟨⟩⟩⟩
  kernel_rfl
theorem code_Bytes_l22_k2 (n : Nat) : LoopOk P CC (code_Bytes_O n) n 0 121 (code_Bytes_H n) ⟨[5, 95, 96, 97], code_Bytes_l22_h, code_Bytes_l22_o, code_Bytes_l22 n⟩ ((loopsOf b21).getD 2 .skip) := by
  refine ⟨fun _ => by kernel_rfl, ?_⟩
  rintro k ⟨⟨⟨⟩, x1, x2, x3, ⟨⟩⟩, ⟨x4, ⟨⟩⟩⟩
  kernel_rfl
theorem code_Bytes_ok {S : Nat → Addr} (ok : CfgOk P CC S) : ∀ n, SpecOk P CC S 21 ⟨code_Bytes_ins, code_Bytes_outs, code_Bytes n⟩ :=
  fn_all ok (O := code_Bytes_O) (H := code_Bytes_H) (fn := Tryz.f21) (body := b21) (by kernel_rfl) (by kernel_rfl) (by kernel_rfl) (by decide) (by kernel_rfl)
    (fun x => by kernel_rfl) (fun n => by
      rintro ⟨⟨⟨x1, x2, x3, x4, x5, x6, x7, ⟨⟩⟩, ⟨⟩⟩, ⟨⟩⟩
      kernel_rfl)
    (fun n => obl_of (by kernel_rfl) (by kernel_rfl) (ls (ls (ls (lz) (by kernel_rfl) (code_Bytes_l9_k0 n)) (by kernel_rfl) (code_Bytes_l16_k1 n)) (by kernel_rfl) (code_Bytes_l22_k2 n)) (cn (cn (cn (cn (cn (cn (cn (cn (cn (cn (cn (cn (cn (cn (cn (cn (cn (cn (cn (cn (cn (cn (cn (cn (cn (cn (cn (cn (cn (cn (cn (cn (cz) (by kernel_rfl)) (by kernel_rfl)) (by kernel_rfl)) (by kernel_rfl)) (by kernel_rfl)) (by kernel_rfl)) (by kernel_rfl)) (by kernel_rfl)) (by kernel_rfl)) (by kernel_rfl)) (by kernel_rfl)) (by kernel_rfl)) (by kernel_rfl)) (by kernel_rfl)) (by kernel_rfl)) (by kernel_rfl)) (by kernel_rfl)) (by kernel_rfl)) (by kernel_rfl)) (by kernel_rfl)) (by kernel_rfl)) (by kernel_rfl)) (by kernel_rfl)) (by kernel_rfl)) (by kernel_rfl)) (by kernel_rfl)) (by kernel_rfl)) (by kernel_rfl)) (by kernel_rfl)) (by kernel_rfl)) (by kernel_rfl)) (by kernel_rfl)) (hn fun _ => rfl))
    (fun n ih => asc_cons (code_put_ok ok n) <| asc_cons (code_put_2_ok ok n) <| asc_cons (code_text_ok ok n) <| asc_cons (wire_Put_ok ok n) <| asc_cons (code_fits_ok ok n) <| asc_nil)
/-! ### pendulum/code.Link -/
abbrev code_Link_ins : Sh := ⟨[(.one (.val .str)), (.one (.val ty18))], []⟩
abbrev code_Link_outs : List Sh := [⟨[(.tup [(false, [(.arr 0)]), (false, [(.val .err)])])], [(.arr 5 (.int .u8))]⟩]
abbrev code_Link_l9_h : Sh := ⟨[(.one (.val ty18)), (.one (.arr 0)), (.one (.arr 1)), (.one (.val (.int .i64))), (.one (.val (.int .i64)))], [(.arr 5 (.int .u8)), (.arr 9 .str)]⟩
abbrev code_Link_l9_o : List Out := [⟨(.exit 0), [10], ⟨[(.one (.arr 0))], [(.arr 5 (.int .u8))]⟩⟩, ⟨.ret, [4, 5], ⟨[(.one (.emp true)), (.one (.val .err))], []⟩⟩]
def code_Link_l9 (n : Nat) : Nat → code_Link_l9_h.T → Option (OutT code_Link_l9_o)
  | 0, _ => none
  | k + 1, ((x1, _, _, x2, x3, _), (l4, l5, _)) =>
    if decide (x3 < x2) then
      if 0 ≤ x3 ∧ x3 < (l5.length : Int) then (
        match slices_IndexFunc_api_Object_api_Object n ((x1, (), ()), ((rdT (.str : Ty) l5 x3, ()), ())) with
        | some ((x6, _), ((x7, _), _)) => (
          if 0 ≤ x6 ∧ x6 < (x1.length : Int) then (
            match code_Bytes n ((((rdT ty0 x1 x6).1, ((rdT ty0 x1 x6).2).1, (((rdT ty0 x1 x6).2).2).1, ((((rdT ty0 x1 x6).2).2).2).1, (((((rdT ty0 x1 x6).2).2).2).2).1, ((((((rdT ty0 x1 x6).2).2).2).2).2).1, ((((((rdT ty0 x1 x6).2).2).2).2).2).2, ()), ()), ()) with
            | some ((((_, _), (x8, _), _), _), (l9, _)) => (
              if !(errNil x8) then
                some (.inr (.inl (((), ErrV.at_ x6 x8, ()), ())))
              else
                if (l4.length + l9.length) * 1 ≤ 140737488355328 then (
                  let v10 : Int := IntKind.i64.wrap (x3 + 1)
                  code_Link_l9 n k ((x1, (), (), x2, v10, ()), (l4 ++ l9, l5, ()))) else none)
            | none => none) else none)
        | none => none) else none
    else
      some (.inl (((), ()), (l4, ())))
def code_Link : Nat → code_Link_ins.T → Option (OutsT code_Link_outs)
  | 0, _ => none
  | n + 1, ((x1, x2, _), _) =>
    match lay_Of n ((x1, x2, ()), ()) with
    | some ((((_, _), (x3, _), _), _), (l4, _)) => (
      if !(errNil x3) then
        some (((((), ()), (x3, ()), ()), ()), ([], ()))
      else
        match lay_Uses n ((x1, x2, ()), ()) with
        | some ((((_, _), (x5, _), _), _), (l6, _)) => (
          if !(errNil x5) then
            some (((((), ()), (x5, ()), ()), ()), ([], ()))
          else
            match code_text n (((), x1, ()), ([], ())) with
            | some ((_, _), (_, l7, _)) => (
              match code_put n (((), (), ()), (l7, [(l6.length : Int)], ())) with
              | some ((_, _), (_, l8, l9, _)) => (
                match code_Link_l9 n n ((x2, (), (), (l6.length : Int), 0, ()), (l9, l6, ())) with
                | some (.inl ((_, _), (l10, _))) => (
                  some (((((), ()), (ErrV.nil, ()), ()), ()), (l10, ())))
                | some (.inr (.inl ((_, x11, _), _))) => (
                  some (((((), ()), (x11, ()), ()), ()), ([], ())))
                | some (.inr (.inr (_))) => none
                | none => none)
              | none => none)
            | none => none)
        | none => none)
    | none => none
def code_Link_H (n : Nat) : Hints := ⟨[], fun _ => [], fun k => match k with | 9 => some ⟨[1, 10, 40, 41, 42], code_Link_l9_h, code_Link_l9_o, code_Link_l9 n⟩ | _ => none, fun _ => none, fun _ => none, fun _ => 0⟩
def code_Link_O (n : Nat) : FuncId → List FSpec := asc [(15, ⟨lay_Of_ins, lay_Of_outs, lay_Of n⟩), (16, ⟨lay_Uses_ins, lay_Uses_outs, lay_Uses n⟩), (17, ⟨code_put_ins, code_put_outs, code_put n⟩), (18, ⟨code_text_ins, code_text_outs, code_text n⟩), (19, ⟨slices_IndexFunc_api_Object_api_Object_ins, slices_IndexFunc_api_Object_api_Object_outs, slices_IndexFunc_api_Object_api_Object n⟩), (21, ⟨code_Bytes_ins, code_Bytes_outs, code_Bytes n⟩)]
def b6 : Code := bodyOf Tryz.f6
theorem code_Link_l9_k0 (n : Nat) : LoopOk P CC (code_Link_O n) n 0 69 (code_Link_H n) ⟨[1, 10, 40, 41, 42], code_Link_l9_h, code_Link_l9_o, code_Link_l9 n⟩ ((loopsOf b6).getD 0 .skip) := by
  refine ⟨fun _ => by kernel_rfl, ?_⟩
  rintro k ⟨⟨x1, ⟨⟩, ⟨⟩, x2, x3, ⟨⟩⟩, ⟨x4, x5, ⟨⟩⟩⟩
  kernel_rfl
theorem code_Link_ok {S : Nat → Addr} (ok : CfgOk P CC S) : ∀ n, SpecOk P CC S 6 ⟨code_Link_ins, code_Link_outs, code_Link n⟩ :=
  fn_all ok (O := code_Link_O) (H := code_Link_H) (fn := Tryz.f6) (body := b6) (by kernel_rfl) (by kernel_rfl) (by kernel_rfl) (by decide) (by kernel_rfl)
    (fun x => by kernel_rfl) (fun n => by
      rintro ⟨⟨x1, x2, ⟨⟩⟩, ⟨⟩⟩
      kernel_rfl)
    (fun n => obl_of (by kernel_rfl) (by kernel_rfl) (ls (lz) (by kernel_rfl) (code_Link_l9_k0 n)) (cn (cn (cn (cn (cn (cn (cn (cn (cn (cn (cn (cn (cn (cn (cn (cn (cn (cn (cn (cn (cn (cn (cz) (by kernel_rfl)) (by kernel_rfl)) (by kernel_rfl)) (by kernel_rfl)) (by kernel_rfl)) (by kernel_rfl)) (by kernel_rfl)) (by kernel_rfl)) (by kernel_rfl)) (by kernel_rfl)) (by kernel_rfl)) (by kernel_rfl)) (by kernel_rfl)) (by kernel_rfl)) (by kernel_rfl)) (by kernel_rfl)) (by kernel_rfl)) (by kernel_rfl)) (by kernel_rfl)) (by kernel_rfl)) (by kernel_rfl)) (by kernel_rfl)) (hn fun _ => rfl))
    (fun n ih => asc_cons (lay_Of_ok ok n) <| asc_cons (lay_Uses_ok ok n) <| asc_cons (code_put_ok ok n) <| asc_cons (code_text_ok ok n) <| asc_cons (slices_IndexFunc_api_Object_api_Object_ok ok n) <| asc_cons (code_Bytes_ok ok n) <| asc_nil)
/-! ### pendulum/wire.NewReader -/
abbrev wire_NewReader_ins : Sh := ⟨[(.one (.arr 0))], [(.arr 5 (.int .u8))]⟩
abbrev wire_NewReader_outs : List Sh := [⟨[(.one (.ptr 1 0))], [(.frz 5 (.int .u8)), (.obj 93 [(.val ty19), (.val (.int .i64)), (.val .err)])]⟩]
def wire_NewReader : Nat → wire_NewReader_ins.T → Option (OutsT wire_NewReader_outs)
  | 0, _ => none
  | n + 1, ((_, _), (l1, _)) =>
    match slices_Clone_byte_byte n ((l1, ()), ()) with
    | some ((_, _), (l2, _)) => (
      some (((), ()), (l1, (l2, 0, ErrV.nil, ()), ())))
    | none => none
def wire_NewReader_H (n : Nat) : Hints := ⟨[], fun _ => [], fun _ => none, fun _ => none, fun _ => none, fun _ => 0⟩
def wire_NewReader_O (n : Nat) : FuncId → List FSpec := asc [(41, ⟨slices_Clone_byte_byte_ins, slices_Clone_byte_byte_outs, slices_Clone_byte_byte n⟩)]
def b22 : Code := bodyOf Tryz.f22
theorem wire_NewReader_ok {S : Nat → Addr} (ok : CfgOk P CC S) : ∀ n, SpecOk P CC S 22 ⟨wire_NewReader_ins, wire_NewReader_outs, wire_NewReader n⟩ :=
  fn_all ok (O := wire_NewReader_O) (H := wire_NewReader_H) (fn := Tryz.f22) (body := b22) (by kernel_rfl) (by kernel_rfl) (by kernel_rfl) (by decide) (by kernel_rfl)
    (fun x => by kernel_rfl) (fun n => by
      rintro ⟨⟨⟨⟩, ⟨⟩⟩, ⟨x1, ⟨⟩⟩⟩
      kernel_rfl)
    (fun n => obl_of (by kernel_rfl) (by kernel_rfl) (lz) (cn (cn (cz) (by kernel_rfl)) (by kernel_rfl)) (hn fun _ => rfl))
    (fun n ih => asc_cons (slices_Clone_byte_byte_ok ok n) <| asc_nil)
end
end Go.Proofs.YthllmcijlhlimaaGreatDoor.Cm

/- Printed by cmtext.py: the code as plain functions. -/
import Derived.Test.YtgbpbmdhphfdgaaDoorCmFo
import Derived.Test.YtgbpbmdhphfdgaaDoorShelf
namespace Go.Proofs.YtgbpbmdhphfdgaaDoor.Cm
open Go
noncomputable section
set_option linter.unusedVariables false
set_option maxRecDepth 100000
abbrev P := Tryd.prog
abbrev CC : Cfg := ⟨117, 102, 104, [(101, 3), (102, 4), (103, 1), (104, 2), (109, 0)], [(5, tabP (fun z => Value.int .u64 z) Lib.pow10Tab)], [], []⟩
abbrev ty1 : Ty := (.pair (.int .i64) (.int .i64))
abbrev ty0 : Ty := (.pair .str ty1)
abbrev ty2 : Ty := (.pair .str .str)
abbrev ty3 : Ty := (.slice 3 (.int .i64))
abbrev ty7 : Ty := (.pair (.int .i64) ty1)
abbrev ty6 : Ty := (.pair (.int .i64) ty7)
abbrev ty5 : Ty := (.pair (.int .i64) ty6)
abbrev ty4 : Ty := (.pair (.int .i64) ty5)
abbrev ty8 : Ty := (.slice 9 .str)
abbrev ty9 : Ty := (.slice 45 ty0)
abbrev ty10 : Ty := (.slice 47 ty2)
abbrev ty11 : Ty := (.slice 43 ty4)
abbrev ty12 : Ty := (.slice 5 (.int .u8))
/-! ### strconv.Itoa (by hand) -/
abbrev strconv_Itoa_ins : Sh := ⟨[(.one (.val (.int .i64)))], []⟩
abbrev strconv_Itoa_outs : List Sh := [⟨[(.one (.val .str))], []⟩]
def strconv_Itoa : Nat → strconv_Itoa_ins.T → Option (OutsT strconv_Itoa_outs) := fun _ => itoaSem
theorem strconv_Itoa_ok {S : Nat → Addr} (ok : CfgOk P CC S) : ∀ n, SpecOk P CC S 25 ⟨strconv_Itoa_ins, strconv_Itoa_outs, strconv_Itoa n⟩ := fun n => itoa_spec ⟨Tryd.f25, by kernel_rfl, by kernel_rfl, by kernel_rfl⟩ (.head _) (by kernel_rfl) Tryd.strconv_Itoa
/-! ### strconv.FormatInt (by hand) -/
abbrev strconv_FormatInt_ins : Sh := ⟨[(.one (.val (.int .i64))), (.one (.val (.int .i64)))], []⟩
abbrev strconv_FormatInt_outs : List Sh := [⟨[(.one (.val .str))], []⟩]
def strconv_FormatInt : Nat → strconv_FormatInt_ins.T → Option (OutsT strconv_FormatInt_outs) := fun _ => fmtSem
theorem strconv_FormatInt_ok {S : Nat → Addr} (ok : CfgOk P CC S) : ∀ n, SpecOk P CC S 26 ⟨strconv_FormatInt_ins, strconv_FormatInt_outs, strconv_FormatInt n⟩ := fun n => fmt_spec ⟨Tryd.f26, by kernel_rfl, by kernel_rfl, by kernel_rfl⟩ (.head _) (by kernel_rfl) Tryd.strconv_FormatInt_10
/-! ### strings.Join (by hand) -/
abbrev strings_Join_ins : Sh := ⟨[(.one (.val ty8)), (.one (.val .str))], []⟩
abbrev strings_Join_outs : List Sh := [⟨[(.one (.val .str))], []⟩]
def strings_Join : Nat → strings_Join_ins.T → Option (OutsT strings_Join_outs) := fun _ => joinSem 9
theorem strings_Join_ok {S : Nat → Addr} (ok : CfgOk P CC S) : ∀ n, SpecOk P CC S 24 ⟨strings_Join_ins, strings_Join_outs, strings_Join n⟩ := fun n => join_spec ⟨Tryd.f24, by kernel_rfl, by kernel_rfl, by kernel_rfl⟩ Tryd.strings_Join_none Tryd.strings_Join
/-! ### pendulum/code.Text -/
abbrev code_Text_ins : Sh := ⟨[(.agg [(.val (.int .i64)), (.val (.int .i64)), (.val (.int .i64)), (.val (.int .i64)), (.val (.int .i64)), (.val (.int .i64))])], []⟩
abbrev code_Text_outs : List Sh := [⟨[(.one (.val .str))], []⟩]
abbrev code_Text_c5_h : Sh := ⟨[(.one (.ptr 0 0)), (.one (.arr 1)), (.one (.val .str))], [(.obj 43 [(.val (.int .i64)), (.val (.int .i64)), (.val (.int .i64)), (.val (.int .i64)), (.val (.int .i64)), (.val (.int .i64))]), (.arr 9 .str)]⟩
abbrev code_Text_c5_o : List Out := [⟨.normal, [1, 4], ⟨[(.one (.ptr 0 0)), (.one (.val .str))], [(.obj 43 [(.val (.int .i64)), (.val (.int .i64)), (.val (.int .i64)), (.val (.int .i64)), (.val (.int .i64)), (.val (.int .i64))])]⟩⟩]
def code_Text_c5 (n : Nat) : code_Text_c5_h.T → Option (OutT code_Text_c5_o)
  | ((_, _, x1, _), ((x2, x3, x4, x5, x6, x7, _), l8, _)) =>
    if decide (x2 ≥ 1) then
      if decide (x2 ≤ 12) then
        let v9 : Int := IntKind.i64.wrap (x2 - 1)
        if 0 ≤ v9 ∧ v9 < (l8.length : Int) then (
          some (.inl (((), rdT (.str : Ty) l8 v9, ()), ((x2, x3, x4, x5, x6, x7, ()), ())))) else none
      else
        some (.inl (((), x1, ()), ((x2, x3, x4, x5, x6, x7, ()), ())))
    else
      some (.inl (((), x1, ()), ((x2, x3, x4, x5, x6, x7, ()), ())))
def code_Text : Nat → code_Text_ins.T → Option (OutsT code_Text_outs)
  | 0, _ => none
  | n + 1, (((x1, x2, x3, x4, x5, x6, _), _), _) =>
    match code_Text_c5 n (((), (), (⟨#[]⟩ : ByteArray), ()), ((x1, x2, x3, x4, x5, x6, ()), [(⟨#[99, 111, 110, 115, 116]⟩ : ByteArray), (⟨#[109, 111, 118, 101]⟩ : ByteArray), (⟨#[108, 111, 97, 100]⟩ : ByteArray), (⟨#[115, 116, 111, 114, 101]⟩ : ByteArray), (⟨#[111, 110, 101]⟩ : ByteArray), (⟨#[116, 119, 111]⟩ : ByteArray), (⟨#[109, 117, 120]⟩ : ByteArray), (⟨#[122, 101, 114, 111]⟩ : ByteArray), (⟨#[106, 117, 109, 112]⟩ : ByteArray), (⟨#[114, 101, 115, 101, 116]⟩ : ByteArray), (⟨#[99, 97, 108, 108]⟩ : ByteArray), (⟨#[101, 110, 100]⟩ : ByteArray)], ())) with
    | some (.inl ((_, x7, _), ((x8, x9, x10, x11, x12, x13, _), _))) => (
      match strconv_Itoa n ((x9, ()), ()) with
      | some ((x14, _), _) => (
        match strconv_Itoa n ((x10, ()), ()) with
        | some ((x15, _), _) => (
          match strconv_Itoa n ((x11, ()), ()) with
          | some ((x16, _), _) => (
            match strconv_Itoa n ((x12, ()), ()) with
            | some ((x17, _), _) => (
              match strconv_FormatInt n ((x13, 10, ()), ()) with
              | some ((x18, _), _) => (
                match strings_Join n (([x7, x14, x15, x16, x17, x18], (⟨#[32]⟩ : ByteArray), ()), ()) with
                | some ((x19, _), _) => (
                  some ((x19, ()), ()))
                | none => none)
              | none => none)
            | none => none)
          | none => none)
        | none => none)
      | none => none)
    | some (.inr (_)) => none
    | none => none
def code_Text_H (n : Nat) : Hints := ⟨[], fun _ => [], fun _ => none, fun k => match k with | 5 => some ⟨[1, 3, 4], code_Text_c5_h, code_Text_c5_o, fun n => code_Text_c5 n⟩ | _ => none, fun _ => none, fun _ => 0⟩
def code_Text_O (n : Nat) : FuncId → List FSpec := asc [(24, ⟨strings_Join_ins, strings_Join_outs, strings_Join n⟩), (25, ⟨strconv_Itoa_ins, strconv_Itoa_outs, strconv_Itoa n⟩), (26, ⟨strconv_FormatInt_ins, strconv_FormatInt_outs, strconv_FormatInt n⟩)]
def b11 : Code := bodyOf Tryd.f11
theorem code_Text_c5_k3 (n : Nat) : CutOk P CC (code_Text_O n) n 0 38 (code_Text_H n) ⟨[1, 3, 4], code_Text_c5_h, code_Text_c5_o, fun n => code_Text_c5 n⟩ ((cutsOf b11).getD 3 (0, .skip)).2 := by
  rintro ⟨⟨⟨⟩, ⟨⟩, x1, ⟨⟩⟩, ⟨⟨x2, x3, x4, x5, x6, x7, ⟨⟩⟩, x8, ⟨⟩⟩⟩
  kernel_rfl
theorem code_Text_ok {S : Nat → Addr} (ok : CfgOk P CC S) : ∀ n, SpecOk P CC S 11 ⟨code_Text_ins, code_Text_outs, code_Text n⟩ :=
  fn_all ok (O := code_Text_O) (H := code_Text_H) (fn := Tryd.f11) (body := b11) (by kernel_rfl) (by kernel_rfl) (by kernel_rfl) (by decide) (by kernel_rfl)
    (fun x => by kernel_rfl) (fun n => by
      rintro ⟨⟨⟨x1, x2, x3, x4, x5, x6, ⟨⟩⟩, ⟨⟩⟩, ⟨⟩⟩
      kernel_rfl)
    (fun n => obl_of (by kernel_rfl) (by kernel_rfl) (lz) (cn (cn (cs (cn (cn (cn (cz) (by kernel_rfl)) (by kernel_rfl)) (by kernel_rfl)) (by kernel_rfl) (code_Text_c5_k3 n)) (by kernel_rfl)) (by kernel_rfl)) (hn fun _ => rfl))
    (fun n ih => asc_cons (strings_Join_ok ok n) <| asc_cons (strconv_Itoa_ok ok n) <| asc_cons (strconv_FormatInt_ok ok n) <| asc_nil)
/-! ### pendulum/pendulumlaw21.first -/
abbrev law21_first_ins : Sh := ⟨[], []⟩
abbrev law21_first_outs : List Sh := [⟨[(.one (.val .bool))], []⟩]
def law21_first : Nat → law21_first_ins.T → Option (OutsT law21_first_outs)
  | 0, _ => none
  | n + 1, (_, _) =>
    match code_Text n (((12, 0, 0, 0, 0, 0, ()), ()), ()) with
    | some ((x1, _), _) => (
      some ((strEq x1 (⟨#[101, 110, 100, 32, 48, 32, 48, 32, 48, 32, 48, 32, 48]⟩ : ByteArray), ()), ()))
    | none => none
def law21_first_H (n : Nat) : Hints := ⟨[], fun _ => [], fun _ => none, fun _ => none, fun _ => none, fun _ => 0⟩
def law21_first_O (n : Nat) : FuncId → List FSpec := asc [(11, ⟨code_Text_ins, code_Text_outs, code_Text n⟩)]
def b4 : Code := bodyOf Tryd.f4
theorem law21_first_ok {S : Nat → Addr} (ok : CfgOk P CC S) : ∀ n, SpecOk P CC S 4 ⟨law21_first_ins, law21_first_outs, law21_first n⟩ :=
  fn_all ok (O := law21_first_O) (H := law21_first_H) (fn := Tryd.f4) (body := b4) (by kernel_rfl) (by kernel_rfl) (by kernel_rfl) (by decide) (by kernel_rfl)
    (fun x => by kernel_rfl) (fun n => by
      rintro ⟨⟨⟩, ⟨⟩⟩
      kernel_rfl)
    (fun n => obl_of (by kernel_rfl) (by kernel_rfl) (lz) (cn (cn (cz) (by kernel_rfl)) (by kernel_rfl)) (hn fun _ => rfl))
    (fun n ih => asc_cons (code_Text_ok ok n) <| asc_nil)
/-! ### pendulum/pendulumworld.Object -/
abbrev world_Object_ins : Sh := ⟨[(.agg [(.val .str), (.val ty3), (.val ty3), (.val (.int .i64)), (.val ty9), (.val ty10), (.val ty11)])], []⟩
abbrev world_Object_outs : List Sh := [⟨[(.one (.val .bool))], []⟩]
abbrev world_Object_l4_h : Sh := ⟨[(.one (.ptr 0 0)), (.one (.val (.int .i64)))], [(.obj 27 [(.val .str), (.val ty3), (.val ty3), (.val (.int .i64)), (.val ty9), (.val ty10), (.val ty11)])]⟩
abbrev world_Object_l4_o : List Out := [⟨(.exit 0), [1], ⟨[(.one (.ptr 0 0))], [(.obj 27 [(.val .str), (.val ty3), (.val ty3), (.val (.int .i64)), (.val ty9), (.val ty10), (.val ty11)])]⟩⟩, ⟨.ret, [2], ⟨[(.one (.val .bool))], []⟩⟩]
def world_Object_l4 (n : Nat) : Nat → world_Object_l4_h.T → Option (OutT world_Object_l4_o)
  | 0, _ => none
  | k + 1, ((_, x1, _), ((x2, x3, x4, x5, x6, x7, x8, _), _)) =>
    if decide (x1 < (x6.length : Int)) then
      if 0 ≤ x1 ∧ x1 < (x6.length : Int) then (
        if decide ((((rdT ty0 x6 x1).1).size : Int) > 300) then
          some (.inr (.inl ((false, ()), ())))
        else
          let v9 : Int := IntKind.i64.wrap (x1 + 1)
          world_Object_l4 n k (((), v9, ()), ((x2, x3, x4, x5, x6, x7, x8, ()), ()))) else none
    else
      some (.inl (((), ()), ((x2, x3, x4, x5, x6, x7, x8, ()), ())))
abbrev world_Object_l9_h : Sh := ⟨[(.one (.ptr 0 0)), (.one (.val (.int .i64)))], [(.obj 27 [(.val .str), (.val ty3), (.val ty3), (.val (.int .i64)), (.val ty9), (.val ty10), (.val ty11)])]⟩
abbrev world_Object_l9_o : List Out := [⟨(.exit 2), [], ⟨[], []⟩⟩, ⟨.ret, [2], ⟨[(.one (.val .bool))], []⟩⟩]
def world_Object_l9 (n : Nat) : Nat → world_Object_l9_h.T → Option (OutT world_Object_l9_o)
  | 0, _ => none
  | k + 1, ((_, x1, _), ((x2, x3, x4, x5, x6, x7, x8, _), _)) =>
    if decide (x1 < (x7.length : Int)) then
      if 0 ≤ x1 ∧ x1 < (x7.length : Int) then (
        if decide ((((rdT ty2 x7 x1).1).size : Int) > 300) then
          some (.inr (.inl ((false, ()), ())))
        else
          if 0 ≤ x1 ∧ x1 < (x7.length : Int) then (
            if decide ((((rdT ty2 x7 x1).2).size : Int) > 300) then
              some (.inr (.inl ((false, ()), ())))
            else
              let v9 : Int := IntKind.i64.wrap (x1 + 1)
              world_Object_l9 n k (((), v9, ()), ((x2, x3, x4, x5, x6, x7, x8, ()), ()))) else none) else none
    else
      some (.inl ((), ()))
def world_Object : Nat → world_Object_ins.T → Option (OutsT world_Object_outs)
  | 0, _ => none
  | n + 1, (((x1, x2, x3, x4, x5, x6, x7, _), _), _) =>
    if decide ((x1.size : Int) > 300) then
      some ((false, ()), ())
    else
      if decide ((x2.length : Int) > 80) then
        some ((false, ()), ())
      else
        if decide ((x3.length : Int) > 80) then
          some ((false, ()), ())
        else
          if decide ((x5.length : Int) > 60) then
            some ((false, ()), ())
          else
            if decide ((x6.length : Int) > 30) then
              some ((false, ()), ())
            else
              if decide ((x7.length : Int) > 200) then
                some ((false, ()), ())
              else
                match world_Object_l4 n n (((), 0, ()), ((x1, x2, x3, x4, x5, x6, x7, ()), ())) with
                | some (.inl ((_, _), ((x8, x9, x10, x11, x12, x13, x14, _), _))) => (
                  match world_Object_l9 n n (((), 0, ()), ((x8, x9, x10, x11, x12, x13, x14, ()), ())) with
                  | some (.inl (_, _)) => (
                    some ((true, ()), ()))
                  | some (.inr (.inl ((x16, _), _))) => (
                    some ((x16, ()), ()))
                  | some (.inr (.inr (_))) => none
                  | none => none)
                | some (.inr (.inl ((x15, _), _))) => (
                  some ((x15, ()), ()))
                | some (.inr (.inr (_))) => none
                | none => none
def world_Object_H (n : Nat) : Hints := ⟨[], fun _ => [], fun k => match k with | 4 => some ⟨[1, 3], world_Object_l4_h, world_Object_l4_o, world_Object_l4 n⟩ | 9 => some ⟨[1, 4], world_Object_l9_h, world_Object_l9_o, world_Object_l9 n⟩ | _ => none, fun _ => none, fun _ => none, fun _ => 0⟩
def world_Object_O (n : Nat) : FuncId → List FSpec := asc []
def b5 : Code := bodyOf Tryd.f5
theorem world_Object_l4_k0 (n : Nat) : LoopOk P CC (world_Object_O n) n 0 79 (world_Object_H n) ⟨[1, 3], world_Object_l4_h, world_Object_l4_o, world_Object_l4 n⟩ ((loopsOf b5).getD 0 .skip) := by
  refine ⟨fun _ => by kernel_rfl, ?_⟩
  rintro k ⟨⟨⟨⟩, x1, ⟨⟩⟩, ⟨⟨x2, x3, x4, x5, x6, x7, x8, ⟨⟩⟩, ⟨⟩⟩⟩
  kernel_rfl
theorem world_Object_l9_k1 (n : Nat) : LoopOk P CC (world_Object_O n) n 0 79 (world_Object_H n) ⟨[1, 4], world_Object_l9_h, world_Object_l9_o, world_Object_l9 n⟩ ((loopsOf b5).getD 1 .skip) := by
  refine ⟨fun _ => by kernel_rfl, ?_⟩
  rintro k ⟨⟨⟨⟩, x1, ⟨⟩⟩, ⟨⟨x2, x3, x4, x5, x6, x7, x8, ⟨⟩⟩, ⟨⟩⟩⟩
  kernel_rfl
theorem world_Object_ok {S : Nat → Addr} (ok : CfgOk P CC S) : ∀ n, SpecOk P CC S 5 ⟨world_Object_ins, world_Object_outs, world_Object n⟩ :=
  fn_all ok (O := world_Object_O) (H := world_Object_H) (fn := Tryd.f5) (body := b5) (by kernel_rfl) (by kernel_rfl) (by kernel_rfl) (by decide) (by kernel_rfl)
    (fun x => by kernel_rfl) (fun n => by
      rintro ⟨⟨⟨x1, x2, x3, x4, x5, x6, x7, ⟨⟩⟩, ⟨⟩⟩, ⟨⟩⟩
      kernel_rfl)
    (fun n => obl_of (by kernel_rfl) (by kernel_rfl) (ls (ls (lz) (by kernel_rfl) (world_Object_l4_k0 n)) (by kernel_rfl) (world_Object_l9_k1 n)) (cn (cn (cn (cn (cn (cn (cn (cn (cn (cn (cn (cn (cn (cn (cn (cn (cn (cn (cn (cz) (by kernel_rfl)) (by kernel_rfl)) (by kernel_rfl)) (by kernel_rfl)) (by kernel_rfl)) (by kernel_rfl)) (by kernel_rfl)) (by kernel_rfl)) (by kernel_rfl)) (by kernel_rfl)) (by kernel_rfl)) (by kernel_rfl)) (by kernel_rfl)) (by kernel_rfl)) (by kernel_rfl)) (by kernel_rfl)) (by kernel_rfl)) (by kernel_rfl)) (by kernel_rfl)) (hn fun _ => rfl))
    (fun n ih => asc_nil)
/-! ### pendulum/code.fits$1 -/
abbrev code_fits_1_ins : Sh := ⟨[(.one (.val .str))], []⟩
abbrev code_fits_1_outs : List Sh := [⟨[(.one (.val .bool))], []⟩]
def code_fits_1 : Nat → code_fits_1_ins.T → Option (OutsT code_fits_1_outs)
  | 0, _ => none
  | n + 1, ((x1, _), _) =>
    some ((decide ((x1.size : Int) > 200), ()), ())
def code_fits_1_H (n : Nat) : Hints := ⟨[], fun _ => [], fun _ => none, fun _ => none, fun _ => none, fun _ => 0⟩
def code_fits_1_O (n : Nat) : FuncId → List FSpec := asc []
def b28 : Code := bodyOf Tryd.f28
theorem code_fits_1_ok {S : Nat → Addr} (ok : CfgOk P CC S) : ∀ n, SpecOk P CC S 28 ⟨code_fits_1_ins, code_fits_1_outs, code_fits_1 n⟩ :=
  fn_all ok (O := code_fits_1_O) (H := code_fits_1_H) (fn := Tryd.f28) (body := b28) (by kernel_rfl) (by kernel_rfl) (by kernel_rfl) (by decide) (by kernel_rfl)
    (fun x => by kernel_rfl) (fun n => by
      rintro ⟨⟨x1, ⟨⟩⟩, ⟨⟩⟩
      kernel_rfl)
    (fun n => obl_of (by kernel_rfl) (by kernel_rfl) (lz) (cn (cn (cz) (by kernel_rfl)) (by kernel_rfl)) (hn fun _ => rfl))
    (fun n ih => asc_nil)
/-! ### slices.IndexFunc[[]string,string] -/
abbrev slices_IndexFunc_string_string_ins : Sh := ⟨[(.one (.val ty8)), (.one (.fn 28 []))], []⟩
abbrev slices_IndexFunc_string_string_outs : List Sh := [⟨[(.one (.val (.int .i64)))], []⟩]
abbrev slices_IndexFunc_string_string_l2_h : Sh := ⟨[(.one (.val ty8)), (.one (.fn 28 [])), (.one (.val (.int .i64))), (.one (.val (.int .i64)))], []⟩
abbrev slices_IndexFunc_string_string_l2_o : List Out := [⟨(.exit 0), [], ⟨[], []⟩⟩, ⟨.ret, [4], ⟨[(.one (.val (.int .i64)))], []⟩⟩]
def slices_IndexFunc_string_string_l2 (n : Nat) : Nat → slices_IndexFunc_string_string_l2_h.T → Option (OutT slices_IndexFunc_string_string_l2_o)
  | 0, _ => none
  | k + 1, ((x1, _, x2, x3, _), _) =>
    if decide (x3 < x2) then
      if 0 ≤ x3 ∧ x3 < (x1.length : Int) then (
        match code_fits_1 n ((rdT (.str : Ty) x1 x3, ()), ()) with
        | some ((x4, _), _) => (
          if x4 then
            some (.inr (.inl ((x3, ()), ())))
          else
            let v5 : Int := IntKind.i64.wrap (x3 + 1)
            slices_IndexFunc_string_string_l2 n k ((x1, (), x2, v5, ()), ()))
        | none => none) else none
    else
      some (.inl ((), ()))
def slices_IndexFunc_string_string : Nat → slices_IndexFunc_string_string_ins.T → Option (OutsT slices_IndexFunc_string_string_outs)
  | 0, _ => none
  | n + 1, ((x1, _, _), _) =>
    match slices_IndexFunc_string_string_l2 n n ((x1, (), (x1.length : Int), 0, ()), ()) with
    | some (.inl (_, _)) => (
      some (((-1), ()), ()))
    | some (.inr (.inl ((x2, _), _))) => (
      some ((x2, ()), ()))
    | some (.inr (.inr (_))) => none
    | none => none
def slices_IndexFunc_string_string_H (n : Nat) : Hints := ⟨[], fun _ => [], fun k => match k with | 2 => some ⟨[0, 1, 7, 8], slices_IndexFunc_string_string_l2_h, slices_IndexFunc_string_string_l2_o, slices_IndexFunc_string_string_l2 n⟩ | _ => none, fun _ => none, fun _ => none, fun _ => 0⟩
def slices_IndexFunc_string_string_O (n : Nat) : FuncId → List FSpec := asc [(28, ⟨code_fits_1_ins, code_fits_1_outs, code_fits_1 n⟩)]
def b48 : Code := bodyOf Tryd.f48
theorem slices_IndexFunc_string_string_l2_k0 (n : Nat) : LoopOk P CC (slices_IndexFunc_string_string_O n) n 0 19 (slices_IndexFunc_string_string_H n) ⟨[0, 1, 7, 8], slices_IndexFunc_string_string_l2_h, slices_IndexFunc_string_string_l2_o, slices_IndexFunc_string_string_l2 n⟩ ((loopsOf b48).getD 0 .skip) := by
  refine ⟨fun _ => by kernel_rfl, ?_⟩
  rintro k ⟨⟨x1, ⟨⟩, x2, x3, ⟨⟩⟩, ⟨⟩⟩
  kernel_rfl
theorem slices_IndexFunc_string_string_ok {S : Nat → Addr} (ok : CfgOk P CC S) : ∀ n, SpecOk P CC S 48 ⟨slices_IndexFunc_string_string_ins, slices_IndexFunc_string_string_outs, slices_IndexFunc_string_string n⟩ :=
  fn_all ok (O := slices_IndexFunc_string_string_O) (H := slices_IndexFunc_string_string_H) (fn := Tryd.f48) (body := b48) (by kernel_rfl) (by kernel_rfl) (by kernel_rfl) (by decide) (by kernel_rfl)
    (fun x => by kernel_rfl) (fun n => by
      rintro ⟨⟨x1, ⟨⟩, ⟨⟩⟩, ⟨⟩⟩
      kernel_rfl)
    (fun n => obl_of (by kernel_rfl) (by kernel_rfl) (ls (lz) (by kernel_rfl) (slices_IndexFunc_string_string_l2_k0 n)) (cn (cn (cn (cn (cn (cn (cn (cn (cn (cn (cz) (by kernel_rfl)) (by kernel_rfl)) (by kernel_rfl)) (by kernel_rfl)) (by kernel_rfl)) (by kernel_rfl)) (by kernel_rfl)) (by kernel_rfl)) (by kernel_rfl)) (by kernel_rfl)) (hn fun _ => rfl))
    (fun n ih => asc_cons (code_fits_1_ok ok n) <| asc_nil)
/-! ### slices.ContainsFunc[[]string,string] -/
abbrev slices_ContainsFunc_string_string_ins : Sh := ⟨[(.one (.val ty8)), (.one (.fn 28 []))], []⟩
abbrev slices_ContainsFunc_string_string_outs : List Sh := [⟨[(.one (.val .bool))], []⟩]
def slices_ContainsFunc_string_string : Nat → slices_ContainsFunc_string_string_ins.T → Option (OutsT slices_ContainsFunc_string_string_outs)
  | 0, _ => none
  | n + 1, ((x1, _, _), _) =>
    match slices_IndexFunc_string_string n ((x1, (), ()), ()) with
    | some ((x2, _), _) => (
      some ((decide (x2 ≥ 0), ()), ()))
    | none => none
def slices_ContainsFunc_string_string_H (n : Nat) : Hints := ⟨[], fun _ => [], fun _ => none, fun _ => none, fun _ => none, fun _ => 0⟩
def slices_ContainsFunc_string_string_O (n : Nat) : FuncId → List FSpec := asc [(48, ⟨slices_IndexFunc_string_string_ins, slices_IndexFunc_string_string_outs, slices_IndexFunc_string_string n⟩)]
def b27 : Code := bodyOf Tryd.f27
theorem slices_ContainsFunc_string_string_ok {S : Nat → Addr} (ok : CfgOk P CC S) : ∀ n, SpecOk P CC S 27 ⟨slices_ContainsFunc_string_string_ins, slices_ContainsFunc_string_string_outs, slices_ContainsFunc_string_string n⟩ :=
  fn_all ok (O := slices_ContainsFunc_string_string_O) (H := slices_ContainsFunc_string_string_H) (fn := Tryd.f27) (body := b27) (by kernel_rfl) (by kernel_rfl) (by kernel_rfl) (by decide) (by kernel_rfl)
    (fun x => by kernel_rfl) (fun n => by
      rintro ⟨⟨x1, ⟨⟩, ⟨⟩⟩, ⟨⟩⟩
      kernel_rfl)
    (fun n => obl_of (by kernel_rfl) (by kernel_rfl) (lz) (cn (cn (cz) (by kernel_rfl)) (by kernel_rfl)) (hn fun _ => rfl))
    (fun n ih => asc_cons (slices_IndexFunc_string_string_ok ok n) <| asc_nil)
/-! ### slices.Grow[[]int,int] -/
abbrev slices_Grow_int_int_ins : Sh := ⟨[(.one (.emp true)), (.one (.val (.int .i64)))], []⟩
abbrev slices_Grow_int_int_outs : List Sh := [⟨[(.one (.arr 0))], [(.arr 3 (.int .i64))]⟩]
def slices_Grow_int_int : Nat → slices_Grow_int_int_ins.T → Option (OutsT slices_Grow_int_int_outs)
  | 0, _ => none
  | n + 1, ((_, x1, _), _) =>
    if decide (x1 < 0) then
      none
    else
      let v2 : Int := IntKind.i64.wrap (x1 - 0)
      if decide (v2 > 0) then
        if 0 ≤ (0 : Int) ∧ (0 : Int) ≤ (0 : Int) then (
          if 0 < v2 ∧ v2 * ((8 : Nat) : Int) ≤ 140737488355328 then (
            if 0 ≤ (0 : Int) ∧ (0 : Int) ≤ ((List.replicate (v2 : Int).toNat 0).length : Int) then (
              some (((), ()), (cutL (List.replicate (v2 : Int).toNat 0) 0 0, ()))) else none) else none) else none
      else
        some (((), ()), ([], ()))
def slices_Grow_int_int_H (n : Nat) : Hints := ⟨[25], fun _ => [], fun _ => none, fun _ => none, fun _ => none, fun _ => 0⟩
def slices_Grow_int_int_O (n : Nat) : FuncId → List FSpec := asc []
def b49 : Code := bodyOf Tryd.f49
theorem slices_Grow_int_int_ok {S : Nat → Addr} (ok : CfgOk P CC S) : ∀ n, SpecOk P CC S 49 ⟨slices_Grow_int_int_ins, slices_Grow_int_int_outs, slices_Grow_int_int n⟩ :=
  fn_all ok (O := slices_Grow_int_int_O) (H := slices_Grow_int_int_H) (fn := Tryd.f49) (body := b49) (by kernel_rfl) (by kernel_rfl) (by kernel_rfl) (by decide) (by kernel_rfl)
    (fun x => by kernel_rfl) (fun n => by
      rintro ⟨⟨⟨⟩, x1, ⟨⟩⟩, ⟨⟩⟩
      kernel_rfl)
    (fun n => obl_of (by kernel_rfl) (by kernel_rfl) (lz) (cn (cn (cn (cn (cn (cn (cn (cz) (by kernel_rfl)) (by kernel_rfl)) (by kernel_rfl)) (by kernel_rfl)) (by kernel_rfl)) (by kernel_rfl)) (by kernel_rfl)) (hn fun _ => rfl))
    (fun n ih => asc_nil)
/-! ### slices.Concat[[]int,int] -/
abbrev slices_Concat_int_int_ins : Sh := ⟨[(.one (.arr 0))], [(.arr 22 ty3)]⟩
abbrev slices_Concat_int_int_outs : List Sh := [⟨[(.one (.arr 1))], [(.arr 22 ty3), (.arr 3 (.int .i64))]⟩]
abbrev slices_Concat_int_int_l3_h : Sh := ⟨[(.one (.arr 0)), (.one (.val (.int .i64))), (.one (.arr 0)), (.one (.val (.int .i64))), (.one (.val (.int .i64)))], [(.arr 22 ty3)]⟩
abbrev slices_Concat_int_int_l3_o : List Out := [⟨(.exit 0), [0, 3], ⟨[(.one (.arr 0)), (.one (.val (.int .i64)))], [(.arr 22 ty3)]⟩⟩]
def slices_Concat_int_int_l3 (n : Nat) : Nat → slices_Concat_int_int_l3_h.T → Option (OutT slices_Concat_int_int_l3_o)
  | 0, _ => none
  | k + 1, ((_, x1, _, x2, x3, _), (l4, _)) =>
    if decide (x3 < x2) then
      if 0 ≤ x3 ∧ x3 < (l4.length : Int) then (
        let v5 : Int := IntKind.i64.wrap (x1 + ((rdT ty3 l4 x3).length : Int))
        if decide (v5 < 0) then
          none
        else
          let v6 : Int := IntKind.i64.wrap (x3 + 1)
          slices_Concat_int_int_l3 n k (((), v5, (), x2, v6, ()), (l4, ()))) else none
    else
      some (.inl (((), x1, ()), (l4, ())))
abbrev slices_Concat_int_int_l11_h : Sh := ⟨[(.one (.arr 1)), (.one (.arr 0)), (.one (.val (.int .i64))), (.one (.val (.int .i64)))], [(.arr 22 ty3), (.arr 3 (.int .i64))]⟩
abbrev slices_Concat_int_int_l11_o : List Out := [⟨(.exit 2), [6], ⟨[(.one (.arr 1))], [(.arr 22 ty3), (.arr 3 (.int .i64))]⟩⟩]
def slices_Concat_int_int_l11 (n : Nat) : Nat → slices_Concat_int_int_l11_h.T → Option (OutT slices_Concat_int_int_l11_o)
  | 0, _ => none
  | k + 1, ((_, _, x1, x2, _), (l3, l4, _)) =>
    if decide (x2 < x1) then
      if 0 ≤ x2 ∧ x2 < (l3.length : Int) then (
        if (l4.length + (rdT ty3 l3 x2).length) * 8 ≤ 140737488355328 then (
          let v5 : Int := IntKind.i64.wrap (x2 + 1)
          slices_Concat_int_int_l11 n k (((), (), x1, v5, ()), (l3, l4 ++ (rdT ty3 l3 x2), ()))) else none) else none
    else
      some (.inl (((), ()), (l3, l4, ())))
def slices_Concat_int_int : Nat → slices_Concat_int_int_ins.T → Option (OutsT slices_Concat_int_int_outs)
  | 0, _ => none
  | n + 1, ((_, _), (l1, _)) =>
    match slices_Concat_int_int_l3 n n (((), 0, (), (l1.length : Int), 0, ()), (l1, ())) with
    | some (.inl ((_, x2, _), (l3, _))) => (
      match slices_Grow_int_int n (((), x2, ()), ()) with
      | some ((_, _), (l4, _)) => (
        match slices_Concat_int_int_l11 n n (((), (), (l3.length : Int), 0, ()), (l3, l4, ())) with
        | some (.inl ((_, _), (l5, l6, _))) => (
          some (((), ()), (l5, l6, ())))
        | some (.inr (_)) => none
        | none => none)
      | none => none)
    | some (.inr (_)) => none
    | none => none
def slices_Concat_int_int_H (n : Nat) : Hints := ⟨[], fun _ => [], fun k => match k with | 3 => some ⟨[0, 3, 9, 10, 11], slices_Concat_int_int_l3_h, slices_Concat_int_int_l3_o, slices_Concat_int_int_l3 n⟩ | 11 => some ⟨[6, 25, 26, 27], slices_Concat_int_int_l11_h, slices_Concat_int_int_l11_o, slices_Concat_int_int_l11 n⟩ | _ => none, fun _ => none, fun _ => none, fun _ => 0⟩
def slices_Concat_int_int_O (n : Nat) : FuncId → List FSpec := asc [(49, ⟨slices_Grow_int_int_ins, slices_Grow_int_int_outs, slices_Grow_int_int n⟩)]
def b29 : Code := bodyOf Tryd.f29
theorem slices_Concat_int_int_l3_k0 (n : Nat) : LoopOk P CC (slices_Concat_int_int_O n) n 1 36 (slices_Concat_int_int_H n) ⟨[0, 3, 9, 10, 11], slices_Concat_int_int_l3_h, slices_Concat_int_int_l3_o, slices_Concat_int_int_l3 n⟩ ((loopsOf b29).getD 0 .skip) := by
  refine ⟨fun _ => by kernel_rfl, ?_⟩
  rintro k ⟨⟨⟨⟩, x1, ⟨⟩, x2, x3, ⟨⟩⟩, ⟨x4, ⟨⟩⟩⟩
  kernel_rfl
theorem slices_Concat_int_int_l11_k1 (n : Nat) : LoopOk P CC (slices_Concat_int_int_O n) n 1 36 (slices_Concat_int_int_H n) ⟨[6, 25, 26, 27], slices_Concat_int_int_l11_h, slices_Concat_int_int_l11_o, slices_Concat_int_int_l11 n⟩ ((loopsOf b29).getD 1 .skip) := by
  refine ⟨fun _ => by kernel_rfl, ?_⟩
  rintro k ⟨⟨⟨⟩, ⟨⟩, x1, x2, ⟨⟩⟩, ⟨x3, x4, ⟨⟩⟩⟩
  kernel_rfl
theorem slices_Concat_int_int_ok {S : Nat → Addr} (ok : CfgOk P CC S) : ∀ n, SpecOk P CC S 29 ⟨slices_Concat_int_int_ins, slices_Concat_int_int_outs, slices_Concat_int_int n⟩ :=
  fn_all ok (O := slices_Concat_int_int_O) (H := slices_Concat_int_int_H) (fn := Tryd.f29) (body := b29) (by kernel_rfl) (by kernel_rfl) (by kernel_rfl) (by decide) (by kernel_rfl)
    (fun x => by kernel_rfl) (fun n => by
      rintro ⟨⟨⟨⟩, ⟨⟩⟩, ⟨x1, ⟨⟩⟩⟩
      kernel_rfl)
    (fun n => obl_of (by kernel_rfl) (by kernel_rfl) (ls (ls (lz) (by kernel_rfl) (slices_Concat_int_int_l3_k0 n)) (by kernel_rfl) (slices_Concat_int_int_l11_k1 n)) (cn (cn (cn (cn (cn (cn (cn (cn (cn (cn (cn (cn (cn (cn (cn (cn (cn (cn (cz) (by kernel_rfl)) (by kernel_rfl)) (by kernel_rfl)) (by kernel_rfl)) (by kernel_rfl)) (by kernel_rfl)) (by kernel_rfl)) (by kernel_rfl)) (by kernel_rfl)) (by kernel_rfl)) (by kernel_rfl)) (by kernel_rfl)) (by kernel_rfl)) (by kernel_rfl)) (by kernel_rfl)) (by kernel_rfl)) (by kernel_rfl)) (by kernel_rfl)) (hn fun _ => rfl))
    (fun n ih => asc_cons (slices_Grow_int_int_ok ok n) <| asc_nil)
/-! ### pendulum/code.fits$2 -/
abbrev code_fits_2_ins : Sh := ⟨[(.one (.val (.int .i64)))], []⟩
abbrev code_fits_2_outs : List Sh := [⟨[(.one (.val .bool))], []⟩]
def code_fits_2 : Nat → code_fits_2_ins.T → Option (OutsT code_fits_2_outs)
  | 0, _ => none
  | n + 1, ((x1, _), _) =>
    if x1 != 1 then
      some ((x1 != 2, ()), ())
    else
      some ((false, ()), ())
def code_fits_2_H (n : Nat) : Hints := ⟨[], fun _ => [], fun _ => none, fun _ => none, fun _ => none, fun _ => 0⟩
def code_fits_2_O (n : Nat) : FuncId → List FSpec := asc []
def b31 : Code := bodyOf Tryd.f31
theorem code_fits_2_ok {S : Nat → Addr} (ok : CfgOk P CC S) : ∀ n, SpecOk P CC S 31 ⟨code_fits_2_ins, code_fits_2_outs, code_fits_2 n⟩ :=
  fn_all ok (O := code_fits_2_O) (H := code_fits_2_H) (fn := Tryd.f31) (body := b31) (by kernel_rfl) (by kernel_rfl) (by kernel_rfl) (by decide) (by kernel_rfl)
    (fun x => by kernel_rfl) (fun n => by
      rintro ⟨⟨x1, ⟨⟩⟩, ⟨⟩⟩
      kernel_rfl)
    (fun n => obl_of (by kernel_rfl) (by kernel_rfl) (lz) (cn (cn (cz) (by kernel_rfl)) (by kernel_rfl)) (hn fun _ => rfl))
    (fun n ih => asc_nil)
/-! ### slices.IndexFunc[[]int,int] -/
abbrev slices_IndexFunc_int_int_ins : Sh := ⟨[(.one (.val ty3)), (.one (.fn 31 []))], []⟩
abbrev slices_IndexFunc_int_int_outs : List Sh := [⟨[(.one (.val (.int .i64)))], []⟩]
abbrev slices_IndexFunc_int_int_l2_h : Sh := ⟨[(.one (.val ty3)), (.one (.fn 31 [])), (.one (.val (.int .i64))), (.one (.val (.int .i64)))], []⟩
abbrev slices_IndexFunc_int_int_l2_o : List Out := [⟨(.exit 0), [], ⟨[], []⟩⟩, ⟨.ret, [4], ⟨[(.one (.val (.int .i64)))], []⟩⟩]
def slices_IndexFunc_int_int_l2 (n : Nat) : Nat → slices_IndexFunc_int_int_l2_h.T → Option (OutT slices_IndexFunc_int_int_l2_o)
  | 0, _ => none
  | k + 1, ((x1, _, x2, x3, _), _) =>
    if decide (x3 < x2) then
      if 0 ≤ x3 ∧ x3 < (x1.length : Int) then (
        let v4 : Int := rdT ((.int .i64) : Ty) x1 x3
        match code_fits_2 n ((v4, ()), ()) with
        | some ((x5, _), _) => (
          if x5 then
            some (.inr (.inl ((x3, ()), ())))
          else
            let v6 : Int := IntKind.i64.wrap (x3 + 1)
            slices_IndexFunc_int_int_l2 n k ((x1, (), x2, v6, ()), ()))
        | none => none) else none
    else
      some (.inl ((), ()))
def slices_IndexFunc_int_int : Nat → slices_IndexFunc_int_int_ins.T → Option (OutsT slices_IndexFunc_int_int_outs)
  | 0, _ => none
  | n + 1, ((x1, _, _), _) =>
    match slices_IndexFunc_int_int_l2 n n ((x1, (), (x1.length : Int), 0, ()), ()) with
    | some (.inl (_, _)) => (
      some (((-1), ()), ()))
    | some (.inr (.inl ((x2, _), _))) => (
      some ((x2, ()), ()))
    | some (.inr (.inr (_))) => none
    | none => none
def slices_IndexFunc_int_int_H (n : Nat) : Hints := ⟨[], fun _ => [], fun k => match k with | 2 => some ⟨[0, 1, 7, 8], slices_IndexFunc_int_int_l2_h, slices_IndexFunc_int_int_l2_o, slices_IndexFunc_int_int_l2 n⟩ | _ => none, fun _ => none, fun _ => none, fun _ => 0⟩
def slices_IndexFunc_int_int_O (n : Nat) : FuncId → List FSpec := asc [(31, ⟨code_fits_2_ins, code_fits_2_outs, code_fits_2 n⟩)]
def b50 : Code := bodyOf Tryd.f50
theorem slices_IndexFunc_int_int_l2_k0 (n : Nat) : LoopOk P CC (slices_IndexFunc_int_int_O n) n 0 19 (slices_IndexFunc_int_int_H n) ⟨[0, 1, 7, 8], slices_IndexFunc_int_int_l2_h, slices_IndexFunc_int_int_l2_o, slices_IndexFunc_int_int_l2 n⟩ ((loopsOf b50).getD 0 .skip) := by
  refine ⟨fun _ => by kernel_rfl, ?_⟩
  rintro k ⟨⟨x1, ⟨⟩, x2, x3, ⟨⟩⟩, ⟨⟩⟩
  kernel_rfl
theorem slices_IndexFunc_int_int_ok {S : Nat → Addr} (ok : CfgOk P CC S) : ∀ n, SpecOk P CC S 50 ⟨slices_IndexFunc_int_int_ins, slices_IndexFunc_int_int_outs, slices_IndexFunc_int_int n⟩ :=
  fn_all ok (O := slices_IndexFunc_int_int_O) (H := slices_IndexFunc_int_int_H) (fn := Tryd.f50) (body := b50) (by kernel_rfl) (by kernel_rfl) (by kernel_rfl) (by decide) (by kernel_rfl)
    (fun x => by kernel_rfl) (fun n => by
      rintro ⟨⟨x1, ⟨⟩, ⟨⟩⟩, ⟨⟩⟩
      kernel_rfl)
    (fun n => obl_of (by kernel_rfl) (by kernel_rfl) (ls (lz) (by kernel_rfl) (slices_IndexFunc_int_int_l2_k0 n)) (cn (cn (cn (cn (cn (cn (cn (cn (cn (cn (cz) (by kernel_rfl)) (by kernel_rfl)) (by kernel_rfl)) (by kernel_rfl)) (by kernel_rfl)) (by kernel_rfl)) (by kernel_rfl)) (by kernel_rfl)) (by kernel_rfl)) (by kernel_rfl)) (hn fun _ => rfl))
    (fun n ih => asc_cons (code_fits_2_ok ok n) <| asc_nil)
/-! ### slices.ContainsFunc[[]int,int] -/
abbrev slices_ContainsFunc_int_int_ins : Sh := ⟨[(.one (.val ty3)), (.one (.fn 31 []))], []⟩
abbrev slices_ContainsFunc_int_int_outs : List Sh := [⟨[(.one (.val .bool))], []⟩]
def slices_ContainsFunc_int_int : Nat → slices_ContainsFunc_int_int_ins.T → Option (OutsT slices_ContainsFunc_int_int_outs)
  | 0, _ => none
  | n + 1, ((x1, _, _), _) =>
    match slices_IndexFunc_int_int n ((x1, (), ()), ()) with
    | some ((x2, _), _) => (
      some ((decide (x2 ≥ 0), ()), ()))
    | none => none
def slices_ContainsFunc_int_int_H (n : Nat) : Hints := ⟨[], fun _ => [], fun _ => none, fun _ => none, fun _ => none, fun _ => 0⟩
def slices_ContainsFunc_int_int_O (n : Nat) : FuncId → List FSpec := asc [(50, ⟨slices_IndexFunc_int_int_ins, slices_IndexFunc_int_int_outs, slices_IndexFunc_int_int n⟩)]
def b30 : Code := bodyOf Tryd.f30
theorem slices_ContainsFunc_int_int_ok {S : Nat → Addr} (ok : CfgOk P CC S) : ∀ n, SpecOk P CC S 30 ⟨slices_ContainsFunc_int_int_ins, slices_ContainsFunc_int_int_outs, slices_ContainsFunc_int_int n⟩ :=
  fn_all ok (O := slices_ContainsFunc_int_int_O) (H := slices_ContainsFunc_int_int_H) (fn := Tryd.f30) (body := b30) (by kernel_rfl) (by kernel_rfl) (by kernel_rfl) (by decide) (by kernel_rfl)
    (fun x => by kernel_rfl) (fun n => by
      rintro ⟨⟨x1, ⟨⟩, ⟨⟩⟩, ⟨⟩⟩
      kernel_rfl)
    (fun n => obl_of (by kernel_rfl) (by kernel_rfl) (lz) (cn (cn (cz) (by kernel_rfl)) (by kernel_rfl)) (hn fun _ => rfl))
    (fun n ih => asc_cons (slices_IndexFunc_int_int_ok ok n) <| asc_nil)
/-! ### pendulum/code.fits$3 -/
abbrev code_fits_3_ins : Sh := ⟨[(.one (.val (.int .i64)))], []⟩
abbrev code_fits_3_outs : List Sh := [⟨[(.one (.val .bool))], []⟩]
def code_fits_3 : Nat → code_fits_3_ins.T → Option (OutsT code_fits_3_outs)
  | 0, _ => none
  | n + 1, ((x1, _), _) =>
    if decide (x1 < (-1)) then
      some ((true, ()), ())
    else
      some ((decide (x1 > 1048576), ()), ())
def code_fits_3_H (n : Nat) : Hints := ⟨[], fun _ => [], fun _ => none, fun _ => none, fun _ => none, fun _ => 0⟩
def code_fits_3_O (n : Nat) : FuncId → List FSpec := asc []
def b32 : Code := bodyOf Tryd.f32
theorem code_fits_3_ok {S : Nat → Addr} (ok : CfgOk P CC S) : ∀ n, SpecOk P CC S 32 ⟨code_fits_3_ins, code_fits_3_outs, code_fits_3 n⟩ :=
  fn_all ok (O := code_fits_3_O) (H := code_fits_3_H) (fn := Tryd.f32) (body := b32) (by kernel_rfl) (by kernel_rfl) (by kernel_rfl) (by decide) (by kernel_rfl)
    (fun x => by kernel_rfl) (fun n => by
      rintro ⟨⟨x1, ⟨⟩⟩, ⟨⟩⟩
      kernel_rfl)
    (fun n => obl_of (by kernel_rfl) (by kernel_rfl) (lz) (cn (cn (cz) (by kernel_rfl)) (by kernel_rfl)) (hn fun _ => rfl))
    (fun n ih => asc_nil)
/-! ### slices.IndexFunc[[]int,int] -/
abbrev slices_IndexFunc_int_int_2_ins : Sh := ⟨[(.one (.val ty3)), (.one (.fn 32 []))], []⟩
abbrev slices_IndexFunc_int_int_2_outs : List Sh := [⟨[(.one (.val (.int .i64)))], []⟩]
abbrev slices_IndexFunc_int_int_2_l2_h : Sh := ⟨[(.one (.val ty3)), (.one (.fn 32 [])), (.one (.val (.int .i64))), (.one (.val (.int .i64)))], []⟩
abbrev slices_IndexFunc_int_int_2_l2_o : List Out := [⟨(.exit 0), [], ⟨[], []⟩⟩, ⟨.ret, [4], ⟨[(.one (.val (.int .i64)))], []⟩⟩]
def slices_IndexFunc_int_int_2_l2 (n : Nat) : Nat → slices_IndexFunc_int_int_2_l2_h.T → Option (OutT slices_IndexFunc_int_int_2_l2_o)
  | 0, _ => none
  | k + 1, ((x1, _, x2, x3, _), _) =>
    if decide (x3 < x2) then
      if 0 ≤ x3 ∧ x3 < (x1.length : Int) then (
        let v4 : Int := rdT ((.int .i64) : Ty) x1 x3
        match code_fits_3 n ((v4, ()), ()) with
        | some ((x5, _), _) => (
          if x5 then
            some (.inr (.inl ((x3, ()), ())))
          else
            let v6 : Int := IntKind.i64.wrap (x3 + 1)
            slices_IndexFunc_int_int_2_l2 n k ((x1, (), x2, v6, ()), ()))
        | none => none) else none
    else
      some (.inl ((), ()))
def slices_IndexFunc_int_int_2 : Nat → slices_IndexFunc_int_int_2_ins.T → Option (OutsT slices_IndexFunc_int_int_2_outs)
  | 0, _ => none
  | n + 1, ((x1, _, _), _) =>
    match slices_IndexFunc_int_int_2_l2 n n ((x1, (), (x1.length : Int), 0, ()), ()) with
    | some (.inl (_, _)) => (
      some (((-1), ()), ()))
    | some (.inr (.inl ((x2, _), _))) => (
      some ((x2, ()), ()))
    | some (.inr (.inr (_))) => none
    | none => none
def slices_IndexFunc_int_int_2_H (n : Nat) : Hints := ⟨[], fun _ => [], fun k => match k with | 2 => some ⟨[0, 1, 7, 8], slices_IndexFunc_int_int_2_l2_h, slices_IndexFunc_int_int_2_l2_o, slices_IndexFunc_int_int_2_l2 n⟩ | _ => none, fun _ => none, fun _ => none, fun _ => 0⟩
def slices_IndexFunc_int_int_2_O (n : Nat) : FuncId → List FSpec := asc [(32, ⟨code_fits_3_ins, code_fits_3_outs, code_fits_3 n⟩)]
theorem slices_IndexFunc_int_int_2_l2_k0 (n : Nat) : LoopOk P CC (slices_IndexFunc_int_int_2_O n) n 0 19 (slices_IndexFunc_int_int_2_H n) ⟨[0, 1, 7, 8], slices_IndexFunc_int_int_2_l2_h, slices_IndexFunc_int_int_2_l2_o, slices_IndexFunc_int_int_2_l2 n⟩ ((loopsOf b50).getD 0 .skip) := by
  refine ⟨fun _ => by kernel_rfl, ?_⟩
  rintro k ⟨⟨x1, ⟨⟩, x2, x3, ⟨⟩⟩, ⟨⟩⟩
  kernel_rfl
theorem slices_IndexFunc_int_int_2_ok {S : Nat → Addr} (ok : CfgOk P CC S) : ∀ n, SpecOk P CC S 50 ⟨slices_IndexFunc_int_int_2_ins, slices_IndexFunc_int_int_2_outs, slices_IndexFunc_int_int_2 n⟩ :=
  fn_all ok (O := slices_IndexFunc_int_int_2_O) (H := slices_IndexFunc_int_int_2_H) (fn := Tryd.f50) (body := b50) (by kernel_rfl) (by kernel_rfl) (by kernel_rfl) (by decide) (by kernel_rfl)
    (fun x => by kernel_rfl) (fun n => by
      rintro ⟨⟨x1, ⟨⟩, ⟨⟩⟩, ⟨⟩⟩
      kernel_rfl)
    (fun n => obl_of (by kernel_rfl) (by kernel_rfl) (ls (lz) (by kernel_rfl) (slices_IndexFunc_int_int_2_l2_k0 n)) (cn (cn (cn (cn (cn (cn (cn (cn (cn (cn (cz) (by kernel_rfl)) (by kernel_rfl)) (by kernel_rfl)) (by kernel_rfl)) (by kernel_rfl)) (by kernel_rfl)) (by kernel_rfl)) (by kernel_rfl)) (by kernel_rfl)) (by kernel_rfl)) (hn fun _ => rfl))
    (fun n ih => asc_cons (code_fits_3_ok ok n) <| asc_nil)
/-! ### slices.ContainsFunc[[]int,int] -/
abbrev slices_ContainsFunc_int_int_2_ins : Sh := ⟨[(.one (.val ty3)), (.one (.fn 32 []))], []⟩
abbrev slices_ContainsFunc_int_int_2_outs : List Sh := [⟨[(.one (.val .bool))], []⟩]
def slices_ContainsFunc_int_int_2 : Nat → slices_ContainsFunc_int_int_2_ins.T → Option (OutsT slices_ContainsFunc_int_int_2_outs)
  | 0, _ => none
  | n + 1, ((x1, _, _), _) =>
    match slices_IndexFunc_int_int_2 n ((x1, (), ()), ()) with
    | some ((x2, _), _) => (
      some ((decide (x2 ≥ 0), ()), ()))
    | none => none
def slices_ContainsFunc_int_int_2_H (n : Nat) : Hints := ⟨[], fun _ => [], fun _ => none, fun _ => none, fun _ => none, fun _ => 0⟩
def slices_ContainsFunc_int_int_2_O (n : Nat) : FuncId → List FSpec := asc [(50, ⟨slices_IndexFunc_int_int_2_ins, slices_IndexFunc_int_int_2_outs, slices_IndexFunc_int_int_2 n⟩)]
theorem slices_ContainsFunc_int_int_2_ok {S : Nat → Addr} (ok : CfgOk P CC S) : ∀ n, SpecOk P CC S 30 ⟨slices_ContainsFunc_int_int_2_ins, slices_ContainsFunc_int_int_2_outs, slices_ContainsFunc_int_int_2 n⟩ :=
  fn_all ok (O := slices_ContainsFunc_int_int_2_O) (H := slices_ContainsFunc_int_int_2_H) (fn := Tryd.f30) (body := b30) (by kernel_rfl) (by kernel_rfl) (by kernel_rfl) (by decide) (by kernel_rfl)
    (fun x => by kernel_rfl) (fun n => by
      rintro ⟨⟨x1, ⟨⟩, ⟨⟩⟩, ⟨⟩⟩
      kernel_rfl)
    (fun n => obl_of (by kernel_rfl) (by kernel_rfl) (lz) (cn (cn (cz) (by kernel_rfl)) (by kernel_rfl)) (hn fun _ => rfl))
    (fun n ih => asc_cons (slices_IndexFunc_int_int_2_ok ok n) <| asc_nil)
/-! ### pendulum/code.fits -/
abbrev code_fits_ins : Sh := ⟨[(.agg [(.val .str), (.val ty3), (.val ty3), (.val (.int .i64)), (.val ty9), (.val ty10), (.val ty11)])], []⟩
abbrev code_fits_outs : List Sh := [⟨[(.one (.val .err))], []⟩]
abbrev code_fits_l3_h : Sh := ⟨[(.one (.ptr 0 0)), (.one (.arr 1)), (.one (.val ty9)), (.one (.val (.int .i64))), (.one (.val (.int .i64)))], [(.obj 27 [(.val .str), (.val ty3), (.val ty3), (.val (.int .i64)), (.val ty9), (.val ty10), (.val ty11)]), (.arr 9 .str)]⟩
abbrev code_fits_l3_o : List Out := [⟨(.exit 0), [1, 3], ⟨[(.one (.ptr 0 0)), (.one (.arr 1))], [(.obj 27 [(.val .str), (.val ty3), (.val ty3), (.val (.int .i64)), (.val ty9), (.val ty10), (.val ty11)]), (.arr 9 .str)]⟩⟩]
def code_fits_l3 (n : Nat) : Nat → code_fits_l3_h.T → Option (OutT code_fits_l3_o)
  | 0, _ => none
  | k + 1, ((_, _, x1, x2, x3, _), ((x4, x5, x6, x7, x8, x9, x10, _), l11, _)) =>
    if decide (x3 < x2) then
      if 0 ≤ x3 ∧ x3 < (x1.length : Int) then (
        if (l11.length + ([(rdT ty0 x1 x3).1] : List (.str : Ty).T).length) * 16 ≤ 140737488355328 then (
          let v12 : Int := IntKind.i64.wrap (x3 + 1)
          code_fits_l3 n k (((), (), x1, x2, v12, ()), ((x4, x5, x6, x7, x8, x9, x10, ()), l11 ++ [(rdT ty0 x1 x3).1], ()))) else none) else none
    else
      some (.inl (((), (), ()), ((x4, x5, x6, x7, x8, x9, x10, ()), l11, ())))
abbrev code_fits_l8_h : Sh := ⟨[(.one (.ptr 0 0)), (.one (.arr 1)), (.one (.val ty10)), (.one (.val (.int .i64))), (.one (.val (.int .i64)))], [(.obj 27 [(.val .str), (.val ty3), (.val ty3), (.val (.int .i64)), (.val ty9), (.val ty10), (.val ty11)]), (.arr 9 .str)]⟩
abbrev code_fits_l8_o : List Out := [⟨(.exit 2), [1, 3], ⟨[(.one (.ptr 0 0)), (.one (.arr 1))], [(.obj 27 [(.val .str), (.val ty3), (.val ty3), (.val (.int .i64)), (.val ty9), (.val ty10), (.val ty11)]), (.arr 9 .str)]⟩⟩]
def code_fits_l8 (n : Nat) : Nat → code_fits_l8_h.T → Option (OutT code_fits_l8_o)
  | 0, _ => none
  | k + 1, ((_, _, x1, x2, x3, _), ((x4, x5, x6, x7, x8, x9, x10, _), l11, _)) =>
    if decide (x3 < x2) then
      if 0 ≤ x3 ∧ x3 < (x1.length : Int) then (
        if (l11.length + ([(rdT ty2 x1 x3).1, (rdT ty2 x1 x3).2] : List (.str : Ty).T).length) * 16 ≤ 140737488355328 then (
          let v12 : Int := IntKind.i64.wrap (x3 + 1)
          code_fits_l8 n k (((), (), x1, x2, v12, ()), ((x4, x5, x6, x7, x8, x9, x10, ()), l11 ++ [(rdT ty2 x1 x3).1, (rdT ty2 x1 x3).2], ()))) else none) else none
    else
      some (.inl (((), (), ()), ((x4, x5, x6, x7, x8, x9, x10, ()), l11, ())))
abbrev code_fits_l18_h : Sh := ⟨[(.one (.ptr 0 0)), (.one (.arr 1)), (.one (.val ty9)), (.one (.val (.int .i64))), (.one (.val (.int .i64)))], [(.obj 27 [(.val .str), (.val ty3), (.val ty3), (.val (.int .i64)), (.val ty9), (.val ty10), (.val ty11)]), (.arr 3 (.int .i64))]⟩
abbrev code_fits_l18_o : List Out := [⟨(.exit 4), [1, 8], ⟨[(.one (.ptr 0 0)), (.one (.arr 1))], [(.obj 27 [(.val .str), (.val ty3), (.val ty3), (.val (.int .i64)), (.val ty9), (.val ty10), (.val ty11)]), (.arr 3 (.int .i64))]⟩⟩]
def code_fits_l18 (n : Nat) : Nat → code_fits_l18_h.T → Option (OutT code_fits_l18_o)
  | 0, _ => none
  | k + 1, ((_, _, x1, x2, x3, _), ((x4, x5, x6, x7, x8, x9, x10, _), l11, _)) =>
    if decide (x3 < x2) then
      if 0 ≤ x3 ∧ x3 < (x1.length : Int) then (
        if (l11.length + ([((rdT ty0 x1 x3).2).1] : List ((.int .i64) : Ty).T).length) * 8 ≤ 140737488355328 then (
          let v12 : Int := IntKind.i64.wrap (x3 + 1)
          code_fits_l18 n k (((), (), x1, x2, v12, ()), ((x4, x5, x6, x7, x8, x9, x10, ()), l11 ++ [((rdT ty0 x1 x3).2).1], ()))) else none) else none
    else
      some (.inl (((), (), ()), ((x4, x5, x6, x7, x8, x9, x10, ()), l11, ())))
abbrev code_fits_l25_h : Sh := ⟨[(.one (.val ty11)), (.one (.val (.int .i64))), (.one (.val (.int .i64)))], []⟩
abbrev code_fits_l25_o : List Out := [⟨(.exit 6), [], ⟨[], []⟩⟩, ⟨.ret, [2], ⟨[(.one (.val .err))], []⟩⟩]
def code_fits_l25 (n : Nat) : Nat → code_fits_l25_h.T → Option (OutT code_fits_l25_o)
  | 0, _ => none
  | k + 1, ((x1, x2, x3, _), _) =>
    if decide (x3 < x2) then
      if 0 ≤ x3 ∧ x3 < (x1.length : Int) then (
        if decide ((rdT ty4 x1 x3).1 < 1) then
          some (.inr (.inl ((ErrV.sent 104, ()), ())))
        else
          if decide ((rdT ty4 x1 x3).1 > 12) then
            some (.inr (.inl ((ErrV.sent 104, ()), ())))
          else
            match slices_ContainsFunc_int_int_2 n (([((rdT ty4 x1 x3).2).1, (((rdT ty4 x1 x3).2).2).1, ((((rdT ty4 x1 x3).2).2).2).1, (((((rdT ty4 x1 x3).2).2).2).2).1], (), ()), ()) with
            | some ((x4, _), _) => (
              if x4 then
                some (.inr (.inl ((ErrV.sent 104, ()), ())))
              else
                let v5 : Int := IntKind.i64.wrap (x3 + 1)
                code_fits_l25 n k ((x1, x2, v5, ()), ()))
            | none => none) else none
    else
      some (.inl ((), ()))
def code_fits : Nat → code_fits_ins.T → Option (OutsT code_fits_outs)
  | 0, _ => none
  | n + 1, (((x1, x2, x3, x4, x5, x6, x7, _), _), _) =>
    match code_fits_l3 n n (((), (), x5, (x5.length : Int), 0, ()), ((x1, x2, x3, x4, x5, x6, x7, ()), [x1], ())) with
    | some (.inl ((_, _, _), ((x8, x9, x10, x11, x12, x13, x14, _), l15, _))) => (
      match code_fits_l8 n n (((), (), x13, (x13.length : Int), 0, ()), ((x8, x9, x10, x11, x12, x13, x14, ()), l15, ())) with
      | some (.inl ((_, _, _), ((x16, x17, x18, x19, x20, x21, x22, _), l23, _))) => (
        match slices_ContainsFunc_string_string n ((l23, (), ()), ()) with
        | some ((x24, _), _) => (
          if x24 then
            some ((ErrV.sent 109, ()), ())
          else
            if decide ((x17.length : Int) > 64) then
              some ((ErrV.sent 103, ()), ())
            else
              if decide ((x18.length : Int) > 64) then
                some ((ErrV.sent 103, ()), ())
              else
                if decide ((x20.length : Int) > 1024) then
                  some ((ErrV.sent 103, ()), ())
                else
                  if decide ((x21.length : Int) > 256) then
                    some ((ErrV.sent 103, ()), ())
                  else
                    if decide ((x22.length : Int) > 4096) then
                      some ((ErrV.sent 103, ()), ())
                    else
                      match slices_Concat_int_int n (((), ()), ([x17, x18], ())) with
                      | some ((_, _), (l25, l26, _)) => (
                        match code_fits_l18 n n (((), (), x20, (x20.length : Int), 0, ()), ((x16, x17, x18, x19, x20, x21, x22, ()), l26, ())) with
                        | some (.inl ((_, _, _), ((x27, x28, x29, x30, x31, x32, x33, _), l34, _))) => (
                          if decide (x30 < 0) then
                            some ((ErrV.sent 104, ()), ())
                          else
                            if decide (x30 > 1024) then
                              some ((ErrV.sent 104, ()), ())
                            else
                              match slices_ContainsFunc_int_int n ((l34, (), ()), ()) with
                              | some ((x35, _), _) => (
                                if x35 then
                                  some ((ErrV.sent 104, ()), ())
                                else
                                  match code_fits_l25 n n ((x33, (x33.length : Int), 0, ()), ()) with
                                  | some (.inl (_, _)) => (
                                    some ((ErrV.nil, ()), ()))
                                  | some (.inr (.inl ((x36, _), _))) => (
                                    some ((x36, ()), ()))
                                  | some (.inr (.inr (_))) => none
                                  | none => none)
                              | none => none)
                        | some (.inr (_)) => none
                        | none => none)
                      | none => none)
        | none => none)
      | some (.inr (_)) => none
      | none => none)
    | some (.inr (_)) => none
    | none => none
def code_fits_H (n : Nat) : Hints := ⟨[], fun _ => [], fun k => match k with | 3 => some ⟨[1, 3, 17, 18, 19], code_fits_l3_h, code_fits_l3_o, code_fits_l3 n⟩ | 8 => some ⟨[1, 3, 30, 31, 32], code_fits_l8_h, code_fits_l8_o, code_fits_l8 n⟩ | 18 => some ⟨[1, 8, 83, 84, 85], code_fits_l18_h, code_fits_l18_o, code_fits_l18 n⟩ | 25 => some ⟨[109, 110, 111], code_fits_l25_h, code_fits_l25_o, code_fits_l25 n⟩ | _ => none, fun _ => none, fun _ => none, fun _ => 0⟩
def code_fits_O (n : Nat) : FuncId → List FSpec := asc [(27, ⟨slices_ContainsFunc_string_string_ins, slices_ContainsFunc_string_string_outs, slices_ContainsFunc_string_string n⟩), (29, ⟨slices_Concat_int_int_ins, slices_Concat_int_int_outs, slices_Concat_int_int n⟩), (30, ⟨slices_ContainsFunc_int_int_ins, slices_ContainsFunc_int_int_outs, slices_ContainsFunc_int_int n⟩), (30, ⟨slices_ContainsFunc_int_int_2_ins, slices_ContainsFunc_int_int_2_outs, slices_ContainsFunc_int_int_2 n⟩)]
def b12 : Code := bodyOf Tryd.f12
theorem code_fits_l3_k0 (n : Nat) : LoopOk P CC (code_fits_O n) n 0 137 (code_fits_H n) ⟨[1, 3, 17, 18, 19], code_fits_l3_h, code_fits_l3_o, code_fits_l3 n⟩ ((loopsOf b12).getD 0 .skip) := by
  refine ⟨fun _ => by kernel_rfl, ?_⟩
  rintro k ⟨⟨⟨⟩, ⟨⟩, x1, x2, x3, ⟨⟩⟩, ⟨⟨x4, x5, x6, x7, x8, x9, x10, ⟨⟩⟩, x11, ⟨⟩⟩⟩
  kernel_rfl
theorem code_fits_l8_k1 (n : Nat) : LoopOk P CC (code_fits_O n) n 0 137 (code_fits_H n) ⟨[1, 3, 30, 31, 32], code_fits_l8_h, code_fits_l8_o, code_fits_l8 n⟩ ((loopsOf b12).getD 1 .skip) := by
  refine ⟨fun _ => by kernel_rfl, ?_⟩
  rintro k ⟨⟨⟨⟩, ⟨⟩, x1, x2, x3, ⟨⟩⟩, ⟨⟨x4, x5, x6, x7, x8, x9, x10, ⟨⟩⟩, x11, ⟨⟩⟩⟩
  kernel_rfl
theorem code_fits_l18_k2 (n : Nat) : LoopOk P CC (code_fits_O n) n 0 137 (code_fits_H n) ⟨[1, 8, 83, 84, 85], code_fits_l18_h, code_fits_l18_o, code_fits_l18 n⟩ ((loopsOf b12).getD 2 .skip) := by
  refine ⟨fun _ => by kernel_rfl, ?_⟩
  rintro k ⟨⟨⟨⟩, ⟨⟩, x1, x2, x3, ⟨⟩⟩, ⟨⟨x4, x5, x6, x7, x8, x9, x10, ⟨⟩⟩, x11, ⟨⟩⟩⟩
  kernel_rfl
theorem code_fits_l25_k3 (n : Nat) : LoopOk P CC (code_fits_O n) n 0 137 (code_fits_H n) ⟨[109, 110, 111], code_fits_l25_h, code_fits_l25_o, code_fits_l25 n⟩ ((loopsOf b12).getD 3 .skip) := by
  refine ⟨fun _ => by kernel_rfl, ?_⟩
  rintro k ⟨⟨x1, x2, x3, ⟨⟩⟩, ⟨⟩⟩
  kernel_rfl
theorem code_fits_ok {S : Nat → Addr} (ok : CfgOk P CC S) : ∀ n, SpecOk P CC S 12 ⟨code_fits_ins, code_fits_outs, code_fits n⟩ :=
  fn_all ok (O := code_fits_O) (H := code_fits_H) (fn := Tryd.f12) (body := b12) (by kernel_rfl) (by kernel_rfl) (by kernel_rfl) (by decide) (by kernel_rfl)
    (fun x => by kernel_rfl) (fun n => by
      rintro ⟨⟨⟨x1, x2, x3, x4, x5, x6, x7, ⟨⟩⟩, ⟨⟩⟩, ⟨⟩⟩
      kernel_rfl)
    (fun n => obl_of (by kernel_rfl) (by kernel_rfl) (ls (ls (ls (ls (lz) (by kernel_rfl) (code_fits_l3_k0 n)) (by kernel_rfl) (code_fits_l8_k1 n)) (by kernel_rfl) (code_fits_l18_k2 n)) (by kernel_rfl) (code_fits_l25_k3 n)) (cn (cn (cn (cn (cn (cn (cn (cn (cn (cn (cn (cn (cn (cn (cn (cn (cn (cn (cn (cn (cn (cn (cn (cn (cn (cn (cn (cn (cn (cn (cn (cn (cn (cn (cn (cn (cn (cn (cn (cz) (by kernel_rfl)) (by kernel_rfl)) (by kernel_rfl)) (by kernel_rfl)) (by kernel_rfl)) (by kernel_rfl)) (by kernel_rfl)) (by kernel_rfl)) (by kernel_rfl)) (by kernel_rfl)) (by kernel_rfl)) (by kernel_rfl)) (by kernel_rfl)) (by kernel_rfl)) (by kernel_rfl)) (by kernel_rfl)) (by kernel_rfl)) (by kernel_rfl)) (by kernel_rfl)) (by kernel_rfl)) (by kernel_rfl)) (by kernel_rfl)) (by kernel_rfl)) (by kernel_rfl)) (by kernel_rfl)) (by kernel_rfl)) (by kernel_rfl)) (by kernel_rfl)) (by kernel_rfl)) (by kernel_rfl)) (by kernel_rfl)) (by kernel_rfl)) (by kernel_rfl)) (by kernel_rfl)) (by kernel_rfl)) (by kernel_rfl)) (by kernel_rfl)) (by kernel_rfl)) (by kernel_rfl)) (hn fun _ => rfl))
    (fun n ih => asc_cons (slices_ContainsFunc_string_string_ok ok n) <| asc_cons (slices_Concat_int_int_ok ok n) <| asc_cons (slices_ContainsFunc_int_int_ok ok n) <| asc_cons (slices_ContainsFunc_int_int_2_ok ok n) <| asc_nil)
/-! ### slices.Clone[[]byte,byte] -/
abbrev slices_Clone_byte_byte_raw_ins : Sh := ⟨[(.one (.val ty12))], []⟩
abbrev slices_Clone_byte_byte_raw_outs : List Sh := [⟨[(.one (.arr 0))], [(.arr 5 (.int .u8))]⟩]
def slices_Clone_byte_byte_raw : Nat → slices_Clone_byte_byte_raw_ins.T → Option (OutsT slices_Clone_byte_byte_raw_outs)
  | 0, _ => none
  | n + 1, ((x1, _), _) =>
    if (x1.isEmpty || (Ty.size ((.int .u8) : Ty) == 0)) = true then
      both fun b2 =>
        if b2 then
          some (((), ()), ([], ()))
        else
          if (([] : List ((.int .u8) : Ty).T).length + x1.length) * 1 ≤ 140737488355328 then (
            some (((), ()), ([] ++ x1, ()))) else none
    else
      if (([] : List ((.int .u8) : Ty).T).length + x1.length) * 1 ≤ 140737488355328 then (
        some (((), ()), ([] ++ x1, ()))) else none
def slices_Clone_byte_byte_raw_H (n : Nat) : Hints := ⟨[], fun _ => [], fun _ => none, fun _ => none, fun _ => none, fun _ => 0⟩
def slices_Clone_byte_byte_raw_O (n : Nat) : FuncId → List FSpec := asc []
def b35 : Code := bodyOf Tryd.f35
theorem slices_Clone_byte_byte_raw_ok {S : Nat → Addr} (ok : CfgOk P CC S) : ∀ n, SpecOk P CC S 35 ⟨slices_Clone_byte_byte_raw_ins, slices_Clone_byte_byte_raw_outs, slices_Clone_byte_byte_raw n⟩ :=
  fn_all ok (O := slices_Clone_byte_byte_raw_O) (H := slices_Clone_byte_byte_raw_H) (fn := Tryd.f35) (body := b35) (by kernel_rfl) (by kernel_rfl) (by kernel_rfl) (by decide) (by kernel_rfl)
    (fun x => by kernel_rfl) (fun n => by
      rintro ⟨⟨x1, ⟨⟩⟩, ⟨⟩⟩
      kernel_rfl)
    (fun n => obl_of (by kernel_rfl) (by kernel_rfl) (lz) (cn (cn (cn (cn (cn (cz) (by kernel_rfl)) (by kernel_rfl)) (by kernel_rfl)) (by kernel_rfl)) (by kernel_rfl)) (hn fun _ => rfl))
    (fun n ih => asc_nil)
abbrev slices_Clone_byte_byte_ins : Sh := slices_Clone_byte_byte_raw_ins
abbrev slices_Clone_byte_byte_outs : List Sh := slices_Clone_byte_byte_raw_outs
def slices_Clone_byte_byte : Nat → slices_Clone_byte_byte_ins.T → Option (OutsT slices_Clone_byte_byte_outs)
  | 0, _ => none
  | n + 1, ((x1, _), _) => if (([] : List ((.int .u8) : Ty).T).length + x1.length) * 1 ≤ 140737488355328 then (some (((), ()), (x1, ()))) else none
theorem slices_Clone_byte_byte_ok {S : Nat → Addr} (ok : CfgOk P CC S) : ∀ n, SpecOk P CC S 35 ⟨slices_Clone_byte_byte_ins, slices_Clone_byte_byte_outs, slices_Clone_byte_byte n⟩ := fun n => (slices_Clone_byte_byte_raw_ok ok n).weaken fun x y h => by
  cases n with
  | zero => cases h
  | succ n =>
    obtain ⟨⟨x1, ⟨⟩⟩, ⟨⟩⟩ := x
    simp only [slices_Clone_byte_byte] at h
    split at h
    · rename_i hc
      cases h
      simp only [slices_Clone_byte_byte_raw]
      split
      · rename_i he
        have h0 : x1 = [] := by simpa [Ty.size] using he
        subst h0
        exact both_same rfl rfl
      · first | rfl | (rw [if_pos hc]; rfl)
    · cases h
/-! ### pendulum/wire.put -/
abbrev wire_put_ins : Sh := ⟨[(.one (.arr 0)), (.one (.val (.int .i64)))], [(.arr 5 (.int .u8))]⟩
abbrev wire_put_outs : List Sh := [⟨[(.one (.arr 1))], [.dead, (.arr 5 (.int .u8))]⟩]
abbrev wire_put_l2_h : Sh := ⟨[(.one (.arr 1)), (.one (.val (.int .u64)))], [.dead, (.arr 5 (.int .u8))]⟩
abbrev wire_put_l2_o : List Out := [⟨(.exit 0), [0, 5], ⟨[(.one (.arr 1)), (.one (.val (.int .u64)))], [.dead, (.arr 5 (.int .u8))]⟩⟩]
def wire_put_l2 (n : Nat) : Nat → wire_put_l2_h.T → Option (OutT wire_put_l2_o)
  | 0, _ => none
  | k + 1, ((_, x1, _), (_, l2, _)) =>
    if decide (x1 ≥ 128) then
      let v3 : Int := bitsOp .or .u8 (IntKind.u8.wrap x1) 128
      if (l2.length + ([v3] : List ((.int .u8) : Ty).T).length) * 1 ≤ 140737488355328 then (
        wire_put_l2 n k (((), shrOp .u64 x1 7, ()), ((), l2 ++ [v3], ()))) else none
    else
      some (.inl (((), x1, ()), ((), l2, ())))
def wire_put : Nat → wire_put_ins.T → Option (OutsT wire_put_outs)
  | 0, _ => none
  | n + 1, ((_, x1, _), (l2, _)) =>
    let v3 : Int := shlOp .u64 (IntKind.u64.wrap x1) 1
    let v4 : Int := IntKind.u64.wrap (shrOp .i64 x1 63)
    match wire_put_l2 n n (((), bitsOp .xor .u64 v3 v4, ()), ((), l2, ())) with
    | some (.inl ((_, x5, _), (_, l6, _))) => (
      if (l6.length + ([IntKind.u8.wrap x5] : List ((.int .u8) : Ty).T).length) * 1 ≤ 140737488355328 then (
        some (((), ()), ((), l6 ++ [IntKind.u8.wrap x5], ()))) else none)
    | some (.inr (_)) => none
    | none => none
def wire_put_H (n : Nat) : Hints := ⟨[], fun _ => [], fun k => match k with | 2 => some ⟨[0, 5], wire_put_l2_h, wire_put_l2_o, wire_put_l2 n⟩ | _ => none, fun _ => none, fun _ => none, fun _ => 0⟩
def wire_put_O (n : Nat) : FuncId → List FSpec := asc []
def b34 : Code := bodyOf Tryd.f34
theorem wire_put_l2_k0 (n : Nat) : LoopOk P CC (wire_put_O n) n 1 28 (wire_put_H n) ⟨[0, 5], wire_put_l2_h, wire_put_l2_o, wire_put_l2 n⟩ ((loopsOf b34).getD 0 .skip) := by
  refine ⟨fun _ => by kernel_rfl, ?_⟩
  rintro k ⟨⟨⟨⟩, x1, ⟨⟩⟩, ⟨⟨⟩, x2, ⟨⟩⟩⟩
  kernel_rfl
theorem wire_put_ok {S : Nat → Addr} (ok : CfgOk P CC S) : ∀ n, SpecOk P CC S 34 ⟨wire_put_ins, wire_put_outs, wire_put n⟩ :=
  fn_all ok (O := wire_put_O) (H := wire_put_H) (fn := Tryd.f34) (body := b34) (by kernel_rfl) (by kernel_rfl) (by kernel_rfl) (by decide) (by kernel_rfl)
    (fun x => by kernel_rfl) (fun n => by
      rintro ⟨⟨⟨⟩, x1, ⟨⟩⟩, ⟨x2, ⟨⟩⟩⟩
      kernel_rfl)
    (fun n => obl_of (by kernel_rfl) (by kernel_rfl) (ls (lz) (by kernel_rfl) (wire_put_l2_k0 n)) (cn (cn (cn (cn (cn (cn (cn (cz) (by kernel_rfl)) (by kernel_rfl)) (by kernel_rfl)) (by kernel_rfl)) (by kernel_rfl)) (by kernel_rfl)) (by kernel_rfl)) (hn fun _ => rfl))
    (fun n ih => asc_nil)
/-! ### pendulum/wire.PutText -/
abbrev wire_PutText_ins : Sh := ⟨[(.one (.arr 0)), (.one (.val .str))], [(.arr 5 (.int .u8))]⟩
abbrev wire_PutText_outs : List Sh := [⟨[(.one (.arr 1))], [(.frz 5 (.int .u8)), (.arr 5 (.int .u8))]⟩]
def wire_PutText : Nat → wire_PutText_ins.T → Option (OutsT wire_PutText_outs)
  | 0, _ => none
  | n + 1, ((_, x1, _), (l2, _)) =>
    match slices_Clone_byte_byte n ((l2, ()), ()) with
    | some ((_, _), (l3, _)) => (
      match wire_put n (((), (x1.size : Int), ()), (l3, ())) with
      | some ((_, _), (_, l4, _)) => (
        if (l4.length + (bytesL x1).length) * 1 ≤ 140737488355328 then (
          some (((), ()), (l2, l4 ++ (bytesL x1), ()))) else none)
      | none => none)
    | none => none
def wire_PutText_H (n : Nat) : Hints := ⟨[], fun _ => [], fun _ => none, fun _ => none, fun _ => none, fun _ => 0⟩
def wire_PutText_O (n : Nat) : FuncId → List FSpec := asc [(34, ⟨wire_put_ins, wire_put_outs, wire_put n⟩), (35, ⟨slices_Clone_byte_byte_ins, slices_Clone_byte_byte_outs, slices_Clone_byte_byte n⟩)]
def b33 : Code := bodyOf Tryd.f33
theorem wire_PutText_ok {S : Nat → Addr} (ok : CfgOk P CC S) : ∀ n, SpecOk P CC S 33 ⟨wire_PutText_ins, wire_PutText_outs, wire_PutText n⟩ :=
  fn_all ok (O := wire_PutText_O) (H := wire_PutText_H) (fn := Tryd.f33) (body := b33) (by kernel_rfl) (by kernel_rfl) (by kernel_rfl) (by decide) (by kernel_rfl)
    (fun x => by kernel_rfl) (fun n => by
      rintro ⟨⟨⟨⟩, x1, ⟨⟩⟩, ⟨x2, ⟨⟩⟩⟩
      kernel_rfl)
    (fun n => obl_of (by kernel_rfl) (by kernel_rfl) (lz) (cn (cn (cz) (by kernel_rfl)) (by kernel_rfl)) (hn fun _ => rfl))
    (fun n ih => asc_cons (wire_put_ok ok n) <| asc_cons (slices_Clone_byte_byte_ok ok n) <| asc_nil)
/-! ### pendulum/code.text -/
abbrev code_text_ins : Sh := ⟨[(.one (.arr 0)), (.one (.val .str))], [(.arr 5 (.int .u8))]⟩
abbrev code_text_outs : List Sh := [⟨[(.one (.arr 1))], [.dead, (.arr 5 (.int .u8))]⟩]
def code_text : Nat → code_text_ins.T → Option (OutsT code_text_outs)
  | 0, _ => none
  | n + 1, ((_, x1, _), (l2, _)) =>
    match wire_PutText n (((), x1, ()), ([], ())) with
    | some ((_, _), (l3, l4, _)) => (
      if (l2.length + l4.length) * 1 ≤ 140737488355328 then (
        some (((), ()), ((), l2 ++ l4, ()))) else none)
    | none => none
def code_text_H (n : Nat) : Hints := ⟨[], fun _ => [], fun _ => none, fun _ => none, fun _ => none, fun _ => 0⟩
def code_text_O (n : Nat) : FuncId → List FSpec := asc [(33, ⟨wire_PutText_ins, wire_PutText_outs, wire_PutText n⟩)]
def b13 : Code := bodyOf Tryd.f13
theorem code_text_ok {S : Nat → Addr} (ok : CfgOk P CC S) : ∀ n, SpecOk P CC S 13 ⟨code_text_ins, code_text_outs, code_text n⟩ :=
  fn_all ok (O := code_text_O) (H := code_text_H) (fn := Tryd.f13) (body := b13) (by kernel_rfl) (by kernel_rfl) (by kernel_rfl) (by decide) (by kernel_rfl)
    (fun x => by kernel_rfl) (fun n => by
      rintro ⟨⟨⟨⟩, x1, ⟨⟩⟩, ⟨x2, ⟨⟩⟩⟩
      kernel_rfl)
    (fun n => obl_of (by kernel_rfl) (by kernel_rfl) (lz) (cn (cn (cz) (by kernel_rfl)) (by kernel_rfl)) (hn fun _ => rfl))
    (fun n ih => asc_cons (wire_PutText_ok ok n) <| asc_nil)
/-! ### pendulum/wire.Put -/
abbrev wire_Put_ins : Sh := ⟨[(.one (.arr 0)), (.one (.val (.int .i64)))], [(.arr 5 (.int .u8))]⟩
abbrev wire_Put_outs : List Sh := [⟨[(.one (.arr 1))], [(.frz 5 (.int .u8)), (.arr 5 (.int .u8))]⟩]
def wire_Put : Nat → wire_Put_ins.T → Option (OutsT wire_Put_outs)
  | 0, _ => none
  | n + 1, ((_, x1, _), (l2, _)) =>
    match slices_Clone_byte_byte n ((l2, ()), ()) with
    | some ((_, _), (l3, _)) => (
      match wire_put n (((), x1, ()), (l3, ())) with
      | some ((_, _), (_, l4, _)) => (
        some (((), ()), (l2, l4, ())))
      | none => none)
    | none => none
def wire_Put_H (n : Nat) : Hints := ⟨[], fun _ => [], fun _ => none, fun _ => none, fun _ => none, fun _ => 0⟩
def wire_Put_O (n : Nat) : FuncId → List FSpec := asc [(34, ⟨wire_put_ins, wire_put_outs, wire_put n⟩), (35, ⟨slices_Clone_byte_byte_ins, slices_Clone_byte_byte_outs, slices_Clone_byte_byte n⟩)]
def b15 : Code := bodyOf Tryd.f15
theorem wire_Put_ok {S : Nat → Addr} (ok : CfgOk P CC S) : ∀ n, SpecOk P CC S 15 ⟨wire_Put_ins, wire_Put_outs, wire_Put n⟩ :=
  fn_all ok (O := wire_Put_O) (H := wire_Put_H) (fn := Tryd.f15) (body := b15) (by kernel_rfl) (by kernel_rfl) (by kernel_rfl) (by decide) (by kernel_rfl)
    (fun x => by kernel_rfl) (fun n => by
      rintro ⟨⟨⟨⟩, x1, ⟨⟩⟩, ⟨x2, ⟨⟩⟩⟩
      kernel_rfl)
    (fun n => obl_of (by kernel_rfl) (by kernel_rfl) (lz) (cn (cn (cz) (by kernel_rfl)) (by kernel_rfl)) (hn fun _ => rfl))
    (fun n ih => asc_cons (wire_put_ok ok n) <| asc_cons (slices_Clone_byte_byte_ok ok n) <| asc_nil)
/-! ### pendulum/code.put -/
abbrev code_put_ins : Sh := ⟨[(.one (.arr 0)), (.one (.val ty3))], [(.arr 5 (.int .u8))]⟩
abbrev code_put_outs : List Sh := [⟨[(.one (.arr 1))], [.dead, (.arr 5 (.int .u8))]⟩]
abbrev code_put_l2_h : Sh := ⟨[(.one (.arr 1)), (.one (.val ty3)), (.one (.val (.int .i64))), (.one (.val (.int .i64)))], [.dead, (.arr 5 (.int .u8))]⟩
abbrev code_put_l2_o : List Out := [⟨(.exit 0), [0], ⟨[(.one (.arr 1))], [.dead, (.arr 5 (.int .u8))]⟩⟩]
def code_put_l2 (n : Nat) : Nat → code_put_l2_h.T → Option (OutT code_put_l2_o)
  | 0, _ => none
  | k + 1, ((_, x1, x2, x3, _), (_, l4, _)) =>
    if decide (x3 < x2) then
      if 0 ≤ x3 ∧ x3 < (x1.length : Int) then (
        let v5 : Int := rdT ((.int .i64) : Ty) x1 x3
        match wire_Put n (((), v5, ()), ([], ())) with
        | some ((_, _), (l6, l7, _)) => (
          if (l4.length + l7.length) * 1 ≤ 140737488355328 then (
            let v8 : Int := IntKind.i64.wrap (x3 + 1)
            code_put_l2 n k (((), x1, x2, v8, ()), ((), l4 ++ l7, ()))) else none)
        | none => none) else none
    else
      some (.inl (((), ()), ((), l4, ())))
def code_put : Nat → code_put_ins.T → Option (OutsT code_put_outs)
  | 0, _ => none
  | n + 1, ((_, x1, _), (l2, _)) =>
    match code_put_l2 n n (((), x1, (x1.length : Int), 0, ()), ((), l2, ())) with
    | some (.inl ((_, _), (_, l3, _))) => (
      some (((), ()), ((), l3, ())))
    | some (.inr (_)) => none
    | none => none
def code_put_H (n : Nat) : Hints := ⟨[], fun _ => [], fun k => match k with | 2 => some ⟨[0, 7, 8, 9], code_put_l2_h, code_put_l2_o, code_put_l2 n⟩ | _ => none, fun _ => none, fun _ => none, fun _ => 0⟩
def code_put_O (n : Nat) : FuncId → List FSpec := asc [(15, ⟨wire_Put_ins, wire_Put_outs, wire_Put n⟩)]
def b14 : Code := bodyOf Tryd.f14
theorem code_put_l2_k0 (n : Nat) : LoopOk P CC (code_put_O n) n 1 19 (code_put_H n) ⟨[0, 7, 8, 9], code_put_l2_h, code_put_l2_o, code_put_l2 n⟩ ((loopsOf b14).getD 0 .skip) := by
  refine ⟨fun _ => by kernel_rfl, ?_⟩
  rintro k ⟨⟨⟨⟩, x1, x2, x3, ⟨⟩⟩, ⟨⟨⟩, x4, ⟨⟩⟩⟩
  kernel_rfl
theorem code_put_ok {S : Nat → Addr} (ok : CfgOk P CC S) : ∀ n, SpecOk P CC S 14 ⟨code_put_ins, code_put_outs, code_put n⟩ :=
  fn_all ok (O := code_put_O) (H := code_put_H) (fn := Tryd.f14) (body := b14) (by kernel_rfl) (by kernel_rfl) (by kernel_rfl) (by decide) (by kernel_rfl)
    (fun x => by kernel_rfl) (fun n => by
      rintro ⟨⟨⟨⟩, x1, ⟨⟩⟩, ⟨x2, ⟨⟩⟩⟩
      kernel_rfl)
    (fun n => obl_of (by kernel_rfl) (by kernel_rfl) (ls (lz) (by kernel_rfl) (code_put_l2_k0 n)) (cn (cn (cn (cn (cn (cn (cn (cn (cz) (by kernel_rfl)) (by kernel_rfl)) (by kernel_rfl)) (by kernel_rfl)) (by kernel_rfl)) (by kernel_rfl)) (by kernel_rfl)) (by kernel_rfl)) (hn fun _ => rfl))
    (fun n ih => asc_cons (wire_Put_ok ok n) <| asc_nil)
/-! ### pendulum/code.put -/
abbrev code_put_2_ins : Sh := ⟨[(.one (.arr 0)), (.one (.arr 1))], [(.arr 5 (.int .u8)), (.arr 3 (.int .i64))]⟩
abbrev code_put_2_outs : List Sh := [⟨[(.one (.arr 2))], [.dead, (.arr 3 (.int .i64)), (.arr 5 (.int .u8))]⟩]
abbrev code_put_2_l2_h : Sh := ⟨[(.one (.arr 2)), (.one (.arr 1)), (.one (.val (.int .i64))), (.one (.val (.int .i64)))], [.dead, (.arr 3 (.int .i64)), (.arr 5 (.int .u8))]⟩
abbrev code_put_2_l2_o : List Out := [⟨(.exit 0), [0], ⟨[(.one (.arr 2))], [.dead, (.arr 3 (.int .i64)), (.arr 5 (.int .u8))]⟩⟩]
def code_put_2_l2 (n : Nat) : Nat → code_put_2_l2_h.T → Option (OutT code_put_2_l2_o)
  | 0, _ => none
  | k + 1, ((_, _, x1, x2, _), (_, l3, l4, _)) =>
    if decide (x2 < x1) then
      if 0 ≤ x2 ∧ x2 < (l3.length : Int) then (
        let v5 : Int := rdT ((.int .i64) : Ty) l3 x2
        match wire_Put n (((), v5, ()), ([], ())) with
        | some ((_, _), (l6, l7, _)) => (
          if (l4.length + l7.length) * 1 ≤ 140737488355328 then (
            let v8 : Int := IntKind.i64.wrap (x2 + 1)
            code_put_2_l2 n k (((), (), x1, v8, ()), ((), l3, l4 ++ l7, ()))) else none)
        | none => none) else none
    else
      some (.inl (((), ()), ((), l3, l4, ())))
def code_put_2 : Nat → code_put_2_ins.T → Option (OutsT code_put_2_outs)
  | 0, _ => none
  | n + 1, ((_, _, _), (l1, l2, _)) =>
    match code_put_2_l2 n n (((), (), (l2.length : Int), 0, ()), ((), l2, l1, ())) with
    | some (.inl ((_, _), (_, l3, l4, _))) => (
      some (((), ()), ((), l3, l4, ())))
    | some (.inr (_)) => none
    | none => none
def code_put_2_H (n : Nat) : Hints := ⟨[], fun _ => [], fun k => match k with | 2 => some ⟨[0, 7, 8, 9], code_put_2_l2_h, code_put_2_l2_o, code_put_2_l2 n⟩ | _ => none, fun _ => none, fun _ => none, fun _ => 0⟩
def code_put_2_O (n : Nat) : FuncId → List FSpec := asc [(15, ⟨wire_Put_ins, wire_Put_outs, wire_Put n⟩)]
theorem code_put_2_l2_k0 (n : Nat) : LoopOk P CC (code_put_2_O n) n 2 19 (code_put_2_H n) ⟨[0, 7, 8, 9], code_put_2_l2_h, code_put_2_l2_o, code_put_2_l2 n⟩ ((loopsOf b14).getD 0 .skip) := by
  refine ⟨fun _ => by kernel_rfl, ?_⟩
  rintro k ⟨⟨⟨⟩, ⟨⟩, x1, x2, ⟨⟩⟩, ⟨⟨⟩, x3, x4, ⟨⟩⟩⟩
  kernel_rfl
theorem code_put_2_ok {S : Nat → Addr} (ok : CfgOk P CC S) : ∀ n, SpecOk P CC S 14 ⟨code_put_2_ins, code_put_2_outs, code_put_2 n⟩ :=
  fn_all ok (O := code_put_2_O) (H := code_put_2_H) (fn := Tryd.f14) (body := b14) (by kernel_rfl) (by kernel_rfl) (by kernel_rfl) (by decide) (by kernel_rfl)
    (fun x => by kernel_rfl) (fun n => by
      rintro ⟨⟨⟨⟩, ⟨⟩, ⟨⟩⟩, ⟨x1, x2, ⟨⟩⟩⟩
      kernel_rfl)
    (fun n => obl_of (by kernel_rfl) (by kernel_rfl) (ls (lz) (by kernel_rfl) (code_put_2_l2_k0 n)) (cn (cn (cn (cn (cn (cn (cn (cn (cz) (by kernel_rfl)) (by kernel_rfl)) (by kernel_rfl)) (by kernel_rfl)) (by kernel_rfl)) (by kernel_rfl)) (by kernel_rfl)) (by kernel_rfl)) (hn fun _ => rfl))
    (fun n ih => asc_cons (wire_Put_ok ok n) <| asc_nil)
/-! ### pendulum/code.Bytes -/
abbrev code_Bytes_ins : Sh := ⟨[(.agg [(.val .str), (.val ty3), (.val ty3), (.val (.int .i64)), (.val ty9), (.val ty10), (.val ty11)])], []⟩
abbrev code_Bytes_outs : List Sh := [⟨[(.tup [(false, [(.arr 0)]), (false, [(.val .err)])])], [(.arr 5 (.int .u8))]⟩]
abbrev code_Bytes_l9_h : Sh := ⟨[(.one (.ptr 0 0)), (.one (.arr 1)), (.one (.val ty9)), (.one (.val (.int .i64))), (.one (.val (.int .i64)))], [(.obj 27 [(.val .str), (.val ty3), (.val ty3), (.val (.int .i64)), (.val ty9), (.val ty10), (.val ty11)]), (.arr 5 (.int .u8))]⟩
abbrev code_Bytes_l9_o : List Out := [⟨(.exit 0), [1, 5], ⟨[(.one (.ptr 0 0)), (.one (.arr 1))], [(.obj 27 [(.val .str), (.val ty3), (.val ty3), (.val (.int .i64)), (.val ty9), (.val ty10), (.val ty11)]), (.arr 5 (.int .u8))]⟩⟩]
def code_Bytes_l9 (n : Nat) : Nat → code_Bytes_l9_h.T → Option (OutT code_Bytes_l9_o)
  | 0, _ => none
  | k + 1, ((_, _, x1, x2, x3, _), ((x4, x5, x6, x7, x8, x9, x10, _), l11, _)) =>
    if decide (x3 < x2) then
      if 0 ≤ x3 ∧ x3 < (x1.length : Int) then (
        match code_text n (((), (rdT ty0 x1 x3).1, ()), (l11, ())) with
        | some ((_, _), (_, l12, _)) => (
          match code_put n (((), [((rdT ty0 x1 x3).2).1], ()), (l12, ())) with
          | some ((_, _), (_, l13, _)) => (
            match wire_Put n (((), ((rdT ty0 x1 x3).2).2, ()), ([], ())) with
            | some ((_, _), (l14, l15, _)) => (
              if (l13.length + l15.length) * 1 ≤ 140737488355328 then (
                let v16 : Int := IntKind.i64.wrap (x3 + 1)
                code_Bytes_l9 n k (((), (), x1, x2, v16, ()), ((x4, x5, x6, x7, x8, x9, x10, ()), l13 ++ l15, ()))) else none)
            | none => none)
          | none => none)
        | none => none) else none
    else
      some (.inl (((), (), ()), ((x4, x5, x6, x7, x8, x9, x10, ()), l11, ())))
abbrev code_Bytes_l16_h : Sh := ⟨[(.one (.ptr 0 0)), (.one (.arr 1)), (.one (.val ty10)), (.one (.val (.int .i64))), (.one (.val (.int .i64)))], [(.obj 27 [(.val .str), (.val ty3), (.val ty3), (.val (.int .i64)), (.val ty9), (.val ty10), (.val ty11)]), (.arr 5 (.int .u8))]⟩
abbrev code_Bytes_l16_o : List Out := [⟨(.exit 2), [1, 5], ⟨[(.one (.ptr 0 0)), (.one (.arr 1))], [(.obj 27 [(.val .str), (.val ty3), (.val ty3), (.val (.int .i64)), (.val ty9), (.val ty10), (.val ty11)]), (.arr 5 (.int .u8))]⟩⟩]
def code_Bytes_l16 (n : Nat) : Nat → code_Bytes_l16_h.T → Option (OutT code_Bytes_l16_o)
  | 0, _ => none
  | k + 1, ((_, _, x1, x2, x3, _), ((x4, x5, x6, x7, x8, x9, x10, _), l11, _)) =>
    if decide (x3 < x2) then
      if 0 ≤ x3 ∧ x3 < (x1.length : Int) then (
        match code_text n (((), (rdT ty2 x1 x3).1, ()), (l11, ())) with
        | some ((_, _), (_, l12, _)) => (
          match code_text n (((), (rdT ty2 x1 x3).2, ()), (l12, ())) with
          | some ((_, _), (_, l13, _)) => (
            let v14 : Int := IntKind.i64.wrap (x3 + 1)
            code_Bytes_l16 n k (((), (), x1, x2, v14, ()), ((x4, x5, x6, x7, x8, x9, x10, ()), l13, ())))
          | none => none)
        | none => none) else none
    else
      some (.inl (((), (), ()), ((x4, x5, x6, x7, x8, x9, x10, ()), l11, ())))
abbrev code_Bytes_l22_h : Sh := ⟨[(.one (.arr 0)), (.one (.val ty11)), (.one (.val (.int .i64))), (.one (.val (.int .i64)))], [(.arr 5 (.int .u8))]⟩
abbrev code_Bytes_l22_o : List Out := [⟨(.exit 4), [5], ⟨[(.one (.arr 0))], [(.arr 5 (.int .u8))]⟩⟩]
def code_Bytes_l22 (n : Nat) : Nat → code_Bytes_l22_h.T → Option (OutT code_Bytes_l22_o)
  | 0, _ => none
  | k + 1, ((_, x1, x2, x3, _), (l4, _)) =>
    if decide (x3 < x2) then
      if 0 ≤ x3 ∧ x3 < (x1.length : Int) then (
        match code_put_2 n (((), (), ()), (l4, [(rdT ty4 x1 x3).1, ((rdT ty4 x1 x3).2).1, (((rdT ty4 x1 x3).2).2).1, ((((rdT ty4 x1 x3).2).2).2).1, (((((rdT ty4 x1 x3).2).2).2).2).1], ())) with
        | some ((_, _), (_, l5, l6, _)) => (
          match wire_Put n (((), (((((rdT ty4 x1 x3).2).2).2).2).2, ()), ([], ())) with
          | some ((_, _), (l7, l8, _)) => (
            if (l6.length + l8.length) * 1 ≤ 140737488355328 then (
              let v9 : Int := IntKind.i64.wrap (x3 + 1)
              code_Bytes_l22 n k (((), x1, x2, v9, ()), (l6 ++ l8, ()))) else none)
          | none => none)
        | none => none) else none
    else
      some (.inl (((), ()), (l4, ())))
def code_Bytes : Nat → code_Bytes_ins.T → Option (OutsT code_Bytes_outs)
  | 0, _ => none
  | n + 1, (((x1, x2, x3, x4, x5, x6, x7, _), _), _) =>
    match code_fits n (((x1, x2, x3, x4, x5, x6, x7, ()), ()), ()) with
    | some ((x8, _), _) => (
      if !(errNil x8) then
        some (((((), ()), (x8, ()), ()), ()), ([], ()))
      else
        match code_text n (((), x1, ()), ([], ())) with
        | some ((_, _), (_, l9, _)) => (
          match code_put n (((), [(x2.length : Int)], ()), (l9, ())) with
          | some ((_, _), (_, l10, _)) => (
            match code_put n (((), x2, ()), (l10, ())) with
            | some ((_, _), (_, l11, _)) => (
              match code_put n (((), [(x3.length : Int)], ()), (l11, ())) with
              | some ((_, _), (_, l12, _)) => (
                match code_put n (((), x3, ()), (l12, ())) with
                | some ((_, _), (_, l13, _)) => (
                  match code_put_2 n (((), (), ()), (l13, [x4, (x5.length : Int)], ())) with
                  | some ((_, _), (_, l14, l15, _)) => (
                    match code_Bytes_l9 n n (((), (), x5, (x5.length : Int), 0, ()), ((x1, x2, x3, x4, x5, x6, x7, ()), l15, ())) with
                    | some (.inl ((_, _, _), ((x16, x17, x18, x19, x20, x21, x22, _), l23, _))) => (
                      match code_put_2 n (((), (), ()), (l23, [(x21.length : Int)], ())) with
                      | some ((_, _), (_, l24, l25, _)) => (
                        match code_Bytes_l16 n n (((), (), x21, (x21.length : Int), 0, ()), ((x16, x17, x18, x19, x20, x21, x22, ()), l25, ())) with
                        | some (.inl ((_, _, _), ((x26, x27, x28, x29, x30, x31, x32, _), l33, _))) => (
                          match code_put_2 n (((), (), ()), (l33, [(x32.length : Int)], ())) with
                          | some ((_, _), (_, l34, l35, _)) => (
                            match code_Bytes_l22 n n (((), x32, (x32.length : Int), 0, ()), (l35, ())) with
                            | some (.inl ((_, _), (l36, _))) => (
                              some (((((), ()), (ErrV.nil, ()), ()), ()), (l36, ())))
                            | some (.inr (_)) => none
                            | none => none)
                          | none => none)
                        | some (.inr (_)) => none
                        | none => none)
                      | none => none)
                    | some (.inr (_)) => none
                    | none => none)
                  | none => none)
                | none => none)
              | none => none)
            | none => none)
          | none => none)
        | none => none)
    | none => none
def code_Bytes_H (n : Nat) : Hints := ⟨[], fun _ => [], fun k => match k with | 9 => some ⟨[1, 5, 47, 48, 49], code_Bytes_l9_h, code_Bytes_l9_o, code_Bytes_l9 n⟩ | 16 => some ⟨[1, 5, 74, 75, 76], code_Bytes_l16_h, code_Bytes_l16_o, code_Bytes_l16 n⟩ | 22 => some ⟨[5, 95, 96, 97], code_Bytes_l22_h, code_Bytes_l22_o, code_Bytes_l22 n⟩ | _ => none, fun _ => none, fun _ => none, fun _ => 0⟩
def code_Bytes_O (n : Nat) : FuncId → List FSpec := asc [(12, ⟨code_fits_ins, code_fits_outs, code_fits n⟩), (13, ⟨code_text_ins, code_text_outs, code_text n⟩), (14, ⟨code_put_2_ins, code_put_2_outs, code_put_2 n⟩), (14, ⟨code_put_ins, code_put_outs, code_put n⟩), (15, ⟨wire_Put_ins, wire_Put_outs, wire_Put n⟩)]
def b6 : Code := bodyOf Tryd.f6
theorem code_Bytes_l9_k0 (n : Nat) : LoopOk P CC (code_Bytes_O n) n 0 121 (code_Bytes_H n) ⟨[1, 5, 47, 48, 49], code_Bytes_l9_h, code_Bytes_l9_o, code_Bytes_l9 n⟩ ((loopsOf b6).getD 0 .skip) := by
  refine ⟨fun _ => by kernel_rfl, ?_⟩
  rintro k ⟨⟨⟨⟩, ⟨⟩, x1, x2, x3, ⟨⟩⟩, ⟨⟨x4, x5, x6, x7, x8, x9, x10, ⟨⟩⟩, x11, ⟨⟩⟩⟩
  kernel_rfl
theorem code_Bytes_l16_k1 (n : Nat) : LoopOk P CC (code_Bytes_O n) n 0 121 (code_Bytes_H n) ⟨[1, 5, 74, 75, 76], code_Bytes_l16_h, code_Bytes_l16_o, code_Bytes_l16 n⟩ ((loopsOf b6).getD 1 .skip) := by
  refine ⟨fun _ => by kernel_rfl, ?_⟩
  rintro k ⟨⟨⟨⟩, ⟨⟩, x1, x2, x3, ⟨⟩⟩, ⟨⟨x4, x5, x6, x7, x8, x9, x10, ⟨⟩⟩, x11, ⟨⟩⟩⟩
  kernel_rfl
theorem code_Bytes_l22_k2 (n : Nat) : LoopOk P CC (code_Bytes_O n) n 0 121 (code_Bytes_H n) ⟨[5, 95, 96, 97], code_Bytes_l22_h, code_Bytes_l22_o, code_Bytes_l22 n⟩ ((loopsOf b6).getD 2 .skip) := by
  refine ⟨fun _ => by kernel_rfl, ?_⟩
  rintro k ⟨⟨⟨⟩, x1, x2, x3, ⟨⟩⟩, ⟨x4, ⟨⟩⟩⟩
  kernel_rfl
theorem code_Bytes_ok {S : Nat → Addr} (ok : CfgOk P CC S) : ∀ n, SpecOk P CC S 6 ⟨code_Bytes_ins, code_Bytes_outs, code_Bytes n⟩ :=
  fn_all ok (O := code_Bytes_O) (H := code_Bytes_H) (fn := Tryd.f6) (body := b6) (by kernel_rfl) (by kernel_rfl) (by kernel_rfl) (by decide) (by kernel_rfl)
    (fun x => by kernel_rfl) (fun n => by
      rintro ⟨⟨⟨x1, x2, x3, x4, x5, x6, x7, ⟨⟩⟩, ⟨⟩⟩, ⟨⟩⟩
      kernel_rfl)
    (fun n => obl_of (by kernel_rfl) (by kernel_rfl) (ls (ls (ls (lz) (by kernel_rfl) (code_Bytes_l9_k0 n)) (by kernel_rfl) (code_Bytes_l16_k1 n)) (by kernel_rfl) (code_Bytes_l22_k2 n)) (cn (cn (cn (cn (cn (cn (cn (cn (cn (cn (cn (cn (cn (cn (cn (cn (cn (cn (cn (cn (cn (cn (cn (cn (cn (cn (cn (cn (cn (cn (cn (cn (cz) (by kernel_rfl)) (by kernel_rfl)) (by kernel_rfl)) (by kernel_rfl)) (by kernel_rfl)) (by kernel_rfl)) (by kernel_rfl)) (by kernel_rfl)) (by kernel_rfl)) (by kernel_rfl)) (by kernel_rfl)) (by kernel_rfl)) (by kernel_rfl)) (by kernel_rfl)) (by kernel_rfl)) (by kernel_rfl)) (by kernel_rfl)) (by kernel_rfl)) (by kernel_rfl)) (by kernel_rfl)) (by kernel_rfl)) (by kernel_rfl)) (by kernel_rfl)) (by kernel_rfl)) (by kernel_rfl)) (by kernel_rfl)) (by kernel_rfl)) (by kernel_rfl)) (by kernel_rfl)) (by kernel_rfl)) (by kernel_rfl)) (by kernel_rfl)) (hn fun _ => rfl))
    (fun n ih => asc_cons (code_fits_ok ok n) <| asc_cons (code_text_ok ok n) <| asc_cons (code_put_2_ok ok n) <| asc_cons (code_put_ok ok n) <| asc_cons (wire_Put_ok ok n) <| asc_nil)
/-! ### pendulum/pendulumref.Bytes -/
abbrev ref_Bytes_ins : Sh := ⟨[(.one (.arr 0))], [(.arr 5 (.int .u8))]⟩
abbrev ref_Bytes_outs : List Sh := [⟨[(.one (.arr 1))], [(.arr 5 (.int .u8)), (.arr 5 (.int .u8))]⟩]
abbrev ref_Bytes_l3_h : Sh := ⟨[(.one (.arr 0)), (.one (.arr 1)), (.one (.val (.int .i64)))], [(.arr 5 (.int .u8)), (.arr 5 (.int .u8))]⟩
abbrev ref_Bytes_l3_o : List Out := [⟨(.exit 0), [3], ⟨[(.one (.arr 1))], [(.arr 5 (.int .u8)), (.arr 5 (.int .u8))]⟩⟩]
def ref_Bytes_l3 (n : Nat) : Nat → ref_Bytes_l3_h.T → Option (OutT ref_Bytes_l3_o)
  | 0, _ => none
  | k + 1, ((_, _, x1, _), (l2, l3, _)) =>
    if decide (x1 < (l2.length : Int)) then
      if 0 ≤ x1 ∧ x1 < (l2.length : Int) then (
        let v4 : Int := rdT ((.int .u8) : Ty) l2 x1
        if (l3.length + ([v4] : List ((.int .u8) : Ty).T).length) * 1 ≤ 140737488355328 then (
          let v5 : Int := IntKind.i64.wrap (x1 + 1)
          ref_Bytes_l3 n k (((), (), v5, ()), (l2, l3 ++ [v4], ()))) else none) else none
    else
      some (.inl (((), ()), (l2, l3, ())))
def ref_Bytes : Nat → ref_Bytes_ins.T → Option (OutsT ref_Bytes_outs)
  | 0, _ => none
  | n + 1, ((_, _), (l1, _)) =>
    if 0 ≤ (0 : Int) ∧ (0 : Int) ≤ (l1.length : Int) ∧ (l1.length : Int) * ((1 : Nat) : Int) ≤ 140737488355328 ∧ (l1.length : Int) ≤ 140737488355328 then (
      match ref_Bytes_l3 n n (((), (), 0, ()), (l1, List.replicate (0 : Int).toNat 0, ())) with
      | some (.inl ((_, _), (l2, l3, _))) => (
        some (((), ()), (l2, l3, ())))
      | some (.inr (_)) => none
      | none => none) else none
def ref_Bytes_H (n : Nat) : Hints := ⟨[], fun _ => [], fun k => match k with | 3 => some ⟨[0, 3, 4], ref_Bytes_l3_h, ref_Bytes_l3_o, ref_Bytes_l3 n⟩ | _ => none, fun _ => none, fun _ => none, fun _ => 0⟩
def ref_Bytes_O (n : Nat) : FuncId → List FSpec := asc []
def b8 : Code := bodyOf Tryd.f8
theorem ref_Bytes_l3_k0 (n : Nat) : LoopOk P CC (ref_Bytes_O n) n 1 22 (ref_Bytes_H n) ⟨[0, 3, 4], ref_Bytes_l3_h, ref_Bytes_l3_o, ref_Bytes_l3 n⟩ ((loopsOf b8).getD 0 .skip) := by
  refine ⟨fun _ => by kernel_rfl, ?_⟩
  rintro k ⟨⟨⟨⟩, ⟨⟩, x1, ⟨⟩⟩, ⟨x2, x3, ⟨⟩⟩⟩
  kernel_rfl
theorem ref_Bytes_ok {S : Nat → Addr} (ok : CfgOk P CC S) : ∀ n, SpecOk P CC S 8 ⟨ref_Bytes_ins, ref_Bytes_outs, ref_Bytes n⟩ :=
  fn_all ok (O := ref_Bytes_O) (H := ref_Bytes_H) (fn := Tryd.f8) (body := b8) (by kernel_rfl) (by kernel_rfl) (by kernel_rfl) (by decide) (by kernel_rfl)
    (fun x => by kernel_rfl) (fun n => by
      rintro ⟨⟨⟨⟩, ⟨⟩⟩, ⟨x1, ⟨⟩⟩⟩
      kernel_rfl)
    (fun n => obl_of (by kernel_rfl) (by kernel_rfl) (ls (lz) (by kernel_rfl) (ref_Bytes_l3_k0 n)) (cn (cn (cn (cn (cn (cn (cn (cn (cz) (by kernel_rfl)) (by kernel_rfl)) (by kernel_rfl)) (by kernel_rfl)) (by kernel_rfl)) (by kernel_rfl)) (by kernel_rfl)) (by kernel_rfl)) (hn fun _ => rfl))
    (fun n ih => asc_nil)
/-! ### pendulum/wire.NewReader -/
abbrev wire_NewReader_ins : Sh := ⟨[(.one (.arr 0))], [(.arr 5 (.int .u8))]⟩
abbrev wire_NewReader_outs : List Sh := [⟨[(.one (.ptr 1 0))], [(.frz 5 (.int .u8)), (.obj 71 [(.val ty12), (.val (.int .i64)), (.val .err)])]⟩]
def wire_NewReader : Nat → wire_NewReader_ins.T → Option (OutsT wire_NewReader_outs)
  | 0, _ => none
  | n + 1, ((_, _), (l1, _)) =>
    match slices_Clone_byte_byte n ((l1, ()), ()) with
    | some ((_, _), (l2, _)) => (
      some (((), ()), (l1, (l2, 0, ErrV.nil, ()), ())))
    | none => none
def wire_NewReader_H (n : Nat) : Hints := ⟨[], fun _ => [], fun _ => none, fun _ => none, fun _ => none, fun _ => 0⟩
def wire_NewReader_O (n : Nat) : FuncId → List FSpec := asc [(35, ⟨slices_Clone_byte_byte_ins, slices_Clone_byte_byte_outs, slices_Clone_byte_byte n⟩)]
def b16 : Code := bodyOf Tryd.f16
theorem wire_NewReader_ok {S : Nat → Addr} (ok : CfgOk P CC S) : ∀ n, SpecOk P CC S 16 ⟨wire_NewReader_ins, wire_NewReader_outs, wire_NewReader n⟩ :=
  fn_all ok (O := wire_NewReader_O) (H := wire_NewReader_H) (fn := Tryd.f16) (body := b16) (by kernel_rfl) (by kernel_rfl) (by kernel_rfl) (by decide) (by kernel_rfl)
    (fun x => by kernel_rfl) (fun n => by
      rintro ⟨⟨⟨⟩, ⟨⟩⟩, ⟨x1, ⟨⟩⟩⟩
      kernel_rfl)
    (fun n => obl_of (by kernel_rfl) (by kernel_rfl) (lz) (cn (cn (cz) (by kernel_rfl)) (by kernel_rfl)) (hn fun _ => rfl))
    (fun n ih => asc_cons (slices_Clone_byte_byte_ok ok n) <| asc_nil)
/-! ### (*pendulum/wire.Reader).number -/
abbrev wire_Reader_number_ins : Sh := ⟨[(.one (.ptr 0 0))], [(.obj 71 [(.val ty12), (.val (.int .i64)), (.val .err)])]⟩
abbrev wire_Reader_number_outs : List Sh := [⟨[(.tup [(false, [(.val (.int .i64))]), (false, [(.val (.int .i64))]), (false, [(.val .err)])])], [(.obj 71 [(.val ty12), (.val (.int .i64)), (.val .err)])]⟩]
abbrev wire_Reader_number_c9_h : Sh := ⟨[(.one (.ptr 0 0)), (.one (.val (.int .u64))), (.one (.val (.int .i64))), (.one (.val (.int .u8)))], [(.obj 71 [(.val ty12), (.val (.int .i64)), (.val .err)])]⟩
abbrev wire_Reader_number_c9_o : List Out := [⟨.normal, [0, 5, 6, 7], ⟨[(.one (.ptr 0 0)), (.one (.val (.int .u64))), (.one (.val (.int .i64))), (.one (.val (.int .u8)))], [(.obj 71 [(.val ty12), (.val (.int .i64)), (.val .err)])]⟩⟩, ⟨.ret, [2, 3, 4], ⟨[(.one (.val (.int .i64))), (.one (.val (.int .i64))), (.one (.val .err))], [(.obj 71 [(.val ty12), (.val (.int .i64)), (.val .err)])]⟩⟩]
def wire_Reader_number_c9 (n : Nat) : wire_Reader_number_c9_h.T → Option (OutT wire_Reader_number_c9_o)
  | ((_, x1, x2, x3, _), ((x4, x5, x6, _), _)) =>
    if x2 == 9 then
      if decide (x3 > 1) then
        some (.inr (.inl ((0, 0, ErrV.sent 102, ()), ((x4, x5, x6, ()), ()))))
      else
        some (.inl (((), x1, x2, x3, ()), ((x4, x5, x6, ()), ())))
    else
      some (.inl (((), x1, x2, x3, ()), ((x4, x5, x6, ()), ())))
abbrev wire_Reader_number_c13_h : Sh := ⟨[(.one (.val (.int .u64))), (.one (.val (.int .i64))), (.one (.val (.int .u8)))], [(.obj 71 [(.val ty12), (.val (.int .i64)), (.val .err)])]⟩
abbrev wire_Reader_number_c13_o : List Out := [⟨.normal, [5, 6], ⟨[(.one (.val (.int .u64))), (.one (.val (.int .i64)))], [(.obj 71 [(.val ty12), (.val (.int .i64)), (.val .err)])]⟩⟩, ⟨.ret, [2, 3, 4], ⟨[(.one (.val (.int .i64))), (.one (.val (.int .i64))), (.one (.val .err))], [(.obj 71 [(.val ty12), (.val (.int .i64)), (.val .err)])]⟩⟩]
def wire_Reader_number_c13 (n : Nat) : wire_Reader_number_c13_h.T → Option (OutT wire_Reader_number_c13_o)
  | ((x1, x2, x3, _), ((x4, x5, x6, _), _)) =>
    if x3 == 0 then
      if decide (x2 > 0) then
        some (.inr (.inl ((0, 0, ErrV.sent 102, ()), ((x4, x5, x6, ()), ()))))
      else
        some (.inl ((x1, x2, ()), ((x4, x5, x6, ()), ())))
    else
      some (.inl ((x1, x2, ()), ((x4, x5, x6, ()), ())))
abbrev wire_Reader_number_l4_h : Sh := ⟨[(.one (.ptr 0 0)), (.one (.val (.int .u64))), (.one (.val (.int .i64)))], [(.obj 71 [(.val ty12), (.val (.int .i64)), (.val .err)])]⟩
abbrev wire_Reader_number_l4_o : List Out := [⟨.ret, [2, 3, 4], ⟨[(.one (.val (.int .i64))), (.one (.val (.int .i64))), (.one (.val .err))], [(.obj 71 [(.val ty12), (.val (.int .i64)), (.val .err)])]⟩⟩]
def wire_Reader_number_l4 (n : Nat) : Nat → wire_Reader_number_l4_h.T → Option (OutT wire_Reader_number_l4_o)
  | 0, _ => none
  | k + 1, ((_, x1, x2, _), ((x3, x4, x5, _), _)) =>
    let v6 : Int := IntKind.i64.wrap (x4 + x2)
    if decide (v6 ≥ (x3.length : Int)) then
      some (.inl ((0, 0, ErrV.sent 101, ()), ((x3, x4, x5, ()), ())))
    else
      let v7 : Int := IntKind.i64.wrap (x4 + x2)
      if 0 ≤ v7 ∧ v7 < (x3.length : Int) then (
        let v8 : Int := rdT ((.int .u8) : Ty) x3 v7
        match wire_Reader_number_c9 n (((), x1, x2, v8, ()), ((x3, x4, x5, ()), ())) with
        | some (.inl ((_, x9, x10, x11, _), ((x12, x13, x14, _), _))) => (
          let v21 : Int := bitsOp .andNot .u8 x11 128
          let v22 : Int := IntKind.i64.wrap (7 * x10)
          if v22 < 0 then
            none
          else
            let v23 : Int := shlOp .u64 (IntKind.u64.wrap v21) v22
            if decide (x11 ≥ 128) then
              let v40 : Int := IntKind.i64.wrap (x10 + 1)
              wire_Reader_number_l4 n k (((), bitsOp .or .u64 x9 v23, v40, ()), ((x12, x13, x14, ()), ()))
            else
              match wire_Reader_number_c13 n ((bitsOp .or .u64 x9 v23, x10, x11, ()), ((x12, x13, x14, ()), ())) with
              | some (.inl ((x24, x25, _), ((x26, x27, x28, _), _))) => (
                let v35 : Int := IntKind.i64.wrap (shrOp .u64 x24 1)
                let v36 : Int := IntKind.i64.wrap (bitsOp .and .u64 x24 1)
                let v37 : Int := IntKind.i64.wrap (0 - v36)
                let v38 : Int := bitsOp .xor .i64 v35 v37
                let v39 : Int := IntKind.i64.wrap (x25 + 1)
                some (.inl ((v38, v39, ErrV.nil, ()), ((x26, x27, x28, ()), ()))))
              | some (.inr (.inl ((x29, x30, x31, _), ((x32, x33, x34, _), _)))) => (
                some (.inl ((x29, x30, x31, ()), ((x32, x33, x34, ()), ()))))
              | some (.inr (.inr (_))) => none
              | none => none)
        | some (.inr (.inl ((x15, x16, x17, _), ((x18, x19, x20, _), _)))) => (
          some (.inl ((x15, x16, x17, ()), ((x18, x19, x20, ()), ()))))
        | some (.inr (.inr (_))) => none
        | none => none) else none
def wire_Reader_number : Nat → wire_Reader_number_ins.T → Option (OutsT wire_Reader_number_outs)
  | 0, _ => none
  | n + 1, ((_, _), ((x1, x2, x3, _), _)) =>
    match wire_Reader_number_l4 n n (((), 0, 0, ()), ((x1, x2, x3, ()), ())) with
    | some (.inl ((x4, x5, x6, _), ((x7, x8, x9, _), _))) => (
      some ((((x4, ()), (x5, ()), (x6, ()), ()), ()), ((x7, x8, x9, ()), ())))
    | some (.inr (_)) => none
    | none => none
def wire_Reader_number_H (n : Nat) : Hints := ⟨[], fun _ => [], fun k => match k with | 4 => some ⟨[0, 5, 6], wire_Reader_number_l4_h, wire_Reader_number_l4_o, wire_Reader_number_l4 n⟩ | _ => none, fun k => match k with | 9 => some ⟨[0, 5, 6, 7], wire_Reader_number_c9_h, wire_Reader_number_c9_o, fun n => wire_Reader_number_c9 n⟩ | 13 => some ⟨[5, 6, 7], wire_Reader_number_c13_h, wire_Reader_number_c13_o, fun n => wire_Reader_number_c13 n⟩ | _ => none, fun _ => none, fun _ => 0⟩
def wire_Reader_number_O (n : Nat) : FuncId → List FSpec := asc []
def b53 : Code := bodyOf Tryd.f53
theorem wire_Reader_number_l4_k0 (n : Nat) : LoopOk P CC (wire_Reader_number_O n) n 1 69 (wire_Reader_number_H n) ⟨[0, 5, 6], wire_Reader_number_l4_h, wire_Reader_number_l4_o, wire_Reader_number_l4 n⟩ ((loopsOf b53).getD 0 .skip) := by
  refine ⟨fun _ => by kernel_rfl, ?_⟩
  rintro k ⟨⟨⟨⟩, x1, x2, ⟨⟩⟩, ⟨⟨x3, x4, x5, ⟨⟩⟩, ⟨⟩⟩⟩
  kernel_rfl
theorem wire_Reader_number_c9_k8 (n : Nat) : CutOk P CC (wire_Reader_number_O n) n 1 69 (wire_Reader_number_H n) ⟨[0, 5, 6, 7], wire_Reader_number_c9_h, wire_Reader_number_c9_o, fun n => wire_Reader_number_c9 n⟩ ((cutsOf b53).getD 8 (0, .skip)).2 := by
  rintro ⟨⟨⟨⟩, x1, x2, x3, ⟨⟩⟩, ⟨⟨x4, x5, x6, ⟨⟩⟩, ⟨⟩⟩⟩
  kernel_rfl
theorem wire_Reader_number_c13_k14 (n : Nat) : CutOk P CC (wire_Reader_number_O n) n 1 69 (wire_Reader_number_H n) ⟨[5, 6, 7], wire_Reader_number_c13_h, wire_Reader_number_c13_o, fun n => wire_Reader_number_c13 n⟩ ((cutsOf b53).getD 14 (0, .skip)).2 := by
  rintro ⟨⟨x1, x2, x3, ⟨⟩⟩, ⟨⟨x4, x5, x6, ⟨⟩⟩, ⟨⟩⟩⟩
  kernel_rfl
theorem wire_Reader_number_ok {S : Nat → Addr} (ok : CfgOk P CC S) : ∀ n, SpecOk P CC S 53 ⟨wire_Reader_number_ins, wire_Reader_number_outs, wire_Reader_number n⟩ :=
  fn_all ok (O := wire_Reader_number_O) (H := wire_Reader_number_H) (fn := Tryd.f53) (body := b53) (by kernel_rfl) (by kernel_rfl) (by kernel_rfl) (by decide) (by kernel_rfl)
    (fun x => by kernel_rfl) (fun n => by
      rintro ⟨⟨⟨⟩, ⟨⟩⟩, ⟨⟨x1, x2, x3, ⟨⟩⟩, ⟨⟩⟩⟩
      kernel_rfl)
    (fun n => obl_of (by kernel_rfl) (by kernel_rfl) (ls (lz) (by kernel_rfl) (wire_Reader_number_l4_k0 n)) (cn (cn (cn (cs (cn (cn (cn (cn (cn (cs (cn (cn (cn (cn (cn (cn (cn (cn (cz) (by kernel_rfl)) (by kernel_rfl)) (by kernel_rfl)) (by kernel_rfl)) (by kernel_rfl)) (by kernel_rfl)) (by kernel_rfl)) (by kernel_rfl)) (by kernel_rfl) (wire_Reader_number_c9_k8 n)) (by kernel_rfl)) (by kernel_rfl)) (by kernel_rfl)) (by kernel_rfl)) (by kernel_rfl)) (by kernel_rfl) (wire_Reader_number_c13_k14 n)) (by kernel_rfl)) (by kernel_rfl)) (by kernel_rfl)) (hn fun _ => rfl))
    (fun n ih => asc_nil)
/-! ### (*pendulum/wire.Reader).fail -/
abbrev wire_Reader_fail_ins : Sh := ⟨[(.one (.ptr 0 0)), (.one (.val .err))], [(.obj 71 [(.val ty12), (.val (.int .i64)), (.val .err)])]⟩
abbrev wire_Reader_fail_outs : List Sh := [⟨[(.tup [])], [(.obj 71 [(.val ty12), (.val (.int .i64)), (.val .err)])]⟩]
def wire_Reader_fail : Nat → wire_Reader_fail_ins.T → Option (OutsT wire_Reader_fail_outs)
  | 0, _ => none
  | n + 1, ((_, x1, _), ((x2, x3, x4, _), _)) =>
    some (((), ()), ((x2, x3, ErrV.at_ x3 x1, ()), ()))
def wire_Reader_fail_H (n : Nat) : Hints := ⟨[], fun _ => [], fun _ => none, fun _ => none, fun _ => none, fun _ => 0⟩
def wire_Reader_fail_O (n : Nat) : FuncId → List FSpec := asc []
def b52 : Code := bodyOf Tryd.f52
theorem wire_Reader_fail_ok {S : Nat → Addr} (ok : CfgOk P CC S) : ∀ n, SpecOk P CC S 52 ⟨wire_Reader_fail_ins, wire_Reader_fail_outs, wire_Reader_fail n⟩ :=
  fn_all ok (O := wire_Reader_fail_O) (H := wire_Reader_fail_H) (fn := Tryd.f52) (body := b52) (by kernel_rfl) (by kernel_rfl) (by kernel_rfl) (by decide) (by kernel_rfl)
    (fun x => by kernel_rfl) (fun n => by
      rintro ⟨⟨⟨⟩, x1, ⟨⟩⟩, ⟨⟨x2, x3, x4, ⟨⟩⟩, ⟨⟩⟩⟩
      kernel_rfl)
    (fun n => obl_of (by kernel_rfl) (by kernel_rfl) (lz) (cz) (hn fun _ => rfl))
    (fun n ih => asc_nil)
/-! ### (*pendulum/wire.Reader).Num -/
abbrev wire_Reader_Num_ins : Sh := ⟨[(.one (.ptr 0 0)), (.one (.val (.int .i64))), (.one (.val (.int .i64)))], [(.obj 71 [(.val ty12), (.val (.int .i64)), (.val .err)])]⟩
abbrev wire_Reader_Num_outs : List Sh := [⟨[(.one (.val (.int .i64)))], [(.obj 71 [(.val ty12), (.val (.int .i64)), (.val .err)])]⟩]
abbrev wire_Reader_Num_c6_h : Sh := ⟨[(.one (.ptr 0 0)), (.one (.val (.int .i64))), (.one (.val (.int .i64))), (.one (.val (.int .i64))), (.one (.val (.int .i64))), (.one (.val .err))], [(.obj 71 [(.val ty12), (.val (.int .i64)), (.val .err)])]⟩
abbrev wire_Reader_Num_c6_o : List Out := [⟨.normal, [0, 7, 8, 9], ⟨[(.one (.ptr 0 0)), (.one (.val (.int .i64))), (.one (.val (.int .i64))), (.one (.val .err))], [(.obj 71 [(.val ty12), (.val (.int .i64)), (.val .err)])]⟩⟩]
def wire_Reader_Num_c6 (n : Nat) : wire_Reader_Num_c6_h.T → Option (OutT wire_Reader_Num_c6_o)
  | ((_, x1, x2, x3, x4, x5, _), ((x6, x7, x8, _), _)) =>
    if errNil x5 then
      if decide (x3 < x1) then
        some (.inl (((), x3, x4, ErrV.sent 104, ()), ((x6, x7, x8, ()), ())))
      else
        if decide (x3 > x2) then
          some (.inl (((), x3, x4, ErrV.sent 104, ()), ((x6, x7, x8, ()), ())))
        else
          some (.inl (((), x3, x4, x5, ()), ((x6, x7, x8, ()), ())))
    else
      some (.inl (((), x3, x4, x5, ()), ((x6, x7, x8, ()), ())))
def wire_Reader_Num : Nat → wire_Reader_Num_ins.T → Option (OutsT wire_Reader_Num_outs)
  | 0, _ => none
  | n + 1, ((_, x1, x2, _), ((x3, x4, x5, _), _)) =>
    if !(errNil x5) then
      some ((0, ()), ((x3, x4, x5, ()), ()))
    else
      match wire_Reader_number n (((), ()), ((x3, x4, x5, ()), ())) with
      | some ((((x6, _), (x7, _), (x8, _), _), _), ((x9, x10, x11, _), _)) => (
        match wire_Reader_Num_c6 n (((), x1, x2, x6, x7, x8, ()), ((x9, x10, x11, ()), ())) with
        | some (.inl ((_, x12, x13, x14, _), ((x15, x16, x17, _), _))) => (
          if !(errNil x14) then
            match wire_Reader_fail n (((), x14, ()), ((x15, x16, x17, ()), ())) with
            | some ((_, _), ((x18, x19, x20, _), _)) => (
              some ((0, ()), ((x18, x19, x20, ()), ())))
            | none => none
          else
            let v21 : Int := IntKind.i64.wrap (x16 + x13)
            some ((x12, ()), ((x15, v21, x17, ()), ())))
        | some (.inr (_)) => none
        | none => none)
      | none => none
def wire_Reader_Num_H (n : Nat) : Hints := ⟨[], fun _ => [], fun _ => none, fun k => match k with | 6 => some ⟨[0, 1, 2, 7, 8, 9], wire_Reader_Num_c6_h, wire_Reader_Num_c6_o, fun n => wire_Reader_Num_c6 n⟩ | _ => none, fun _ => none, fun _ => 0⟩
def wire_Reader_Num_O (n : Nat) : FuncId → List FSpec := asc [(52, ⟨wire_Reader_fail_ins, wire_Reader_fail_outs, wire_Reader_fail n⟩), (53, ⟨wire_Reader_number_ins, wire_Reader_number_outs, wire_Reader_number n⟩)]
def b38 : Code := bodyOf Tryd.f38
theorem wire_Reader_Num_c6_k5 (n : Nat) : CutOk P CC (wire_Reader_Num_O n) n 1 48 (wire_Reader_Num_H n) ⟨[0, 1, 2, 7, 8, 9], wire_Reader_Num_c6_h, wire_Reader_Num_c6_o, fun n => wire_Reader_Num_c6 n⟩ ((cutsOf b38).getD 5 (0, .skip)).2 := by
  rintro ⟨⟨⟨⟩, x1, x2, x3, x4, x5, ⟨⟩⟩, ⟨⟨x6, x7, x8, ⟨⟩⟩, ⟨⟩⟩⟩
  kernel_rfl
theorem wire_Reader_Num_ok {S : Nat → Addr} (ok : CfgOk P CC S) : ∀ n, SpecOk P CC S 38 ⟨wire_Reader_Num_ins, wire_Reader_Num_outs, wire_Reader_Num n⟩ :=
  fn_all ok (O := wire_Reader_Num_O) (H := wire_Reader_Num_H) (fn := Tryd.f38) (body := b38) (by kernel_rfl) (by kernel_rfl) (by kernel_rfl) (by decide) (by kernel_rfl)
    (fun x => by kernel_rfl) (fun n => by
      rintro ⟨⟨⟨⟩, x1, x2, ⟨⟩⟩, ⟨⟨x3, x4, x5, ⟨⟩⟩, ⟨⟩⟩⟩
      kernel_rfl)
    (fun n => obl_of (by kernel_rfl) (by kernel_rfl) (lz) (cn (cn (cn (cn (cn (cn (cn (cs (cn (cn (cn (cn (cn (cz) (by kernel_rfl)) (by kernel_rfl)) (by kernel_rfl)) (by kernel_rfl)) (by kernel_rfl)) (by kernel_rfl) (wire_Reader_Num_c6_k5 n)) (by kernel_rfl)) (by kernel_rfl)) (by kernel_rfl)) (by kernel_rfl)) (by kernel_rfl)) (by kernel_rfl)) (by kernel_rfl)) (hn fun _ => rfl))
    (fun n ih => asc_cons (wire_Reader_fail_ok ok n) <| asc_cons (wire_Reader_number_ok ok n) <| asc_nil)
/-! ### (*pendulum/wire.Reader).Left -/
abbrev wire_Reader_Left_ins : Sh := ⟨[(.one (.ptr 0 0))], [(.obj 71 [(.val ty12), (.val (.int .i64)), (.val .err)])]⟩
abbrev wire_Reader_Left_outs : List Sh := [⟨[(.one (.val (.int .i64)))], [(.obj 71 [(.val ty12), (.val (.int .i64)), (.val .err)])]⟩]
def wire_Reader_Left : Nat → wire_Reader_Left_ins.T → Option (OutsT wire_Reader_Left_outs)
  | 0, _ => none
  | n + 1, ((_, _), ((x1, x2, x3, _), _)) =>
    let v4 : Int := IntKind.i64.wrap ((x1.length : Int) - x2)
    some ((v4, ()), ((x1, x2, x3, ()), ()))
def wire_Reader_Left_H (n : Nat) : Hints := ⟨[], fun _ => [], fun _ => none, fun _ => none, fun _ => none, fun _ => 0⟩
def wire_Reader_Left_O (n : Nat) : FuncId → List FSpec := asc []
def b51 : Code := bodyOf Tryd.f51
theorem wire_Reader_Left_ok {S : Nat → Addr} (ok : CfgOk P CC S) : ∀ n, SpecOk P CC S 51 ⟨wire_Reader_Left_ins, wire_Reader_Left_outs, wire_Reader_Left n⟩ :=
  fn_all ok (O := wire_Reader_Left_O) (H := wire_Reader_Left_H) (fn := Tryd.f51) (body := b51) (by kernel_rfl) (by kernel_rfl) (by kernel_rfl) (by decide) (by kernel_rfl)
    (fun x => by kernel_rfl) (fun n => by
      rintro ⟨⟨⟨⟩, ⟨⟩⟩, ⟨⟨x1, x2, x3, ⟨⟩⟩, ⟨⟩⟩⟩
      kernel_rfl)
    (fun n => obl_of (by kernel_rfl) (by kernel_rfl) (lz) (cn (cn (cz) (by kernel_rfl)) (by kernel_rfl)) (hn fun _ => rfl))
    (fun n ih => asc_nil)
/-! ### (*pendulum/wire.Reader).Text -/
abbrev wire_Reader_Text_ins : Sh := ⟨[(.one (.ptr 0 0)), (.one (.val (.int .i64)))], [(.obj 71 [(.val ty12), (.val (.int .i64)), (.val .err)])]⟩
abbrev wire_Reader_Text_outs : List Sh := [⟨[(.one (.val .str))], [(.obj 71 [(.val ty12), (.val (.int .i64)), (.val .err)])]⟩]
def wire_Reader_Text : Nat → wire_Reader_Text_ins.T → Option (OutsT wire_Reader_Text_outs)
  | 0, _ => none
  | n + 1, ((_, x1, _), ((x2, x3, x4, _), _)) =>
    match wire_Reader_Num n (((), 0, x1, ()), ((x2, x3, x4, ()), ())) with
    | some ((x5, _), ((x6, x7, x8, _), _)) => (
      if !(errNil x8) then
        some (((⟨#[]⟩ : ByteArray), ()), ((x6, x7, x8, ()), ()))
      else
        match wire_Reader_Left n (((), ()), ((x6, x7, x8, ()), ())) with
        | some ((x9, _), ((x10, x11, x12, _), _)) => (
          if decide (x5 > x9) then
            match wire_Reader_fail n (((), ErrV.sent 101, ()), ((x10, x3, x12, ()), ())) with
            | some ((_, _), ((x13, x14, x15, _), _)) => (
              some (((⟨#[]⟩ : ByteArray), ()), ((x13, x14, x15, ()), ())))
            | none => none
          else
            let v16 : Int := IntKind.i64.wrap (x11 + x5)
            let v17 : Int := IntKind.i64.wrap (v16 - x5)
            if 0 ≤ v17 ∧ v17 ≤ v16 ∧ v16 ≤ (x10.length : Int) then (
              let v18 : ByteArray := strOfNums (cutL x10 v17 v16)
              some ((v18, ()), ((x10, v16, x12, ()), ()))) else none)
        | none => none)
    | none => none
def wire_Reader_Text_H (n : Nat) : Hints := ⟨[], fun _ => [], fun _ => none, fun _ => none, fun _ => none, fun _ => 0⟩
def wire_Reader_Text_O (n : Nat) : FuncId → List FSpec := asc [(38, ⟨wire_Reader_Num_ins, wire_Reader_Num_outs, wire_Reader_Num n⟩), (51, ⟨wire_Reader_Left_ins, wire_Reader_Left_outs, wire_Reader_Left n⟩), (52, ⟨wire_Reader_fail_ins, wire_Reader_fail_outs, wire_Reader_fail n⟩)]
def b36 : Code := bodyOf Tryd.f36
theorem wire_Reader_Text_ok {S : Nat → Addr} (ok : CfgOk P CC S) : ∀ n, SpecOk P CC S 36 ⟨wire_Reader_Text_ins, wire_Reader_Text_outs, wire_Reader_Text n⟩ :=
  fn_all ok (O := wire_Reader_Text_O) (H := wire_Reader_Text_H) (fn := Tryd.f36) (body := b36) (by kernel_rfl) (by kernel_rfl) (by kernel_rfl) (by decide) (by kernel_rfl)
    (fun x => by kernel_rfl) (fun n => by
      rintro ⟨⟨⟨⟩, x1, ⟨⟩⟩, ⟨⟨x2, x3, x4, ⟨⟩⟩, ⟨⟩⟩⟩
      kernel_rfl)
    (fun n => obl_of (by kernel_rfl) (by kernel_rfl) (lz) (cn (cn (cn (cn (cn (cn (cn (cn (cn (cn (cn (cn (cn (cz) (by kernel_rfl)) (by kernel_rfl)) (by kernel_rfl)) (by kernel_rfl)) (by kernel_rfl)) (by kernel_rfl)) (by kernel_rfl)) (by kernel_rfl)) (by kernel_rfl)) (by kernel_rfl)) (by kernel_rfl)) (by kernel_rfl)) (by kernel_rfl)) (hn fun _ => rfl))
    (fun n ih => asc_cons (wire_Reader_Num_ok ok n) <| asc_cons (wire_Reader_Left_ok ok n) <| asc_cons (wire_Reader_fail_ok ok n) <| asc_nil)
/-! ### (*pendulum/wire.Reader).Err -/
abbrev wire_Reader_Err_ins : Sh := ⟨[(.one (.ptr 0 0))], [(.obj 71 [(.val ty12), (.val (.int .i64)), (.val .err)])]⟩
abbrev wire_Reader_Err_outs : List Sh := [⟨[(.one (.val .err))], [(.obj 71 [(.val ty12), (.val (.int .i64)), (.val .err)])]⟩]
def wire_Reader_Err : Nat → wire_Reader_Err_ins.T → Option (OutsT wire_Reader_Err_outs)
  | 0, _ => none
  | n + 1, ((_, _), ((x1, x2, x3, _), _)) =>
    some ((x3, ()), ((x1, x2, x3, ()), ()))
def wire_Reader_Err_H (n : Nat) : Hints := ⟨[], fun _ => [], fun _ => none, fun _ => none, fun _ => none, fun _ => 0⟩
def wire_Reader_Err_O (n : Nat) : FuncId → List FSpec := asc []
def b18 : Code := bodyOf Tryd.f18
theorem wire_Reader_Err_ok {S : Nat → Addr} (ok : CfgOk P CC S) : ∀ n, SpecOk P CC S 18 ⟨wire_Reader_Err_ins, wire_Reader_Err_outs, wire_Reader_Err n⟩ :=
  fn_all ok (O := wire_Reader_Err_O) (H := wire_Reader_Err_H) (fn := Tryd.f18) (body := b18) (by kernel_rfl) (by kernel_rfl) (by kernel_rfl) (by decide) (by kernel_rfl)
    (fun x => by kernel_rfl) (fun n => by
      rintro ⟨⟨⟨⟩, ⟨⟩⟩, ⟨⟨x1, x2, x3, ⟨⟩⟩, ⟨⟩⟩⟩
      kernel_rfl)
    (fun n => obl_of (by kernel_rfl) (by kernel_rfl) (lz) (cn (cn (cz) (by kernel_rfl)) (by kernel_rfl)) (hn fun _ => rfl))
    (fun n ih => asc_nil)
/-! ### pendulum/code.types -/
abbrev code_types_ins : Sh := ⟨[(.one (.ptr 0 0))], [(.obj 71 [(.val ty12), (.val (.int .i64)), (.val .err)])]⟩
abbrev code_types_outs : List Sh := [⟨[(.one (.arr 1))], [(.obj 71 [(.val ty12), (.val (.int .i64)), (.val .err)]), (.arr 3 (.int .i64))]⟩]
abbrev code_types_l3_h : Sh := ⟨[(.one (.ptr 0 0)), (.one (.arr 1)), (.one (.val (.int .i64)))], [(.obj 71 [(.val ty12), (.val (.int .i64)), (.val .err)]), (.arr 3 (.int .i64))]⟩
abbrev code_types_l3_o : List Out := [⟨(.exit 0), [3], ⟨[(.one (.arr 1))], [(.obj 71 [(.val ty12), (.val (.int .i64)), (.val .err)]), (.arr 3 (.int .i64))]⟩⟩]
def code_types_l3 (n : Nat) : Nat → code_types_l3_h.T → Option (OutT code_types_l3_o)
  | 0, _ => none
  | k + 1, ((_, _, x1, _), ((x2, x3, x4, _), l5, _)) =>
    if decide (x1 > 0) then
      match wire_Reader_Err n (((), ()), ((x2, x3, x4, ()), ())) with
      | some ((x6, _), ((x7, x8, x9, _), _)) => (
        if errNil x6 then
          match wire_Reader_Num n (((), 1, 2, ()), ((x7, x8, x9, ()), ())) with
          | some ((x10, _), ((x11, x12, x13, _), _)) => (
            if (l5.length + ([x10] : List ((.int .i64) : Ty).T).length) * 8 ≤ 140737488355328 then (
              let v14 : Int := IntKind.i64.wrap (x1 - 1)
              code_types_l3 n k (((), (), v14, ()), ((x11, x12, x13, ()), l5 ++ [x10], ()))) else none)
          | none => none
        else
          some (.inl (((), ()), ((x7, x8, x9, ()), l5, ()))))
      | none => none
    else
      some (.inl (((), ()), ((x2, x3, x4, ()), l5, ())))
def code_types : Nat → code_types_ins.T → Option (OutsT code_types_outs)
  | 0, _ => none
  | n + 1, ((_, _), ((x1, x2, x3, _), _)) =>
    match wire_Reader_Num n (((), 0, 64, ()), ((x1, x2, x3, ()), ())) with
    | some ((x4, _), ((x5, x6, x7, _), _)) => (
      match code_types_l3 n n (((), (), x4, ()), ((x5, x6, x7, ()), [], ())) with
      | some (.inl ((_, _), ((x8, x9, x10, _), l11, _))) => (
        some (((), ()), ((x8, x9, x10, ()), l11, ())))
      | some (.inr (_)) => none
      | none => none)
    | none => none
def code_types_H (n : Nat) : Hints := ⟨[], fun _ => [], fun k => match k with | 3 => some ⟨[0, 3, 4], code_types_l3_h, code_types_l3_o, code_types_l3 n⟩ | _ => none, fun _ => none, fun _ => none, fun _ => 0⟩
def code_types_O (n : Nat) : FuncId → List FSpec := asc [(18, ⟨wire_Reader_Err_ins, wire_Reader_Err_outs, wire_Reader_Err n⟩), (38, ⟨wire_Reader_Num_ins, wire_Reader_Num_outs, wire_Reader_Num n⟩)]
def b37 : Code := bodyOf Tryd.f37
theorem code_types_l3_k0 (n : Nat) : LoopOk P CC (code_types_O n) n 1 22 (code_types_H n) ⟨[0, 3, 4], code_types_l3_h, code_types_l3_o, code_types_l3 n⟩ ((loopsOf b37).getD 0 .skip) := by
  refine ⟨fun _ => by kernel_rfl, ?_⟩
  rintro k ⟨⟨⟨⟩, ⟨⟩, x1, ⟨⟩⟩, ⟨⟨x2, x3, x4, ⟨⟩⟩, x5, ⟨⟩⟩⟩
  kernel_rfl
theorem code_types_ok {S : Nat → Addr} (ok : CfgOk P CC S) : ∀ n, SpecOk P CC S 37 ⟨code_types_ins, code_types_outs, code_types n⟩ :=
  fn_all ok (O := code_types_O) (H := code_types_H) (fn := Tryd.f37) (body := b37) (by kernel_rfl) (by kernel_rfl) (by kernel_rfl) (by decide) (by kernel_rfl)
    (fun x => by kernel_rfl) (fun n => by
      rintro ⟨⟨⟨⟩, ⟨⟩⟩, ⟨⟨x1, x2, x3, ⟨⟩⟩, ⟨⟩⟩⟩
      kernel_rfl)
    (fun n => obl_of (by kernel_rfl) (by kernel_rfl) (ls (lz) (by kernel_rfl) (code_types_l3_k0 n)) (cn (cn (cn (cn (cn (cn (cn (cn (cz) (by kernel_rfl)) (by kernel_rfl)) (by kernel_rfl)) (by kernel_rfl)) (by kernel_rfl)) (by kernel_rfl)) (by kernel_rfl)) (by kernel_rfl)) (hn fun _ => rfl))
    (fun n ih => asc_cons (wire_Reader_Err_ok ok n) <| asc_cons (wire_Reader_Num_ok ok n) <| asc_nil)
/-! ### pendulum/code.any64 -/
abbrev code_any64_ins : Sh := ⟨[(.one (.ptr 0 0))], [(.obj 71 [(.val ty12), (.val (.int .i64)), (.val .err)])]⟩
abbrev code_any64_outs : List Sh := [⟨[(.one (.val (.int .i64)))], [(.obj 71 [(.val ty12), (.val (.int .i64)), (.val .err)])]⟩]
def code_any64 : Nat → code_any64_ins.T → Option (OutsT code_any64_outs)
  | 0, _ => none
  | n + 1, ((_, _), ((x1, x2, x3, _), _)) =>
    match wire_Reader_Num n (((), (-9223372036854775808), 9223372036854775807, ()), ((x1, x2, x3, ()), ())) with
    | some ((x4, _), ((x5, x6, x7, _), _)) => (
      some ((x4, ()), ((x5, x6, x7, ()), ())))
    | none => none
def code_any64_H (n : Nat) : Hints := ⟨[], fun _ => [], fun _ => none, fun _ => none, fun _ => none, fun _ => 0⟩
def code_any64_O (n : Nat) : FuncId → List FSpec := asc [(38, ⟨wire_Reader_Num_ins, wire_Reader_Num_outs, wire_Reader_Num n⟩)]
def b39 : Code := bodyOf Tryd.f39
theorem code_any64_ok {S : Nat → Addr} (ok : CfgOk P CC S) : ∀ n, SpecOk P CC S 39 ⟨code_any64_ins, code_any64_outs, code_any64 n⟩ :=
  fn_all ok (O := code_any64_O) (H := code_any64_H) (fn := Tryd.f39) (body := b39) (by kernel_rfl) (by kernel_rfl) (by kernel_rfl) (by decide) (by kernel_rfl)
    (fun x => by kernel_rfl) (fun n => by
      rintro ⟨⟨⟨⟩, ⟨⟩⟩, ⟨⟨x1, x2, x3, ⟨⟩⟩, ⟨⟩⟩⟩
      kernel_rfl)
    (fun n => obl_of (by kernel_rfl) (by kernel_rfl) (lz) (cn (cn (cz) (by kernel_rfl)) (by kernel_rfl)) (hn fun _ => rfl))
    (fun n ih => asc_cons (wire_Reader_Num_ok ok n) <| asc_nil)
/-! ### pendulum/code.object -/
abbrev code_object_ins : Sh := ⟨[(.one (.ptr 0 0))], [(.obj 71 [(.val ty12), (.val (.int .i64)), (.val .err)])]⟩
abbrev code_object_outs : List Sh := [⟨[(.agg [(.val .str), (.arr 1), (.arr 2), (.val (.int .i64)), (.arr 3), (.arr 4), (.arr 5)])], [(.obj 71 [(.val ty12), (.val (.int .i64)), (.val .err)]), (.arr 3 (.int .i64)), (.arr 3 (.int .i64)), (.arr 45 ty0), (.arr 47 ty2), (.arr 43 ty4)]⟩]
abbrev code_object_l5_h : Sh := ⟨[(.one (.ptr 0 0)), (.one (.ptr 1 0)), (.one (.ptr 2 0)), (.one (.val (.int .i64)))], [(.obj 71 [(.val ty12), (.val (.int .i64)), (.val .err)]), (.obj 27 [(.val .str), (.emp true), (.emp true), (.val (.int .i64)), (.emp true), (.emp true), (.emp true)]), (.obj 27 [(.val .str), (.arr 3), (.arr 4), (.val (.int .i64)), (.arr 5), (.emp true), (.emp true)]), (.arr 3 (.int .i64)), (.arr 3 (.int .i64)), (.arr 45 ty0)]⟩
abbrev code_object_l5_o : List Out := [⟨(.exit 0), [0, 2, 3], ⟨[(.one (.ptr 0 0)), (.one (.ptr 1 0)), (.one (.ptr 2 0))], [(.obj 71 [(.val ty12), (.val (.int .i64)), (.val .err)]), (.obj 27 [(.val .str), (.emp true), (.emp true), (.val (.int .i64)), (.emp true), (.emp true), (.emp true)]), (.obj 27 [(.val .str), (.arr 3), (.arr 4), (.val (.int .i64)), (.arr 5), (.emp true), (.emp true)]), (.arr 3 (.int .i64)), (.arr 3 (.int .i64)), (.arr 45 ty0)]⟩⟩]
def code_object_l5 (n : Nat) : Nat → code_object_l5_h.T → Option (OutT code_object_l5_o)
  | 0, _ => none
  | k + 1, ((_, _, _, x1, _), ((x2, x3, x4, _), (x5, _, _, x6, _, _, _, _), (x7, _, _, x8, _, _, _, _), l9, l10, l11, _)) =>
    if decide (x1 > 0) then
      match wire_Reader_Err n (((), ()), ((x2, x3, x4, ()), ())) with
      | some ((x12, _), ((x13, x14, x15, _), _)) => (
        if errNil x12 then
          match wire_Reader_Text n (((), 200, ()), ((x13, x14, x15, ()), ())) with
          | some ((x16, _), ((x17, x18, x19, _), _)) => (
            match wire_Reader_Num n (((), 1, 2, ()), ((x17, x18, x19, ()), ())) with
            | some ((x20, _), ((x21, x22, x23, _), _)) => (
              match code_any64 n (((), ()), ((x21, x22, x23, ()), ())) with
              | some ((x24, _), ((x25, x26, x27, _), _)) => (
                if (l11.length + ([(x16, (x20, x24))] : List ty0.T).length) * 32 ≤ 140737488355328 then (
                  let v28 : Int := IntKind.i64.wrap (x1 - 1)
                  code_object_l5 n k (((), (), (), v28, ()), ((x25, x26, x27, ()), (x5, (), (), x6, (), (), (), ()), (x7, (), (), x8, (), (), (), ()), l9, l10, l11 ++ [(x16, (x20, x24))], ()))) else none)
              | none => none)
            | none => none)
          | none => none
        else
          some (.inl (((), (), (), ()), ((x13, x14, x15, ()), (x5, (), (), x6, (), (), (), ()), (x7, (), (), x8, (), (), (), ()), l9, l10, l11, ()))))
      | none => none
    else
      some (.inl (((), (), (), ()), ((x2, x3, x4, ()), (x5, (), (), x6, (), (), (), ()), (x7, (), (), x8, (), (), (), ()), l9, l10, l11, ())))
abbrev code_object_l12_h : Sh := ⟨[(.one (.ptr 0 0)), (.one (.ptr 1 0)), (.one (.ptr 2 0)), (.one (.val (.int .i64)))], [(.obj 71 [(.val ty12), (.val (.int .i64)), (.val .err)]), (.obj 27 [(.val .str), (.emp true), (.emp true), (.val (.int .i64)), (.emp true), (.emp true), (.emp true)]), (.obj 27 [(.val .str), (.arr 3), (.arr 4), (.val (.int .i64)), (.arr 5), (.arr 6), (.emp true)]), (.arr 3 (.int .i64)), (.arr 3 (.int .i64)), (.arr 45 ty0), (.arr 47 ty2)]⟩
abbrev code_object_l12_o : List Out := [⟨(.exit 2), [0, 2, 3], ⟨[(.one (.ptr 0 0)), (.one (.ptr 1 0)), (.one (.ptr 2 0))], [(.obj 71 [(.val ty12), (.val (.int .i64)), (.val .err)]), (.obj 27 [(.val .str), (.emp true), (.emp true), (.val (.int .i64)), (.emp true), (.emp true), (.emp true)]), (.obj 27 [(.val .str), (.arr 3), (.arr 4), (.val (.int .i64)), (.arr 5), (.arr 6), (.emp true)]), (.arr 3 (.int .i64)), (.arr 3 (.int .i64)), (.arr 45 ty0), (.arr 47 ty2)]⟩⟩]
def code_object_l12 (n : Nat) : Nat → code_object_l12_h.T → Option (OutT code_object_l12_o)
  | 0, _ => none
  | k + 1, ((_, _, _, x1, _), ((x2, x3, x4, _), (x5, _, _, x6, _, _, _, _), (x7, _, _, x8, _, _, _, _), l9, l10, l11, l12, _)) =>
    if decide (x1 > 0) then
      match wire_Reader_Err n (((), ()), ((x2, x3, x4, ()), ())) with
      | some ((x13, _), ((x14, x15, x16, _), _)) => (
        if errNil x13 then
          match wire_Reader_Text n (((), 200, ()), ((x14, x15, x16, ()), ())) with
          | some ((x17, _), ((x18, x19, x20, _), _)) => (
            match wire_Reader_Text n (((), 200, ()), ((x18, x19, x20, ()), ())) with
            | some ((x21, _), ((x22, x23, x24, _), _)) => (
              if (l12.length + ([(x17, x21)] : List ty2.T).length) * 32 ≤ 140737488355328 then (
                let v25 : Int := IntKind.i64.wrap (x1 - 1)
                code_object_l12 n k (((), (), (), v25, ()), ((x22, x23, x24, ()), (x5, (), (), x6, (), (), (), ()), (x7, (), (), x8, (), (), (), ()), l9, l10, l11, l12 ++ [(x17, x21)], ()))) else none)
            | none => none)
          | none => none
        else
          some (.inl (((), (), (), ()), ((x14, x15, x16, ()), (x5, (), (), x6, (), (), (), ()), (x7, (), (), x8, (), (), (), ()), l9, l10, l11, l12, ()))))
      | none => none
    else
      some (.inl (((), (), (), ()), ((x2, x3, x4, ()), (x5, (), (), x6, (), (), (), ()), (x7, (), (), x8, (), (), (), ()), l9, l10, l11, l12, ())))
abbrev code_object_l18_h : Sh := ⟨[(.one (.ptr 0 0)), (.one (.ptr 1 0)), (.one (.ptr 2 0)), (.one (.val (.int .i64)))], [(.obj 71 [(.val ty12), (.val (.int .i64)), (.val .err)]), (.obj 27 [(.val .str), (.emp true), (.emp true), (.val (.int .i64)), (.emp true), (.emp true), (.emp true)]), (.obj 27 [(.val .str), (.arr 3), (.arr 4), (.val (.int .i64)), (.arr 5), (.arr 6), (.arr 7)]), (.arr 3 (.int .i64)), (.arr 3 (.int .i64)), (.arr 45 ty0), (.arr 47 ty2), (.arr 43 ty4)]⟩
abbrev code_object_l18_o : List Out := [⟨(.exit 4), [2, 3], ⟨[(.one (.ptr 1 0)), (.one (.ptr 2 0))], [(.obj 71 [(.val ty12), (.val (.int .i64)), (.val .err)]), (.obj 27 [(.val .str), (.emp true), (.emp true), (.val (.int .i64)), (.emp true), (.emp true), (.emp true)]), (.obj 27 [(.val .str), (.arr 3), (.arr 4), (.val (.int .i64)), (.arr 5), (.arr 6), (.arr 7)]), (.arr 3 (.int .i64)), (.arr 3 (.int .i64)), (.arr 45 ty0), (.arr 47 ty2), (.arr 43 ty4)]⟩⟩]
def code_object_l18 (n : Nat) : Nat → code_object_l18_h.T → Option (OutT code_object_l18_o)
  | 0, _ => none
  | k + 1, ((_, _, _, x1, _), ((x2, x3, x4, _), (x5, _, _, x6, _, _, _, _), (x7, _, _, x8, _, _, _, _), l9, l10, l11, l12, l13, _)) =>
    if decide (x1 > 0) then
      match wire_Reader_Err n (((), ()), ((x2, x3, x4, ()), ())) with
      | some ((x14, _), ((x15, x16, x17, _), _)) => (
        if errNil x14 then
          match wire_Reader_Num n (((), 1, 12, ()), ((x15, x16, x17, ()), ())) with
          | some ((x18, _), ((x19, x20, x21, _), _)) => (
            match wire_Reader_Num n (((), (-1), 1048576, ()), ((x19, x20, x21, ()), ())) with
            | some ((x22, _), ((x23, x24, x25, _), _)) => (
              match wire_Reader_Num n (((), (-1), 1048576, ()), ((x23, x24, x25, ()), ())) with
              | some ((x26, _), ((x27, x28, x29, _), _)) => (
                match wire_Reader_Num n (((), (-1), 1048576, ()), ((x27, x28, x29, ()), ())) with
                | some ((x30, _), ((x31, x32, x33, _), _)) => (
                  match wire_Reader_Num n (((), (-1), 1048576, ()), ((x31, x32, x33, ()), ())) with
                  | some ((x34, _), ((x35, x36, x37, _), _)) => (
                    match code_any64 n (((), ()), ((x35, x36, x37, ()), ())) with
                    | some ((x38, _), ((x39, x40, x41, _), _)) => (
                      if (l13.length + ([(x18, (x22, (x26, (x30, (x34, x38)))))] : List ty4.T).length) * 48 ≤ 140737488355328 then (
                        let v42 : Int := IntKind.i64.wrap (x1 - 1)
                        code_object_l18 n k (((), (), (), v42, ()), ((x39, x40, x41, ()), (x5, (), (), x6, (), (), (), ()), (x7, (), (), x8, (), (), (), ()), l9, l10, l11, l12, l13 ++ [(x18, (x22, (x26, (x30, (x34, x38)))))], ()))) else none)
                    | none => none)
                  | none => none)
                | none => none)
              | none => none)
            | none => none)
          | none => none
        else
          some (.inl (((), (), ()), ((x15, x16, x17, ()), (x5, (), (), x6, (), (), (), ()), (x7, (), (), x8, (), (), (), ()), l9, l10, l11, l12, l13, ()))))
      | none => none
    else
      some (.inl (((), (), ()), ((x2, x3, x4, ()), (x5, (), (), x6, (), (), (), ()), (x7, (), (), x8, (), (), (), ()), l9, l10, l11, l12, l13, ())))
def code_object : Nat → code_object_ins.T → Option (OutsT code_object_outs)
  | 0, _ => none
  | n + 1, ((_, _), ((x1, x2, x3, _), _)) =>
    match wire_Reader_Text n (((), 200, ()), ((x1, x2, x3, ()), ())) with
    | some ((x4, _), ((x5, x6, x7, _), _)) => (
      match code_types n (((), ()), ((x5, x6, x7, ()), ())) with
      | some ((_, _), ((x8, x9, x10, _), l11, _)) => (
        match code_types n (((), ()), ((x8, x9, x10, ()), ())) with
        | some ((_, _), ((x12, x13, x14, _), l15, _)) => (
          match wire_Reader_Num n (((), 0, 1024, ()), ((x12, x13, x14, ()), ())) with
          | some ((x16, _), ((x17, x18, x19, _), _)) => (
            match wire_Reader_Num n (((), 0, 1024, ()), ((x17, x18, x19, ()), ())) with
            | some ((x20, _), ((x21, x22, x23, _), _)) => (
              match code_object_l5 n n (((), (), (), x20, ()), ((x21, x22, x23, ()), ((⟨#[]⟩ : ByteArray), (), (), 0, (), (), (), ()), (x4, (), (), x16, (), (), (), ()), l11, l15, [], ())) with
              | some (.inl ((_, _, _, _), ((x24, x25, x26, _), (x27, _, _, x28, _, _, _, _), (x29, _, _, x30, _, _, _, _), l31, l32, l33, _))) => (
                match wire_Reader_Num n (((), 0, 256, ()), ((x24, x25, x26, ()), ())) with
                | some ((x34, _), ((x35, x36, x37, _), _)) => (
                  match code_object_l12 n n (((), (), (), x34, ()), ((x35, x36, x37, ()), (x27, (), (), x28, (), (), (), ()), (x29, (), (), x30, (), (), (), ()), l31, l32, l33, [], ())) with
                  | some (.inl ((_, _, _, _), ((x38, x39, x40, _), (x41, _, _, x42, _, _, _, _), (x43, _, _, x44, _, _, _, _), l45, l46, l47, l48, _))) => (
                    match wire_Reader_Num n (((), 0, 4096, ()), ((x38, x39, x40, ()), ())) with
                    | some ((x49, _), ((x50, x51, x52, _), _)) => (
                      match code_object_l18 n n (((), (), (), x49, ()), ((x50, x51, x52, ()), (x41, (), (), x42, (), (), (), ()), (x43, (), (), x44, (), (), (), ()), l45, l46, l47, l48, [], ())) with
                      | some (.inl ((_, _, _), ((x53, x54, x55, _), (x56, _, _, x57, _, _, _, _), (x58, _, _, x59, _, _, _, _), l60, l61, l62, l63, l64, _))) => (
                        some (((x58, (), (), x59, (), (), (), ()), ()), ((x53, x54, x55, ()), l60, l61, l62, l63, l64, ())))
                      | some (.inr (_)) => none
                      | none => none)
                    | none => none)
                  | some (.inr (_)) => none
                  | none => none)
                | none => none)
              | some (.inr (_)) => none
              | none => none)
            | none => none)
          | none => none)
        | none => none)
      | none => none)
    | none => none
def code_object_H (n : Nat) : Hints := ⟨[], fun _ => [], fun k => match k with | 5 => some ⟨[0, 2, 3, 4], code_object_l5_h, code_object_l5_o, code_object_l5 n⟩ | 12 => some ⟨[0, 2, 3, 6], code_object_l12_h, code_object_l12_o, code_object_l12 n⟩ | 18 => some ⟨[0, 2, 3, 8], code_object_l18_h, code_object_l18_o, code_object_l18 n⟩ | _ => none, fun _ => none, fun _ => none, fun k => match k with | 22 => 5 | _ => 0⟩
def code_object_O (n : Nat) : FuncId → List FSpec := asc [(18, ⟨wire_Reader_Err_ins, wire_Reader_Err_outs, wire_Reader_Err n⟩), (36, ⟨wire_Reader_Text_ins, wire_Reader_Text_outs, wire_Reader_Text n⟩), (37, ⟨code_types_ins, code_types_outs, code_types n⟩), (38, ⟨wire_Reader_Num_ins, wire_Reader_Num_outs, wire_Reader_Num n⟩), (39, ⟨code_any64_ins, code_any64_outs, code_any64 n⟩)]
def b17 : Code := bodyOf Tryd.f17
theorem code_object_l5_k0 (n : Nat) : LoopOk P CC (code_object_O n) n 1 112 (code_object_H n) ⟨[0, 2, 3, 4], code_object_l5_h, code_object_l5_o, code_object_l5 n⟩ ((loopsOf b17).getD 0 .skip) := by
  refine ⟨fun _ => by kernel_rfl, ?_⟩
  rintro k ⟨⟨⟨⟩, ⟨⟩, ⟨⟩, x1, ⟨⟩⟩, ⟨⟨x2, x3, x4, ⟨⟩⟩, ⟨x5, ⟨⟩, ⟨⟩, x6, ⟨⟩, ⟨⟩, ⟨⟩, ⟨⟩⟩, ⟨x7, ⟨⟩, ⟨⟩, x8, ⟨⟩, ⟨⟩, ⟨⟩, ⟨⟩⟩, x9, x10, x11, ⟨⟩⟩⟩
  kernel_rfl
theorem code_object_l12_k1 (n : Nat) : LoopOk P CC (code_object_O n) n 1 112 (code_object_H n) ⟨[0, 2, 3, 6], code_object_l12_h, code_object_l12_o, code_object_l12 n⟩ ((loopsOf b17).getD 1 .skip) := by
  refine ⟨fun _ => by kernel_rfl, ?_⟩
  rintro k ⟨⟨⟨⟩, ⟨⟩, ⟨⟩, x1, ⟨⟩⟩, ⟨⟨x2, x3, x4, ⟨⟩⟩, ⟨x5, ⟨⟩, ⟨⟩, x6, ⟨⟩, ⟨⟩, ⟨⟩, ⟨⟩⟩, ⟨x7, ⟨⟩, ⟨⟩, x8, ⟨⟩, ⟨⟩, ⟨⟩, ⟨⟩⟩, x9, x10, x11, x12, ⟨⟩⟩⟩
  kernel_rfl
theorem code_object_l18_k2 (n : Nat) : LoopOk P CC (code_object_O n) n 1 112 (code_object_H n) ⟨[0, 2, 3, 8], code_object_l18_h, code_object_l18_o, code_object_l18 n⟩ ((loopsOf b17).getD 2 .skip) := by
  refine ⟨fun _ => by kernel_rfl, ?_⟩
  rintro k ⟨⟨⟨⟩, ⟨⟩, ⟨⟩, x1, ⟨⟩⟩, ⟨⟨x2, x3, x4, ⟨⟩⟩, ⟨x5, ⟨⟩, ⟨⟩, x6, ⟨⟩, ⟨⟩, ⟨⟩, ⟨⟩⟩, ⟨x7, ⟨⟩, ⟨⟩, x8, ⟨⟩, ⟨⟩, ⟨⟩, ⟨⟩⟩, x9, x10, x11, x12, x13, ⟨⟩⟩⟩
  kernel_rfl
theorem code_object_ok {S : Nat → Addr} (ok : CfgOk P CC S) : ∀ n, SpecOk P CC S 17 ⟨code_object_ins, code_object_outs, code_object n⟩ :=
  fn_all ok (O := code_object_O) (H := code_object_H) (fn := Tryd.f17) (body := b17) (by kernel_rfl) (by kernel_rfl) (by kernel_rfl) (by decide) (by kernel_rfl)
    (fun x => by kernel_rfl) (fun n => by
      rintro ⟨⟨⟨⟩, ⟨⟩⟩, ⟨⟨x1, x2, x3, ⟨⟩⟩, ⟨⟩⟩⟩
      kernel_rfl)
    (fun n => obl_of (by kernel_rfl) (by kernel_rfl) (ln (ls (ls (ls (lz) (by kernel_rfl) (code_object_l5_k0 n)) (by kernel_rfl) (code_object_l12_k1 n)) (by kernel_rfl) (code_object_l18_k2 n)) (by kernel_rfl)) (cn (cn (cn (cn (cn (cn (cn (cn (cn (cn (cn (cn (cn (cn (cn (cn (cn (cn (cn (cn (cn (cn (cn (cn (cn (cn (cn (cn (cn (cn (cn (cn (cn (cz) (by kernel_rfl)) (by kernel_rfl)) (by kernel_rfl)) (by kernel_rfl)) (by kernel_rfl)) (by kernel_rfl)) (by kernel_rfl)) (by kernel_rfl)) (by kernel_rfl)) (by kernel_rfl)) (by kernel_rfl)) (by kernel_rfl)) (by kernel_rfl)) (by kernel_rfl)) (by kernel_rfl)) (by kernel_rfl)) (by kernel_rfl)) (by kernel_rfl)) (by kernel_rfl)) (by kernel_rfl)) (by kernel_rfl)) (by kernel_rfl)) (by kernel_rfl)) (by kernel_rfl)) (by kernel_rfl)) (by kernel_rfl)) (by kernel_rfl)) (by kernel_rfl)) (by kernel_rfl)) (by kernel_rfl)) (by kernel_rfl)) (by kernel_rfl)) (by kernel_rfl)) (hn fun _ => rfl))
    (fun n ih => asc_cons (wire_Reader_Err_ok ok n) <| asc_cons (wire_Reader_Text_ok ok n) <| asc_cons (code_types_ok ok n) <| asc_cons (wire_Reader_Num_ok ok n) <| asc_cons (code_any64_ok ok n) <| asc_nil)
/-! ### (*pendulum/wire.Reader).At -/
abbrev wire_Reader_At_ins : Sh := ⟨[(.one (.ptr 0 0))], [(.obj 71 [(.val ty12), (.val (.int .i64)), (.val .err)])]⟩
abbrev wire_Reader_At_outs : List Sh := [⟨[(.one (.val (.int .i64)))], [(.obj 71 [(.val ty12), (.val (.int .i64)), (.val .err)])]⟩]
def wire_Reader_At : Nat → wire_Reader_At_ins.T → Option (OutsT wire_Reader_At_outs)
  | 0, _ => none
  | n + 1, ((_, _), ((x1, x2, x3, _), _)) =>
    some ((x2, ()), ((x1, x2, x3, ()), ()))
def wire_Reader_At_H (n : Nat) : Hints := ⟨[], fun _ => [], fun _ => none, fun _ => none, fun _ => none, fun _ => 0⟩
def wire_Reader_At_O (n : Nat) : FuncId → List FSpec := asc []
def b19 : Code := bodyOf Tryd.f19
theorem wire_Reader_At_ok {S : Nat → Addr} (ok : CfgOk P CC S) : ∀ n, SpecOk P CC S 19 ⟨wire_Reader_At_ins, wire_Reader_At_outs, wire_Reader_At n⟩ :=
  fn_all ok (O := wire_Reader_At_O) (H := wire_Reader_At_H) (fn := Tryd.f19) (body := b19) (by kernel_rfl) (by kernel_rfl) (by kernel_rfl) (by decide) (by kernel_rfl)
    (fun x => by kernel_rfl) (fun n => by
      rintro ⟨⟨⟨⟩, ⟨⟩⟩, ⟨⟨x1, x2, x3, ⟨⟩⟩, ⟨⟩⟩⟩
      kernel_rfl)
    (fun n => obl_of (by kernel_rfl) (by kernel_rfl) (lz) (cn (cn (cz) (by kernel_rfl)) (by kernel_rfl)) (hn fun _ => rfl))
    (fun n ih => asc_nil)
/-! ### pendulum/code.Read -/
abbrev code_Read_ins : Sh := ⟨[(.one (.arr 0))], [(.arr 5 (.int .u8))]⟩
abbrev code_Read_outs : List Sh := [⟨[(.tup [(true, [(.val .str), (.arr 1), (.arr 2), (.val (.int .i64)), (.arr 3), (.arr 4), (.arr 5)]), (false, [(.val (.int .i64))]), (false, [(.val .err)])])], [(.frz 5 (.int .u8)), (.arr 3 (.int .i64)), (.arr 3 (.int .i64)), (.arr 45 ty0), (.arr 47 ty2), (.arr 43 ty4)]⟩]
def code_Read : Nat → code_Read_ins.T → Option (OutsT code_Read_outs)
  | 0, _ => none
  | n + 1, ((_, _), (l1, _)) =>
    match wire_NewReader n (((), ()), (l1, ())) with
    | some ((_, _), (l2, (x3, x4, x5, _), _)) => (
      match code_object n (((), ()), ((x3, x4, x5, ()), ())) with
      | some (((x6, _, _, x7, _, _, _, _), _), ((x8, x9, x10, _), l11, l12, l13, l14, l15, _)) => (
        match wire_Reader_Err n (((), ()), ((x8, x9, x10, ()), ())) with
        | some ((x16, _), ((x17, x18, x19, _), _)) => (
          if !(errNil x16) then
            some (((((⟨#[]⟩ : ByteArray), (), (), 0, (), (), (), ()), (0, ()), (x16, ()), ()), ()), (l2, [], [], [], [], [], ()))
          else
            match wire_Reader_At n (((), ()), ((x17, x18, x19, ()), ())) with
            | some ((x20, _), ((x21, x22, x23, _), _)) => (
              some ((((x6, (), (), x7, (), (), (), ()), (x20, ()), (ErrV.nil, ()), ()), ()), (l2, l11, l12, l13, l14, l15, ())))
            | none => none)
        | none => none)
      | none => none)
    | none => none
def code_Read_H (n : Nat) : Hints := ⟨[], fun _ => [], fun _ => none, fun _ => none, fun _ => none, fun _ => 0⟩
def code_Read_O (n : Nat) : FuncId → List FSpec := asc [(16, ⟨wire_NewReader_ins, wire_NewReader_outs, wire_NewReader n⟩), (17, ⟨code_object_ins, code_object_outs, code_object n⟩), (18, ⟨wire_Reader_Err_ins, wire_Reader_Err_outs, wire_Reader_Err n⟩), (19, ⟨wire_Reader_At_ins, wire_Reader_At_outs, wire_Reader_At n⟩)]
def b7 : Code := bodyOf Tryd.f7
theorem code_Read_ok {S : Nat → Addr} (ok : CfgOk P CC S) : ∀ n, SpecOk P CC S 7 ⟨code_Read_ins, code_Read_outs, code_Read n⟩ :=
  fn_all ok (O := code_Read_O) (H := code_Read_H) (fn := Tryd.f7) (body := b7) (by kernel_rfl) (by kernel_rfl) (by kernel_rfl) (by decide) (by kernel_rfl)
    (fun x => by kernel_rfl) (fun n => by
      rintro ⟨⟨⟨⟩, ⟨⟩⟩, ⟨x1, ⟨⟩⟩⟩
      kernel_rfl)
    (fun n => obl_of (by kernel_rfl) (by kernel_rfl) (lz) (cn (cn (cn (cn (cn (cn (cn (cn (cz) (by kernel_rfl)) (by kernel_rfl)) (by kernel_rfl)) (by kernel_rfl)) (by kernel_rfl)) (by kernel_rfl)) (by kernel_rfl)) (by kernel_rfl)) (hn fun _ => rfl))
    (fun n ih => asc_cons (wire_NewReader_ok ok n) <| asc_cons (code_object_ok ok n) <| asc_cons (wire_Reader_Err_ok ok n) <| asc_cons (wire_Reader_At_ok ok n) <| asc_nil)
/-! ### pendulum/pendulumworld.Number -/
abbrev world_Number_ins : Sh := ⟨[(.one (.val (.int .i64))), (.one (.val (.int .i64)))], []⟩
abbrev world_Number_outs : List Sh := [⟨[(.one (.val (.int .i64)))], []⟩]
def world_Number : Nat → world_Number_ins.T → Option (OutsT world_Number_outs)
  | 0, _ => none
  | n + 1, ((x1, x2, _), _) =>
    if x2 = 0 then
      none
    else
      if decide (Int.tmod x1 x2 < 0) then
        let v3 : Int := IntKind.i64.wrap ((Int.tmod x1 x2) + x2)
        some ((v3, ()), ())
      else
        some ((Int.tmod x1 x2, ()), ())
def world_Number_H (n : Nat) : Hints := ⟨[], fun _ => [], fun _ => none, fun _ => none, fun _ => none, fun _ => 0⟩
def world_Number_O (n : Nat) : FuncId → List FSpec := asc []
def b9 : Code := bodyOf Tryd.f9
theorem world_Number_ok {S : Nat → Addr} (ok : CfgOk P CC S) : ∀ n, SpecOk P CC S 9 ⟨world_Number_ins, world_Number_outs, world_Number n⟩ :=
  fn_all ok (O := world_Number_O) (H := world_Number_H) (fn := Tryd.f9) (body := b9) (by kernel_rfl) (by kernel_rfl) (by kernel_rfl) (by decide) (by kernel_rfl)
    (fun x => by kernel_rfl) (fun n => by
      rintro ⟨⟨x1, x2, ⟨⟩⟩, ⟨⟩⟩
      kernel_rfl)
    (fun n => obl_of (by kernel_rfl) (by kernel_rfl) (lz) (cn (cn (cn (cn (cn (cz) (by kernel_rfl)) (by kernel_rfl)) (by kernel_rfl)) (by kernel_rfl)) (by kernel_rfl)) (hn fun _ => rfl))
    (fun n ih => asc_nil)
/-! ### pendulum/wire.NewReader -/
abbrev wire_NewReader_2_ins : Sh := ⟨[(.one (.val ty12))], []⟩
abbrev wire_NewReader_2_outs : List Sh := [⟨[(.one (.ptr 0 0))], [(.obj 71 [(.val ty12), (.val (.int .i64)), (.val .err)])]⟩]
def wire_NewReader_2 : Nat → wire_NewReader_2_ins.T → Option (OutsT wire_NewReader_2_outs)
  | 0, _ => none
  | n + 1, ((x1, _), _) =>
    match slices_Clone_byte_byte n ((x1, ()), ()) with
    | some ((_, _), (l2, _)) => (
      some (((), ()), ((l2, 0, ErrV.nil, ()), ())))
    | none => none
def wire_NewReader_2_H (n : Nat) : Hints := ⟨[], fun _ => [], fun _ => none, fun _ => none, fun _ => none, fun _ => 0⟩
def wire_NewReader_2_O (n : Nat) : FuncId → List FSpec := asc [(35, ⟨slices_Clone_byte_byte_ins, slices_Clone_byte_byte_outs, slices_Clone_byte_byte n⟩)]
theorem wire_NewReader_2_ok {S : Nat → Addr} (ok : CfgOk P CC S) : ∀ n, SpecOk P CC S 16 ⟨wire_NewReader_2_ins, wire_NewReader_2_outs, wire_NewReader_2 n⟩ :=
  fn_all ok (O := wire_NewReader_2_O) (H := wire_NewReader_2_H) (fn := Tryd.f16) (body := b16) (by kernel_rfl) (by kernel_rfl) (by kernel_rfl) (by decide) (by kernel_rfl)
    (fun x => by kernel_rfl) (fun n => by
      rintro ⟨⟨x1, ⟨⟩⟩, ⟨⟩⟩
      kernel_rfl)
    (fun n => obl_of (by kernel_rfl) (by kernel_rfl) (lz) (cn (cn (cz) (by kernel_rfl)) (by kernel_rfl)) (hn fun _ => rfl))
    (fun n ih => asc_cons (slices_Clone_byte_byte_ok ok n) <| asc_nil)
/-! ### pendulum/code.Read -/
abbrev code_Read_2_ins : Sh := ⟨[(.one (.val ty12))], []⟩
abbrev code_Read_2_outs : List Sh := [⟨[(.tup [(true, [(.val .str), (.arr 0), (.arr 1), (.val (.int .i64)), (.arr 2), (.arr 3), (.arr 4)]), (false, [(.val (.int .i64))]), (false, [(.val .err)])])], [(.arr 3 (.int .i64)), (.arr 3 (.int .i64)), (.arr 45 ty0), (.arr 47 ty2), (.arr 43 ty4)]⟩]
def code_Read_2 : Nat → code_Read_2_ins.T → Option (OutsT code_Read_2_outs)
  | 0, _ => none
  | n + 1, ((x1, _), _) =>
    match wire_NewReader_2 n ((x1, ()), ()) with
    | some ((_, _), ((x2, x3, x4, _), _)) => (
      match code_object n (((), ()), ((x2, x3, x4, ()), ())) with
      | some (((x5, _, _, x6, _, _, _, _), _), ((x7, x8, x9, _), l10, l11, l12, l13, l14, _)) => (
        match wire_Reader_Err n (((), ()), ((x7, x8, x9, ()), ())) with
        | some ((x15, _), ((x16, x17, x18, _), _)) => (
          if !(errNil x15) then
            some (((((⟨#[]⟩ : ByteArray), (), (), 0, (), (), (), ()), (0, ()), (x15, ()), ()), ()), ([], [], [], [], [], ()))
          else
            match wire_Reader_At n (((), ()), ((x16, x17, x18, ()), ())) with
            | some ((x19, _), ((x20, x21, x22, _), _)) => (
              some ((((x5, (), (), x6, (), (), (), ()), (x19, ()), (ErrV.nil, ()), ()), ()), (l10, l11, l12, l13, l14, ())))
            | none => none)
        | none => none)
      | none => none)
    | none => none
def code_Read_2_H (n : Nat) : Hints := ⟨[], fun _ => [], fun _ => none, fun _ => none, fun _ => none, fun _ => 0⟩
def code_Read_2_O (n : Nat) : FuncId → List FSpec := asc [(16, ⟨wire_NewReader_2_ins, wire_NewReader_2_outs, wire_NewReader_2 n⟩), (17, ⟨code_object_ins, code_object_outs, code_object n⟩), (18, ⟨wire_Reader_Err_ins, wire_Reader_Err_outs, wire_Reader_Err n⟩), (19, ⟨wire_Reader_At_ins, wire_Reader_At_outs, wire_Reader_At n⟩)]
theorem code_Read_2_ok {S : Nat → Addr} (ok : CfgOk P CC S) : ∀ n, SpecOk P CC S 7 ⟨code_Read_2_ins, code_Read_2_outs, code_Read_2 n⟩ :=
  fn_all ok (O := code_Read_2_O) (H := code_Read_2_H) (fn := Tryd.f7) (body := b7) (by kernel_rfl) (by kernel_rfl) (by kernel_rfl) (by decide) (by kernel_rfl)
    (fun x => by kernel_rfl) (fun n => by
      rintro ⟨⟨x1, ⟨⟩⟩, ⟨⟩⟩
      kernel_rfl)
    (fun n => obl_of (by kernel_rfl) (by kernel_rfl) (lz) (cn (cn (cn (cn (cn (cn (cn (cn (cz) (by kernel_rfl)) (by kernel_rfl)) (by kernel_rfl)) (by kernel_rfl)) (by kernel_rfl)) (by kernel_rfl)) (by kernel_rfl)) (by kernel_rfl)) (hn fun _ => rfl))
    (fun n ih => asc_cons (wire_NewReader_2_ok ok n) <| asc_cons (code_object_ok ok n) <| asc_cons (wire_Reader_Err_ok ok n) <| asc_cons (wire_Reader_At_ok ok n) <| asc_nil)
/-! ### pendulum/pendulumref.SameInts -/
abbrev ref_SameInts_ins : Sh := ⟨[(.one (.val ty3)), (.one (.val ty3))], []⟩
abbrev ref_SameInts_outs : List Sh := [⟨[(.one (.val .bool))], []⟩]
abbrev ref_SameInts_l4_h : Sh := ⟨[(.one (.val ty3)), (.one (.val ty3)), (.one (.val (.int .i64)))], []⟩
abbrev ref_SameInts_l4_o : List Out := [⟨(.exit 0), [], ⟨[], []⟩⟩, ⟨.ret, [4], ⟨[(.one (.val .bool))], []⟩⟩]
def ref_SameInts_l4 (n : Nat) : Nat → ref_SameInts_l4_h.T → Option (OutT ref_SameInts_l4_o)
  | 0, _ => none
  | k + 1, ((x1, x2, x3, _), _) =>
    if decide (x3 < (x1.length : Int)) then
      if 0 ≤ x3 ∧ x3 < (x1.length : Int) then (
        let v4 : Int := rdT ((.int .i64) : Ty) x1 x3
        if 0 ≤ x3 ∧ x3 < (x2.length : Int) then (
          let v5 : Int := rdT ((.int .i64) : Ty) x2 x3
          if !(v4 == v5) then
            some (.inr (.inl ((false, ()), ())))
          else
            let v6 : Int := IntKind.i64.wrap (x3 + 1)
            ref_SameInts_l4 n k ((x1, x2, v6, ()), ())) else none) else none
    else
      some (.inl ((), ()))
def ref_SameInts : Nat → ref_SameInts_ins.T → Option (OutsT ref_SameInts_outs)
  | 0, _ => none
  | n + 1, ((x1, x2, _), _) =>
    if (x1.length : Int) != (x2.length : Int) then
      some ((false, ()), ())
    else
      match ref_SameInts_l4 n n ((x1, x2, 0, ()), ()) with
      | some (.inl (_, _)) => (
        some ((true, ()), ()))
      | some (.inr (.inl ((x3, _), _))) => (
        some ((x3, ()), ()))
      | some (.inr (.inr (_))) => none
      | none => none
def ref_SameInts_H (n : Nat) : Hints := ⟨[], fun _ => [], fun k => match k with | 4 => some ⟨[0, 1, 5], ref_SameInts_l4_h, ref_SameInts_l4_o, ref_SameInts_l4 n⟩ | _ => none, fun _ => none, fun _ => none, fun _ => 0⟩
def ref_SameInts_O (n : Nat) : FuncId → List FSpec := asc []
def b20 : Code := bodyOf Tryd.f20
theorem ref_SameInts_l4_k0 (n : Nat) : LoopOk P CC (ref_SameInts_O n) n 0 29 (ref_SameInts_H n) ⟨[0, 1, 5], ref_SameInts_l4_h, ref_SameInts_l4_o, ref_SameInts_l4 n⟩ ((loopsOf b20).getD 0 .skip) := by
  refine ⟨fun _ => by kernel_rfl, ?_⟩
  rintro k ⟨⟨x1, x2, x3, ⟨⟩⟩, ⟨⟩⟩
  kernel_rfl
theorem ref_SameInts_ok {S : Nat → Addr} (ok : CfgOk P CC S) : ∀ n, SpecOk P CC S 20 ⟨ref_SameInts_ins, ref_SameInts_outs, ref_SameInts n⟩ :=
  fn_all ok (O := ref_SameInts_O) (H := ref_SameInts_H) (fn := Tryd.f20) (body := b20) (by kernel_rfl) (by kernel_rfl) (by kernel_rfl) (by decide) (by kernel_rfl)
    (fun x => by kernel_rfl) (fun n => by
      rintro ⟨⟨x1, x2, ⟨⟩⟩, ⟨⟩⟩
      kernel_rfl)
    (fun n => obl_of (by kernel_rfl) (by kernel_rfl) (ls (lz) (by kernel_rfl) (ref_SameInts_l4_k0 n)) (cn (cn (cn (cn (cn (cn (cn (cn (cn (cn (cn (cn (cn (cz) (by kernel_rfl)) (by kernel_rfl)) (by kernel_rfl)) (by kernel_rfl)) (by kernel_rfl)) (by kernel_rfl)) (by kernel_rfl)) (by kernel_rfl)) (by kernel_rfl)) (by kernel_rfl)) (by kernel_rfl)) (by kernel_rfl)) (by kernel_rfl)) (hn fun _ => rfl))
    (fun n ih => asc_nil)
/-! ### pendulum/pendulumref.SameCell -/
abbrev ref_SameCell_ins : Sh := ⟨[(.agg [(.val .str), (.val (.int .i64)), (.val (.int .i64))]), (.agg [(.val .str), (.val (.int .i64)), (.val (.int .i64))])], []⟩
abbrev ref_SameCell_outs : List Sh := [⟨[(.one (.val .bool))], []⟩]
def ref_SameCell : Nat → ref_SameCell_ins.T → Option (OutsT ref_SameCell_outs)
  | 0, _ => none
  | n + 1, (((x1, x2, x3, _), (x4, x5, x6, _), _), _) =>
    if strEq x1 x4 then
      if x2 == x5 then
        some ((x3 == x6, ()), ())
      else
        some ((false, ()), ())
    else
      some ((false, ()), ())
def ref_SameCell_H (n : Nat) : Hints := ⟨[], fun _ => [], fun _ => none, fun _ => none, fun _ => none, fun _ => 0⟩
def ref_SameCell_O (n : Nat) : FuncId → List FSpec := asc []
def b40 : Code := bodyOf Tryd.f40
theorem ref_SameCell_ok {S : Nat → Addr} (ok : CfgOk P CC S) : ∀ n, SpecOk P CC S 40 ⟨ref_SameCell_ins, ref_SameCell_outs, ref_SameCell n⟩ :=
  fn_all ok (O := ref_SameCell_O) (H := ref_SameCell_H) (fn := Tryd.f40) (body := b40) (by kernel_rfl) (by kernel_rfl) (by kernel_rfl) (by decide) (by kernel_rfl)
    (fun x => by kernel_rfl) (fun n => by
      rintro ⟨⟨⟨x1, x2, x3, ⟨⟩⟩, ⟨x4, x5, x6, ⟨⟩⟩, ⟨⟩⟩, ⟨⟩⟩
      kernel_rfl)
    (fun n => obl_of (by kernel_rfl) (by kernel_rfl) (lz) (cn (cn (cz) (by kernel_rfl)) (by kernel_rfl)) (hn fun _ => rfl))
    (fun n ih => asc_nil)
/-! ### pendulum/pendulumref.SameCells -/
abbrev ref_SameCells_ins : Sh := ⟨[(.one (.val ty9)), (.one (.val ty9))], []⟩
abbrev ref_SameCells_outs : List Sh := [⟨[(.one (.val .bool))], []⟩]
abbrev ref_SameCells_l4_h : Sh := ⟨[(.one (.val ty9)), (.one (.val ty9)), (.one (.val (.int .i64)))], []⟩
abbrev ref_SameCells_l4_o : List Out := [⟨(.exit 0), [], ⟨[], []⟩⟩, ⟨.ret, [4], ⟨[(.one (.val .bool))], []⟩⟩]
def ref_SameCells_l4 (n : Nat) : Nat → ref_SameCells_l4_h.T → Option (OutT ref_SameCells_l4_o)
  | 0, _ => none
  | k + 1, ((x1, x2, x3, _), _) =>
    if decide (x3 < (x1.length : Int)) then
      if 0 ≤ x3 ∧ x3 < (x1.length : Int) then (
        if 0 ≤ x3 ∧ x3 < (x2.length : Int) then (
          match ref_SameCell n ((((rdT ty0 x1 x3).1, ((rdT ty0 x1 x3).2).1, ((rdT ty0 x1 x3).2).2, ()), ((rdT ty0 x2 x3).1, ((rdT ty0 x2 x3).2).1, ((rdT ty0 x2 x3).2).2, ()), ()), ()) with
          | some ((x4, _), _) => (
            if !x4 then
              some (.inr (.inl ((false, ()), ())))
            else
              let v5 : Int := IntKind.i64.wrap (x3 + 1)
              ref_SameCells_l4 n k ((x1, x2, v5, ()), ()))
          | none => none) else none) else none
    else
      some (.inl ((), ()))
def ref_SameCells : Nat → ref_SameCells_ins.T → Option (OutsT ref_SameCells_outs)
  | 0, _ => none
  | n + 1, ((x1, x2, _), _) =>
    if (x1.length : Int) != (x2.length : Int) then
      some ((false, ()), ())
    else
      match ref_SameCells_l4 n n ((x1, x2, 0, ()), ()) with
      | some (.inl (_, _)) => (
        some ((true, ()), ()))
      | some (.inr (.inl ((x3, _), _))) => (
        some ((x3, ()), ()))
      | some (.inr (.inr (_))) => none
      | none => none
def ref_SameCells_H (n : Nat) : Hints := ⟨[], fun _ => [], fun k => match k with | 4 => some ⟨[0, 1, 5], ref_SameCells_l4_h, ref_SameCells_l4_o, ref_SameCells_l4 n⟩ | _ => none, fun _ => none, fun _ => none, fun _ => 0⟩
def ref_SameCells_O (n : Nat) : FuncId → List FSpec := asc [(40, ⟨ref_SameCell_ins, ref_SameCell_outs, ref_SameCell n⟩)]
def b21 : Code := bodyOf Tryd.f21
theorem ref_SameCells_l4_k0 (n : Nat) : LoopOk P CC (ref_SameCells_O n) n 0 29 (ref_SameCells_H n) ⟨[0, 1, 5], ref_SameCells_l4_h, ref_SameCells_l4_o, ref_SameCells_l4 n⟩ ((loopsOf b21).getD 0 .skip) := by
  refine ⟨fun _ => by kernel_rfl, ?_⟩
  rintro k ⟨⟨x1, x2, x3, ⟨⟩⟩, ⟨⟩⟩
  kernel_rfl
theorem ref_SameCells_ok {S : Nat → Addr} (ok : CfgOk P CC S) : ∀ n, SpecOk P CC S 21 ⟨ref_SameCells_ins, ref_SameCells_outs, ref_SameCells n⟩ :=
  fn_all ok (O := ref_SameCells_O) (H := ref_SameCells_H) (fn := Tryd.f21) (body := b21) (by kernel_rfl) (by kernel_rfl) (by kernel_rfl) (by decide) (by kernel_rfl)
    (fun x => by kernel_rfl) (fun n => by
      rintro ⟨⟨x1, x2, ⟨⟩⟩, ⟨⟩⟩
      kernel_rfl)
    (fun n => obl_of (by kernel_rfl) (by kernel_rfl) (ls (lz) (by kernel_rfl) (ref_SameCells_l4_k0 n)) (cn (cn (cn (cn (cn (cn (cn (cn (cn (cn (cn (cn (cn (cz) (by kernel_rfl)) (by kernel_rfl)) (by kernel_rfl)) (by kernel_rfl)) (by kernel_rfl)) (by kernel_rfl)) (by kernel_rfl)) (by kernel_rfl)) (by kernel_rfl)) (by kernel_rfl)) (by kernel_rfl)) (by kernel_rfl)) (by kernel_rfl)) (hn fun _ => rfl))
    (fun n ih => asc_cons (ref_SameCell_ok ok n) <| asc_nil)
/-! ### pendulum/pendulumref.SameInst -/
abbrev ref_SameInst_ins : Sh := ⟨[(.agg [(.val .str), (.val .str)]), (.agg [(.val .str), (.val .str)])], []⟩
abbrev ref_SameInst_outs : List Sh := [⟨[(.one (.val .bool))], []⟩]
def ref_SameInst : Nat → ref_SameInst_ins.T → Option (OutsT ref_SameInst_outs)
  | 0, _ => none
  | n + 1, (((x1, x2, _), (x3, x4, _), _), _) =>
    if strEq x1 x3 then
      some ((strEq x2 x4, ()), ())
    else
      some ((false, ()), ())
def ref_SameInst_H (n : Nat) : Hints := ⟨[], fun _ => [], fun _ => none, fun _ => none, fun _ => none, fun _ => 0⟩
def ref_SameInst_O (n : Nat) : FuncId → List FSpec := asc []
def b41 : Code := bodyOf Tryd.f41
theorem ref_SameInst_ok {S : Nat → Addr} (ok : CfgOk P CC S) : ∀ n, SpecOk P CC S 41 ⟨ref_SameInst_ins, ref_SameInst_outs, ref_SameInst n⟩ :=
  fn_all ok (O := ref_SameInst_O) (H := ref_SameInst_H) (fn := Tryd.f41) (body := b41) (by kernel_rfl) (by kernel_rfl) (by kernel_rfl) (by decide) (by kernel_rfl)
    (fun x => by kernel_rfl) (fun n => by
      rintro ⟨⟨⟨x1, x2, ⟨⟩⟩, ⟨x3, x4, ⟨⟩⟩, ⟨⟩⟩, ⟨⟩⟩
      kernel_rfl)
    (fun n => obl_of (by kernel_rfl) (by kernel_rfl) (lz) (cn (cn (cz) (by kernel_rfl)) (by kernel_rfl)) (hn fun _ => rfl))
    (fun n ih => asc_nil)
/-! ### pendulum/pendulumref.SameInsts -/
abbrev ref_SameInsts_ins : Sh := ⟨[(.one (.val ty10)), (.one (.val ty10))], []⟩
abbrev ref_SameInsts_outs : List Sh := [⟨[(.one (.val .bool))], []⟩]
abbrev ref_SameInsts_l4_h : Sh := ⟨[(.one (.val ty10)), (.one (.val ty10)), (.one (.val (.int .i64)))], []⟩
abbrev ref_SameInsts_l4_o : List Out := [⟨(.exit 0), [], ⟨[], []⟩⟩, ⟨.ret, [4], ⟨[(.one (.val .bool))], []⟩⟩]
def ref_SameInsts_l4 (n : Nat) : Nat → ref_SameInsts_l4_h.T → Option (OutT ref_SameInsts_l4_o)
  | 0, _ => none
  | k + 1, ((x1, x2, x3, _), _) =>
    if decide (x3 < (x1.length : Int)) then
      if 0 ≤ x3 ∧ x3 < (x1.length : Int) then (
        if 0 ≤ x3 ∧ x3 < (x2.length : Int) then (
          match ref_SameInst n ((((rdT ty2 x1 x3).1, (rdT ty2 x1 x3).2, ()), ((rdT ty2 x2 x3).1, (rdT ty2 x2 x3).2, ()), ()), ()) with
          | some ((x4, _), _) => (
            if !x4 then
              some (.inr (.inl ((false, ()), ())))
            else
              let v5 : Int := IntKind.i64.wrap (x3 + 1)
              ref_SameInsts_l4 n k ((x1, x2, v5, ()), ()))
          | none => none) else none) else none
    else
      some (.inl ((), ()))
def ref_SameInsts : Nat → ref_SameInsts_ins.T → Option (OutsT ref_SameInsts_outs)
  | 0, _ => none
  | n + 1, ((x1, x2, _), _) =>
    if (x1.length : Int) != (x2.length : Int) then
      some ((false, ()), ())
    else
      match ref_SameInsts_l4 n n ((x1, x2, 0, ()), ()) with
      | some (.inl (_, _)) => (
        some ((true, ()), ()))
      | some (.inr (.inl ((x3, _), _))) => (
        some ((x3, ()), ()))
      | some (.inr (.inr (_))) => none
      | none => none
def ref_SameInsts_H (n : Nat) : Hints := ⟨[], fun _ => [], fun k => match k with | 4 => some ⟨[0, 1, 5], ref_SameInsts_l4_h, ref_SameInsts_l4_o, ref_SameInsts_l4 n⟩ | _ => none, fun _ => none, fun _ => none, fun _ => 0⟩
def ref_SameInsts_O (n : Nat) : FuncId → List FSpec := asc [(41, ⟨ref_SameInst_ins, ref_SameInst_outs, ref_SameInst n⟩)]
def b22 : Code := bodyOf Tryd.f22
theorem ref_SameInsts_l4_k0 (n : Nat) : LoopOk P CC (ref_SameInsts_O n) n 0 29 (ref_SameInsts_H n) ⟨[0, 1, 5], ref_SameInsts_l4_h, ref_SameInsts_l4_o, ref_SameInsts_l4 n⟩ ((loopsOf b22).getD 0 .skip) := by
  refine ⟨fun _ => by kernel_rfl, ?_⟩
  rintro k ⟨⟨x1, x2, x3, ⟨⟩⟩, ⟨⟩⟩
  kernel_rfl
theorem ref_SameInsts_ok {S : Nat → Addr} (ok : CfgOk P CC S) : ∀ n, SpecOk P CC S 22 ⟨ref_SameInsts_ins, ref_SameInsts_outs, ref_SameInsts n⟩ :=
  fn_all ok (O := ref_SameInsts_O) (H := ref_SameInsts_H) (fn := Tryd.f22) (body := b22) (by kernel_rfl) (by kernel_rfl) (by kernel_rfl) (by decide) (by kernel_rfl)
    (fun x => by kernel_rfl) (fun n => by
      rintro ⟨⟨x1, x2, ⟨⟩⟩, ⟨⟩⟩
      kernel_rfl)
    (fun n => obl_of (by kernel_rfl) (by kernel_rfl) (ls (lz) (by kernel_rfl) (ref_SameInsts_l4_k0 n)) (cn (cn (cn (cn (cn (cn (cn (cn (cn (cn (cn (cn (cn (cz) (by kernel_rfl)) (by kernel_rfl)) (by kernel_rfl)) (by kernel_rfl)) (by kernel_rfl)) (by kernel_rfl)) (by kernel_rfl)) (by kernel_rfl)) (by kernel_rfl)) (by kernel_rfl)) (by kernel_rfl)) (by kernel_rfl)) (by kernel_rfl)) (hn fun _ => rfl))
    (fun n ih => asc_cons (ref_SameInst_ok ok n) <| asc_nil)
/-! ### pendulum/pendulumref.SameInstr -/
abbrev ref_SameInstr_ins : Sh := ⟨[(.agg [(.val (.int .i64)), (.val (.int .i64)), (.val (.int .i64)), (.val (.int .i64)), (.val (.int .i64)), (.val (.int .i64))]), (.agg [(.val (.int .i64)), (.val (.int .i64)), (.val (.int .i64)), (.val (.int .i64)), (.val (.int .i64)), (.val (.int .i64))])], []⟩
abbrev ref_SameInstr_outs : List Sh := [⟨[(.one (.val .bool))], []⟩]
def ref_SameInstr : Nat → ref_SameInstr_ins.T → Option (OutsT ref_SameInstr_outs)
  | 0, _ => none
  | n + 1, (((x1, x2, x3, x4, x5, x6, _), (x7, x8, x9, x10, x11, x12, _), _), _) =>
    if x1 == x7 then
      if x2 == x8 then
        if x3 == x9 then
          if x4 == x10 then
            if x5 == x11 then
              some ((x6 == x12, ()), ())
            else
              some ((false, ()), ())
          else
            some ((false, ()), ())
        else
          some ((false, ()), ())
      else
        some ((false, ()), ())
    else
      some ((false, ()), ())
def ref_SameInstr_H (n : Nat) : Hints := ⟨[], fun _ => [], fun _ => none, fun _ => none, fun _ => none, fun _ => 0⟩
def ref_SameInstr_O (n : Nat) : FuncId → List FSpec := asc []
def b42 : Code := bodyOf Tryd.f42
theorem ref_SameInstr_ok {S : Nat → Addr} (ok : CfgOk P CC S) : ∀ n, SpecOk P CC S 42 ⟨ref_SameInstr_ins, ref_SameInstr_outs, ref_SameInstr n⟩ :=
  fn_all ok (O := ref_SameInstr_O) (H := ref_SameInstr_H) (fn := Tryd.f42) (body := b42) (by kernel_rfl) (by kernel_rfl) (by kernel_rfl) (by decide) (by kernel_rfl)
    (fun x => by kernel_rfl) (fun n => by
      rintro ⟨⟨⟨x1, x2, x3, x4, x5, x6, ⟨⟩⟩, ⟨x7, x8, x9, x10, x11, x12, ⟨⟩⟩, ⟨⟩⟩, ⟨⟩⟩
      kernel_rfl)
    (fun n => obl_of (by kernel_rfl) (by kernel_rfl) (lz) (cn (cn (cz) (by kernel_rfl)) (by kernel_rfl)) (hn fun _ => rfl))
    (fun n ih => asc_nil)
end
end Go.Proofs.YtgbpbmdhphfdgaaDoor.Cm

/- Printed by cmtext.py: the code as plain functions. -/
import Derived.Test.YtjccbolnjnefiaaDoorCmFo
import Derived.Test.YtjccbolnjnefiaaDoorShelf
namespace Go.Proofs.YtjccbolnjnefiaaDoor.Cm
open Go
noncomputable section
set_option linter.unusedVariables false
set_option maxRecDepth 100000
abbrev P := Tryd.prog
abbrev CC : Cfg := ⟨134, 103, 107, [(103, 1), (104, 2), (109, 0)], [(5, tabP (fun z => Value.int .u64 z) Lib.pow10Tab)]⟩
abbrev ty1 : Ty := (.pair (.int .i64) (.int .i64))
abbrev ty0 : Ty := (.pair .str ty1)
abbrev ty2 : Ty := (.pair .str .str)
abbrev ty3 : Ty := (.slice 3 (.int .i64))
abbrev ty7 : Ty := (.pair (.int .i64) ty1)
abbrev ty6 : Ty := (.pair (.int .i64) ty7)
abbrev ty5 : Ty := (.pair (.int .i64) ty6)
abbrev ty4 : Ty := (.pair (.int .i64) ty5)
abbrev ty8 : Ty := (.slice 9 .str)
abbrev ty9 : Ty := (.slice 51 ty0)
abbrev ty10 : Ty := (.slice 54 ty2)
abbrev ty11 : Ty := (.slice 26 ty4)
abbrev ty12 : Ty := (.slice 5 (.int .u8))
/-! ### strconv.Itoa (by hand) -/
abbrev strconv_Itoa_ins : Sh := ⟨[(.one (.val (.int .i64)))], []⟩
abbrev strconv_Itoa_outs : Sh := ⟨[(.one (.val .str))], []⟩
def strconv_Itoa : Nat → strconv_Itoa_ins.T → Option strconv_Itoa_outs.T := fun _ => itoaSem
theorem strconv_Itoa_ok {S : Nat → Addr} (ok : CfgOk P CC S) : ∀ n, SpecOk P CC S 31 ⟨strconv_Itoa_ins, strconv_Itoa_outs, strconv_Itoa n⟩ := fun n => itoa_spec ⟨Tryd.f31, by kernel_rfl, by kernel_rfl, by kernel_rfl⟩ (.head _) (by kernel_rfl) Tryd.strconv_Itoa
/-! ### strconv.FormatInt (by hand) -/
abbrev strconv_FormatInt_ins : Sh := ⟨[(.one (.val (.int .i64))), (.one (.val (.int .i64)))], []⟩
abbrev strconv_FormatInt_outs : Sh := ⟨[(.one (.val .str))], []⟩
def strconv_FormatInt : Nat → strconv_FormatInt_ins.T → Option strconv_FormatInt_outs.T := fun _ => fmtSem
theorem strconv_FormatInt_ok {S : Nat → Addr} (ok : CfgOk P CC S) : ∀ n, SpecOk P CC S 32 ⟨strconv_FormatInt_ins, strconv_FormatInt_outs, strconv_FormatInt n⟩ := fun n => fmt_spec ⟨Tryd.f32, by kernel_rfl, by kernel_rfl, by kernel_rfl⟩ (.head _) (by kernel_rfl) Tryd.strconv_FormatInt_10
/-! ### strings.Join (by hand) -/
abbrev strings_Join_ins : Sh := ⟨[(.one (.val ty8)), (.one (.val .str))], []⟩
abbrev strings_Join_outs : Sh := ⟨[(.one (.val .str))], []⟩
def strings_Join : Nat → strings_Join_ins.T → Option strings_Join_outs.T := fun _ => joinSem 9
theorem strings_Join_ok {S : Nat → Addr} (ok : CfgOk P CC S) : ∀ n, SpecOk P CC S 30 ⟨strings_Join_ins, strings_Join_outs, strings_Join n⟩ := fun n => join_spec ⟨Tryd.f30, by kernel_rfl, by kernel_rfl, by kernel_rfl⟩ Tryd.strings_Join_none Tryd.strings_Join
/-! ### pendulum/code.Text -/
abbrev code_Text_ins : Sh := ⟨[(.agg [(.val (.int .i64)), (.val (.int .i64)), (.val (.int .i64)), (.val (.int .i64)), (.val (.int .i64)), (.val (.int .i64))])], []⟩
abbrev code_Text_outs : Sh := ⟨[(.one (.val .str))], []⟩
abbrev code_Text_c5_h : Sh := ⟨[(.one (.ptr 0 0)), (.one (.arr 1)), (.one (.val .str))], [(.obj 26 [(.val (.int .i64)), (.val (.int .i64)), (.val (.int .i64)), (.val (.int .i64)), (.val (.int .i64)), (.val (.int .i64))]), (.arr 9 .str)]⟩
abbrev code_Text_c5_o : List Out := [⟨.normal, [1, 4], ⟨[(.one (.ptr 0 0)), (.one (.val .str))], [(.obj 26 [(.val (.int .i64)), (.val (.int .i64)), (.val (.int .i64)), (.val (.int .i64)), (.val (.int .i64)), (.val (.int .i64))])]⟩⟩]
def code_Text_c5 (n : Nat) : code_Text_c5_h.T → Option (OutT code_Text_c5_o)
  | ((_, _, x1, _), ((x2, x3, x4, x5, x6, x7, _), l8, _)) =>
    if decide (x2 ≥ 1) then
      if decide (x2 ≤ 12) then
        let v9 : Int := IntKind.i64.wrap (x2 - 1)
        if 0 ≤ v9 ∧ v9 < (l8.length : Int) then (
          some (.inl (((), rdT (.str : Ty) l8 v9, ()), ((x2, x3, x4, x5, x6, x7, ()), ())))) else none
      else
        some (.inl (((), x1, ()), ((x2, x3, x4, x5, x6, x7, ()), ())))
    else
      some (.inl (((), x1, ()), ((x2, x3, x4, x5, x6, x7, ()), ())))
def code_Text : Nat → code_Text_ins.T → Option code_Text_outs.T
  | 0, _ => none
  | n + 1, (((x1, x2, x3, x4, x5, x6, _), _), _) =>
    match code_Text_c5 n (((), (), (⟨#[]⟩ : ByteArray), ()), ((x1, x2, x3, x4, x5, x6, ()), [(⟨#[99, 111, 110, 115, 116]⟩ : ByteArray), (⟨#[109, 111, 118, 101]⟩ : ByteArray), (⟨#[108, 111, 97, 100]⟩ : ByteArray), (⟨#[115, 116, 111, 114, 101]⟩ : ByteArray), (⟨#[111, 110, 101]⟩ : ByteArray), (⟨#[116, 119, 111]⟩ : ByteArray), (⟨#[109, 117, 120]⟩ : ByteArray), (⟨#[122, 101, 114, 111]⟩ : ByteArray), (⟨#[106, 117, 109, 112]⟩ : ByteArray), (⟨#[114, 101, 115, 101, 116]⟩ : ByteArray), (⟨#[99, 97, 108, 108]⟩ : ByteArray), (⟨#[101, 110, 100]⟩ : ByteArray)], ())) with
    | some (.inl ((_, x7, _), ((x8, x9, x10, x11, x12, x13, _), _))) => (
      match strconv_Itoa n ((x9, ()), ()) with
      | some ((x14, _), _) => (
        match strconv_Itoa n ((x10, ()), ()) with
        | some ((x15, _), _) => (
          match strconv_Itoa n ((x11, ()), ()) with
          | some ((x16, _), _) => (
            match strconv_Itoa n ((x12, ()), ()) with
            | some ((x17, _), _) => (
              match strconv_FormatInt n ((x13, 10, ()), ()) with
              | some ((x18, _), _) => (
                match strings_Join n (([x7, x14, x15, x16, x17, x18], (⟨#[32]⟩ : ByteArray), ()), ()) with
                | some ((x19, _), _) => (
                  some ((x19, ()), ()))
                | none => none)
              | none => none)
            | none => none)
          | none => none)
        | none => none)
      | none => none)
    | some (.inr (_)) => none
    | none => none
def code_Text_H (n : Nat) : Hints := ⟨[], fun _ => [], fun _ => none, fun k => match k with | 5 => some ⟨[1, 3, 4], code_Text_c5_h, code_Text_c5_o, fun n => code_Text_c5 n⟩ | _ => none⟩
def code_Text_O (n : Nat) : FuncId → List FSpec := asc [(30, ⟨strings_Join_ins, strings_Join_outs, strings_Join n⟩), (31, ⟨strconv_Itoa_ins, strconv_Itoa_outs, strconv_Itoa n⟩), (32, ⟨strconv_FormatInt_ins, strconv_FormatInt_outs, strconv_FormatInt n⟩)]
def b15 : Code := bodyOf Tryd.f15
theorem code_Text_c5_k3 (n : Nat) : CutOk P CC (code_Text_O n) n 0 38 (code_Text_H n) ⟨[1, 3, 4], code_Text_c5_h, code_Text_c5_o, fun n => code_Text_c5 n⟩ ((cutsOf b15).getD 3 (0, .skip)).2 := by
  rintro ⟨⟨⟨⟩, ⟨⟩, x1, ⟨⟩⟩, ⟨⟨x2, x3, x4, x5, x6, x7, ⟨⟩⟩, x8, ⟨⟩⟩⟩
  kernel_rfl
theorem code_Text_ok {S : Nat → Addr} (ok : CfgOk P CC S) : ∀ n, SpecOk P CC S 15 ⟨code_Text_ins, code_Text_outs, code_Text n⟩ :=
  fn_all ok (O := code_Text_O) (H := code_Text_H) (fn := Tryd.f15) (body := b15) (by kernel_rfl) (by kernel_rfl) (by kernel_rfl) (by decide) (by kernel_rfl)
    (fun x => by kernel_rfl) (fun n => by
      rintro ⟨⟨⟨x1, x2, x3, x4, x5, x6, ⟨⟩⟩, ⟨⟩⟩, ⟨⟩⟩
      kernel_rfl)
    (fun n => obl_of (by kernel_rfl) (by kernel_rfl) (lz) (cn (cn (cs (cn (cn (cn (cz) (by kernel_rfl)) (by kernel_rfl)) (by kernel_rfl)) (by kernel_rfl) (code_Text_c5_k3 n)) (by kernel_rfl)) (by kernel_rfl)))
    (fun n ih => asc_cons (strings_Join_ok ok n) <| asc_cons (strconv_Itoa_ok ok n) <| asc_cons (strconv_FormatInt_ok ok n) <| asc_nil)
/-! ### pendulum/pendulumlaw21.first -/
abbrev law21_first_ins : Sh := ⟨[], []⟩
abbrev law21_first_outs : Sh := ⟨[(.one (.val .bool))], []⟩
def law21_first : Nat → law21_first_ins.T → Option law21_first_outs.T
  | 0, _ => none
  | n + 1, (_, _) =>
    match code_Text n (((12, 0, 0, 0, 0, 0, ()), ()), ()) with
    | some ((x1, _), _) => (
      some ((strEq x1 (⟨#[101, 110, 100, 32, 48, 32, 48, 32, 48, 32, 48, 32, 48]⟩ : ByteArray), ()), ()))
    | none => none
def law21_first_H (n : Nat) : Hints := ⟨[], fun _ => [], fun _ => none, fun _ => none⟩
def law21_first_O (n : Nat) : FuncId → List FSpec := asc [(15, ⟨code_Text_ins, code_Text_outs, code_Text n⟩)]
def b6 : Code := bodyOf Tryd.f6
theorem law21_first_ok {S : Nat → Addr} (ok : CfgOk P CC S) : ∀ n, SpecOk P CC S 6 ⟨law21_first_ins, law21_first_outs, law21_first n⟩ :=
  fn_all ok (O := law21_first_O) (H := law21_first_H) (fn := Tryd.f6) (body := b6) (by kernel_rfl) (by kernel_rfl) (by kernel_rfl) (by decide) (by kernel_rfl)
    (fun x => by kernel_rfl) (fun n => by
      rintro ⟨⟨⟩, ⟨⟩⟩
      kernel_rfl)
    (fun n => obl_of (by kernel_rfl) (by kernel_rfl) (lz) (cn (cn (cz) (by kernel_rfl)) (by kernel_rfl)))
    (fun n ih => asc_cons (code_Text_ok ok n) <| asc_nil)
/-! ### pendulum/pendulumworld.Object -/
abbrev world_Object_ins : Sh := ⟨[(.agg [(.val .str), (.val ty3), (.val ty3), (.val (.int .i64)), (.val ty9), (.val ty10), (.val ty11)])], []⟩
abbrev world_Object_outs : Sh := ⟨[(.one (.val .bool))], []⟩
abbrev world_Object_l4_h : Sh := ⟨[(.one (.ptr 0 0)), (.one (.val (.int .i64)))], [(.obj 32 [(.val .str), (.val ty3), (.val ty3), (.val (.int .i64)), (.val ty9), (.val ty10), (.val ty11)])]⟩
abbrev world_Object_l4_o : List Out := [⟨(.exit 0), [1], ⟨[(.one (.ptr 0 0))], [(.obj 32 [(.val .str), (.val ty3), (.val ty3), (.val (.int .i64)), (.val ty9), (.val ty10), (.val ty11)])]⟩⟩, ⟨.ret, [2], ⟨[(.one (.val .bool))], []⟩⟩]
def world_Object_l4 (n : Nat) : Nat → world_Object_l4_h.T → Option (OutT world_Object_l4_o)
  | 0, _ => none
  | k + 1, ((_, x1, _), ((x2, x3, x4, x5, x6, x7, x8, _), _)) =>
    if decide (x1 < (x6.length : Int)) then
      if 0 ≤ x1 ∧ x1 < (x6.length : Int) then (
        if decide ((((rdT ty0 x6 x1).1).size : Int) > 300) then
          some (.inr (.inl ((false, ()), ())))
        else
          let v9 : Int := IntKind.i64.wrap (x1 + 1)
          world_Object_l4 n k (((), v9, ()), ((x2, x3, x4, x5, x6, x7, x8, ()), ()))) else none
    else
      some (.inl (((), ()), ((x2, x3, x4, x5, x6, x7, x8, ()), ())))
abbrev world_Object_l9_h : Sh := ⟨[(.one (.ptr 0 0)), (.one (.val (.int .i64)))], [(.obj 32 [(.val .str), (.val ty3), (.val ty3), (.val (.int .i64)), (.val ty9), (.val ty10), (.val ty11)])]⟩
abbrev world_Object_l9_o : List Out := [⟨(.exit 2), [], ⟨[], []⟩⟩, ⟨.ret, [2], ⟨[(.one (.val .bool))], []⟩⟩]
def world_Object_l9 (n : Nat) : Nat → world_Object_l9_h.T → Option (OutT world_Object_l9_o)
  | 0, _ => none
  | k + 1, ((_, x1, _), ((x2, x3, x4, x5, x6, x7, x8, _), _)) =>
    if decide (x1 < (x7.length : Int)) then
      if 0 ≤ x1 ∧ x1 < (x7.length : Int) then (
        if decide ((((rdT ty2 x7 x1).1).size : Int) > 300) then
          some (.inr (.inl ((false, ()), ())))
        else
          if 0 ≤ x1 ∧ x1 < (x7.length : Int) then (
            if decide ((((rdT ty2 x7 x1).2).size : Int) > 300) then
              some (.inr (.inl ((false, ()), ())))
            else
              let v9 : Int := IntKind.i64.wrap (x1 + 1)
              world_Object_l9 n k (((), v9, ()), ((x2, x3, x4, x5, x6, x7, x8, ()), ()))) else none) else none
    else
      some (.inl ((), ()))
def world_Object : Nat → world_Object_ins.T → Option world_Object_outs.T
  | 0, _ => none
  | n + 1, (((x1, x2, x3, x4, x5, x6, x7, _), _), _) =>
    if decide ((x1.size : Int) > 300) then
      some ((false, ()), ())
    else
      if decide ((x2.length : Int) > 80) then
        some ((false, ()), ())
      else
        if decide ((x3.length : Int) > 80) then
          some ((false, ()), ())
        else
          if decide ((x5.length : Int) > 60) then
            some ((false, ()), ())
          else
            if decide ((x6.length : Int) > 30) then
              some ((false, ()), ())
            else
              if decide ((x7.length : Int) > 200) then
                some ((false, ()), ())
              else
                match world_Object_l4 n n (((), 0, ()), ((x1, x2, x3, x4, x5, x6, x7, ()), ())) with
                | some (.inl ((_, _), ((x8, x9, x10, x11, x12, x13, x14, _), _))) => (
                  match world_Object_l9 n n (((), 0, ()), ((x8, x9, x10, x11, x12, x13, x14, ()), ())) with
                  | some (.inl (_, _)) => (
                    some ((true, ()), ()))
                  | some (.inr (.inl ((x16, _), _))) => (
                    some ((x16, ()), ()))
                  | some (.inr (.inr (_))) => none
                  | none => none)
                | some (.inr (.inl ((x15, _), _))) => (
                  some ((x15, ()), ()))
                | some (.inr (.inr (_))) => none
                | none => none
def world_Object_H (n : Nat) : Hints := ⟨[], fun _ => [], fun k => match k with | 4 => some ⟨[1, 3], world_Object_l4_h, world_Object_l4_o, world_Object_l4 n⟩ | 9 => some ⟨[1, 4], world_Object_l9_h, world_Object_l9_o, world_Object_l9 n⟩ | _ => none, fun _ => none⟩
def world_Object_O (n : Nat) : FuncId → List FSpec := asc []
def b10 : Code := bodyOf Tryd.f10
theorem world_Object_l4_k0 (n : Nat) : LoopOk P CC (world_Object_O n) n 0 79 (world_Object_H n) ⟨[1, 3], world_Object_l4_h, world_Object_l4_o, world_Object_l4 n⟩ ((loopsOf b10).getD 0 .skip) := by
  refine ⟨fun _ => by kernel_rfl, ?_⟩
  rintro k ⟨⟨⟨⟩, x1, ⟨⟩⟩, ⟨⟨x2, x3, x4, x5, x6, x7, x8, ⟨⟩⟩, ⟨⟩⟩⟩
  kernel_rfl
theorem world_Object_l9_k1 (n : Nat) : LoopOk P CC (world_Object_O n) n 0 79 (world_Object_H n) ⟨[1, 4], world_Object_l9_h, world_Object_l9_o, world_Object_l9 n⟩ ((loopsOf b10).getD 1 .skip) := by
  refine ⟨fun _ => by kernel_rfl, ?_⟩
  rintro k ⟨⟨⟨⟩, x1, ⟨⟩⟩, ⟨⟨x2, x3, x4, x5, x6, x7, x8, ⟨⟩⟩, ⟨⟩⟩⟩
  kernel_rfl
theorem world_Object_ok {S : Nat → Addr} (ok : CfgOk P CC S) : ∀ n, SpecOk P CC S 10 ⟨world_Object_ins, world_Object_outs, world_Object n⟩ :=
  fn_all ok (O := world_Object_O) (H := world_Object_H) (fn := Tryd.f10) (body := b10) (by kernel_rfl) (by kernel_rfl) (by kernel_rfl) (by decide) (by kernel_rfl)
    (fun x => by kernel_rfl) (fun n => by
      rintro ⟨⟨⟨x1, x2, x3, x4, x5, x6, x7, ⟨⟩⟩, ⟨⟩⟩, ⟨⟩⟩
      kernel_rfl)
    (fun n => obl_of (by kernel_rfl) (by kernel_rfl) (ls (ls (lz) (by kernel_rfl) (world_Object_l4_k0 n)) (by kernel_rfl) (world_Object_l9_k1 n)) (cn (cn (cn (cn (cn (cn (cn (cn (cn (cn (cn (cn (cn (cn (cn (cn (cn (cn (cn (cz) (by kernel_rfl)) (by kernel_rfl)) (by kernel_rfl)) (by kernel_rfl)) (by kernel_rfl)) (by kernel_rfl)) (by kernel_rfl)) (by kernel_rfl)) (by kernel_rfl)) (by kernel_rfl)) (by kernel_rfl)) (by kernel_rfl)) (by kernel_rfl)) (by kernel_rfl)) (by kernel_rfl)) (by kernel_rfl)) (by kernel_rfl)) (by kernel_rfl)) (by kernel_rfl)))
    (fun n ih => asc_nil)
/-! ### pendulum/code.fits$1 -/
abbrev code_fits_1_ins : Sh := ⟨[(.one (.val .str))], []⟩
abbrev code_fits_1_outs : Sh := ⟨[(.one (.val .bool))], []⟩
def code_fits_1 : Nat → code_fits_1_ins.T → Option code_fits_1_outs.T
  | 0, _ => none
  | n + 1, ((x1, _), _) =>
    some ((decide ((x1.size : Int) > 200), ()), ())
def code_fits_1_H (n : Nat) : Hints := ⟨[], fun _ => [], fun _ => none, fun _ => none⟩
def code_fits_1_O (n : Nat) : FuncId → List FSpec := asc []
def b34 : Code := bodyOf Tryd.f34
theorem code_fits_1_ok {S : Nat → Addr} (ok : CfgOk P CC S) : ∀ n, SpecOk P CC S 34 ⟨code_fits_1_ins, code_fits_1_outs, code_fits_1 n⟩ :=
  fn_all ok (O := code_fits_1_O) (H := code_fits_1_H) (fn := Tryd.f34) (body := b34) (by kernel_rfl) (by kernel_rfl) (by kernel_rfl) (by decide) (by kernel_rfl)
    (fun x => by kernel_rfl) (fun n => by
      rintro ⟨⟨x1, ⟨⟩⟩, ⟨⟩⟩
      kernel_rfl)
    (fun n => obl_of (by kernel_rfl) (by kernel_rfl) (lz) (cn (cn (cz) (by kernel_rfl)) (by kernel_rfl)))
    (fun n ih => asc_nil)
/-! ### slices.IndexFunc[[]string,string] -/
abbrev slices_IndexFunc_string_string_ins : Sh := ⟨[(.one (.val ty8)), (.one (.fn 34 []))], []⟩
abbrev slices_IndexFunc_string_string_outs : Sh := ⟨[(.one (.val (.int .i64)))], []⟩
abbrev slices_IndexFunc_string_string_l2_h : Sh := ⟨[(.one (.val ty8)), (.one (.fn 34 [])), (.one (.val (.int .i64))), (.one (.val (.int .i64)))], []⟩
abbrev slices_IndexFunc_string_string_l2_o : List Out := [⟨(.exit 0), [], ⟨[], []⟩⟩, ⟨.ret, [4], ⟨[(.one (.val (.int .i64)))], []⟩⟩]
def slices_IndexFunc_string_string_l2 (n : Nat) : Nat → slices_IndexFunc_string_string_l2_h.T → Option (OutT slices_IndexFunc_string_string_l2_o)
  | 0, _ => none
  | k + 1, ((x1, _, x2, x3, _), _) =>
    if decide (x3 < x2) then
      if 0 ≤ x3 ∧ x3 < (x1.length : Int) then (
        match code_fits_1 n ((rdT (.str : Ty) x1 x3, ()), ()) with
        | some ((x4, _), _) => (
          if x4 then
            some (.inr (.inl ((x3, ()), ())))
          else
            let v5 : Int := IntKind.i64.wrap (x3 + 1)
            slices_IndexFunc_string_string_l2 n k ((x1, (), x2, v5, ()), ()))
        | none => none) else none
    else
      some (.inl ((), ()))
def slices_IndexFunc_string_string : Nat → slices_IndexFunc_string_string_ins.T → Option slices_IndexFunc_string_string_outs.T
  | 0, _ => none
  | n + 1, ((x1, _, _), _) =>
    match slices_IndexFunc_string_string_l2 n n ((x1, (), (x1.length : Int), 0, ()), ()) with
    | some (.inl (_, _)) => (
      some (((-1), ()), ()))
    | some (.inr (.inl ((x2, _), _))) => (
      some ((x2, ()), ()))
    | some (.inr (.inr (_))) => none
    | none => none
def slices_IndexFunc_string_string_H (n : Nat) : Hints := ⟨[], fun _ => [], fun k => match k with | 2 => some ⟨[0, 1, 7, 8], slices_IndexFunc_string_string_l2_h, slices_IndexFunc_string_string_l2_o, slices_IndexFunc_string_string_l2 n⟩ | _ => none, fun _ => none⟩
def slices_IndexFunc_string_string_O (n : Nat) : FuncId → List FSpec := asc [(34, ⟨code_fits_1_ins, code_fits_1_outs, code_fits_1 n⟩)]
def b56 : Code := bodyOf Tryd.f56
theorem slices_IndexFunc_string_string_l2_k0 (n : Nat) : LoopOk P CC (slices_IndexFunc_string_string_O n) n 0 19 (slices_IndexFunc_string_string_H n) ⟨[0, 1, 7, 8], slices_IndexFunc_string_string_l2_h, slices_IndexFunc_string_string_l2_o, slices_IndexFunc_string_string_l2 n⟩ ((loopsOf b56).getD 0 .skip) := by
  refine ⟨fun _ => by kernel_rfl, ?_⟩
  rintro k ⟨⟨x1, ⟨⟩, x2, x3, ⟨⟩⟩, ⟨⟩⟩
  kernel_rfl
theorem slices_IndexFunc_string_string_ok {S : Nat → Addr} (ok : CfgOk P CC S) : ∀ n, SpecOk P CC S 56 ⟨slices_IndexFunc_string_string_ins, slices_IndexFunc_string_string_outs, slices_IndexFunc_string_string n⟩ :=
  fn_all ok (O := slices_IndexFunc_string_string_O) (H := slices_IndexFunc_string_string_H) (fn := Tryd.f56) (body := b56) (by kernel_rfl) (by kernel_rfl) (by kernel_rfl) (by decide) (by kernel_rfl)
    (fun x => by kernel_rfl) (fun n => by
      rintro ⟨⟨x1, ⟨⟩, ⟨⟩⟩, ⟨⟩⟩
      kernel_rfl)
    (fun n => obl_of (by kernel_rfl) (by kernel_rfl) (ls (lz) (by kernel_rfl) (slices_IndexFunc_string_string_l2_k0 n)) (cn (cn (cn (cn (cn (cn (cn (cn (cn (cn (cz) (by kernel_rfl)) (by kernel_rfl)) (by kernel_rfl)) (by kernel_rfl)) (by kernel_rfl)) (by kernel_rfl)) (by kernel_rfl)) (by kernel_rfl)) (by kernel_rfl)) (by kernel_rfl)))
    (fun n ih => asc_cons (code_fits_1_ok ok n) <| asc_nil)
/-! ### slices.ContainsFunc[[]string,string] -/
abbrev slices_ContainsFunc_string_string_ins : Sh := ⟨[(.one (.val ty8)), (.one (.fn 34 []))], []⟩
abbrev slices_ContainsFunc_string_string_outs : Sh := ⟨[(.one (.val .bool))], []⟩
def slices_ContainsFunc_string_string : Nat → slices_ContainsFunc_string_string_ins.T → Option slices_ContainsFunc_string_string_outs.T
  | 0, _ => none
  | n + 1, ((x1, _, _), _) =>
    match slices_IndexFunc_string_string n ((x1, (), ()), ()) with
    | some ((x2, _), _) => (
      some ((decide (x2 ≥ 0), ()), ()))
    | none => none
def slices_ContainsFunc_string_string_H (n : Nat) : Hints := ⟨[], fun _ => [], fun _ => none, fun _ => none⟩
def slices_ContainsFunc_string_string_O (n : Nat) : FuncId → List FSpec := asc [(56, ⟨slices_IndexFunc_string_string_ins, slices_IndexFunc_string_string_outs, slices_IndexFunc_string_string n⟩)]
def b33 : Code := bodyOf Tryd.f33
theorem slices_ContainsFunc_string_string_ok {S : Nat → Addr} (ok : CfgOk P CC S) : ∀ n, SpecOk P CC S 33 ⟨slices_ContainsFunc_string_string_ins, slices_ContainsFunc_string_string_outs, slices_ContainsFunc_string_string n⟩ :=
  fn_all ok (O := slices_ContainsFunc_string_string_O) (H := slices_ContainsFunc_string_string_H) (fn := Tryd.f33) (body := b33) (by kernel_rfl) (by kernel_rfl) (by kernel_rfl) (by decide) (by kernel_rfl)
    (fun x => by kernel_rfl) (fun n => by
      rintro ⟨⟨x1, ⟨⟩, ⟨⟩⟩, ⟨⟩⟩
      kernel_rfl)
    (fun n => obl_of (by kernel_rfl) (by kernel_rfl) (lz) (cn (cn (cz) (by kernel_rfl)) (by kernel_rfl)))
    (fun n ih => asc_cons (slices_IndexFunc_string_string_ok ok n) <| asc_nil)
/-! ### slices.Grow[[]int,int] -/
abbrev slices_Grow_int_int_ins : Sh := ⟨[(.one (.emp true)), (.one (.val (.int .i64)))], []⟩
abbrev slices_Grow_int_int_outs : Sh := ⟨[(.one (.arr 0))], [(.arr 3 (.int .i64))]⟩
def slices_Grow_int_int : Nat → slices_Grow_int_int_ins.T → Option slices_Grow_int_int_outs.T
  | 0, _ => none
  | n + 1, ((_, x1, _), _) =>
    if decide (x1 < 0) then
      none
    else
      let v2 : Int := IntKind.i64.wrap (x1 - 0)
      if decide (v2 > 0) then
        if 0 ≤ (0 : Int) ∧ (0 : Int) ≤ (0 : Int) then (
          if 0 < v2 ∧ v2 * ((8 : Nat) : Int) ≤ 140737488355328 then (
            if 0 ≤ (0 : Int) ∧ (0 : Int) ≤ ((List.replicate (v2 : Int).toNat 0).length : Int) then (
              some (((), ()), (cutL (List.replicate (v2 : Int).toNat 0) 0 0, ()))) else none) else none) else none
      else
        some (((), ()), ([], ()))
def slices_Grow_int_int_H (n : Nat) : Hints := ⟨[25], fun _ => [], fun _ => none, fun _ => none⟩
def slices_Grow_int_int_O (n : Nat) : FuncId → List FSpec := asc []
def b57 : Code := bodyOf Tryd.f57
theorem slices_Grow_int_int_ok {S : Nat → Addr} (ok : CfgOk P CC S) : ∀ n, SpecOk P CC S 57 ⟨slices_Grow_int_int_ins, slices_Grow_int_int_outs, slices_Grow_int_int n⟩ :=
  fn_all ok (O := slices_Grow_int_int_O) (H := slices_Grow_int_int_H) (fn := Tryd.f57) (body := b57) (by kernel_rfl) (by kernel_rfl) (by kernel_rfl) (by decide) (by kernel_rfl)
    (fun x => by kernel_rfl) (fun n => by
      rintro ⟨⟨⟨⟩, x1, ⟨⟩⟩, ⟨⟩⟩
      kernel_rfl)
    (fun n => obl_of (by kernel_rfl) (by kernel_rfl) (lz) (cn (cn (cn (cn (cn (cn (cn (cz) (by kernel_rfl)) (by kernel_rfl)) (by kernel_rfl)) (by kernel_rfl)) (by kernel_rfl)) (by kernel_rfl)) (by kernel_rfl)))
    (fun n ih => asc_nil)
/-! ### slices.Concat[[]int,int] -/
abbrev slices_Concat_int_int_ins : Sh := ⟨[(.one (.arr 0))], [(.arr 28 ty3)]⟩
abbrev slices_Concat_int_int_outs : Sh := ⟨[(.one (.arr 1))], [(.arr 28 ty3), (.arr 3 (.int .i64))]⟩
abbrev slices_Concat_int_int_l3_h : Sh := ⟨[(.one (.arr 0)), (.one (.val (.int .i64))), (.one (.arr 0)), (.one (.val (.int .i64))), (.one (.val (.int .i64)))], [(.arr 28 ty3)]⟩
abbrev slices_Concat_int_int_l3_o : List Out := [⟨(.exit 0), [0, 3], ⟨[(.one (.arr 0)), (.one (.val (.int .i64)))], [(.arr 28 ty3)]⟩⟩]
def slices_Concat_int_int_l3 (n : Nat) : Nat → slices_Concat_int_int_l3_h.T → Option (OutT slices_Concat_int_int_l3_o)
  | 0, _ => none
  | k + 1, ((_, x1, _, x2, x3, _), (l4, _)) =>
    if decide (x3 < x2) then
      if 0 ≤ x3 ∧ x3 < (l4.length : Int) then (
        let v5 : Int := IntKind.i64.wrap (x1 + ((rdT ty3 l4 x3).length : Int))
        if decide (v5 < 0) then
          none
        else
          let v6 : Int := IntKind.i64.wrap (x3 + 1)
          slices_Concat_int_int_l3 n k (((), v5, (), x2, v6, ()), (l4, ()))) else none
    else
      some (.inl (((), x1, ()), (l4, ())))
abbrev slices_Concat_int_int_l11_h : Sh := ⟨[(.one (.arr 1)), (.one (.arr 0)), (.one (.val (.int .i64))), (.one (.val (.int .i64)))], [(.arr 28 ty3), (.arr 3 (.int .i64))]⟩
abbrev slices_Concat_int_int_l11_o : List Out := [⟨(.exit 2), [6], ⟨[(.one (.arr 1))], [(.arr 28 ty3), (.arr 3 (.int .i64))]⟩⟩]
def slices_Concat_int_int_l11 (n : Nat) : Nat → slices_Concat_int_int_l11_h.T → Option (OutT slices_Concat_int_int_l11_o)
  | 0, _ => none
  | k + 1, ((_, _, x1, x2, _), (l3, l4, _)) =>
    if decide (x2 < x1) then
      if 0 ≤ x2 ∧ x2 < (l3.length : Int) then (
        if (l4.length + (rdT ty3 l3 x2).length) * 8 ≤ 140737488355328 then (
          let v5 : Int := IntKind.i64.wrap (x2 + 1)
          slices_Concat_int_int_l11 n k (((), (), x1, v5, ()), (l3, l4 ++ (rdT ty3 l3 x2), ()))) else none) else none
    else
      some (.inl (((), ()), (l3, l4, ())))
def slices_Concat_int_int : Nat → slices_Concat_int_int_ins.T → Option slices_Concat_int_int_outs.T
  | 0, _ => none
  | n + 1, ((_, _), (l1, _)) =>
    match slices_Concat_int_int_l3 n n (((), 0, (), (l1.length : Int), 0, ()), (l1, ())) with
    | some (.inl ((_, x2, _), (l3, _))) => (
      match slices_Grow_int_int n (((), x2, ()), ()) with
      | some ((_, _), (l4, _)) => (
        match slices_Concat_int_int_l11 n n (((), (), (l3.length : Int), 0, ()), (l3, l4, ())) with
        | some (.inl ((_, _), (l5, l6, _))) => (
          some (((), ()), (l5, l6, ())))
        | some (.inr (_)) => none
        | none => none)
      | none => none)
    | some (.inr (_)) => none
    | none => none
def slices_Concat_int_int_H (n : Nat) : Hints := ⟨[], fun _ => [], fun k => match k with | 3 => some ⟨[0, 3, 9, 10, 11], slices_Concat_int_int_l3_h, slices_Concat_int_int_l3_o, slices_Concat_int_int_l3 n⟩ | 11 => some ⟨[6, 25, 26, 27], slices_Concat_int_int_l11_h, slices_Concat_int_int_l11_o, slices_Concat_int_int_l11 n⟩ | _ => none, fun _ => none⟩
def slices_Concat_int_int_O (n : Nat) : FuncId → List FSpec := asc [(57, ⟨slices_Grow_int_int_ins, slices_Grow_int_int_outs, slices_Grow_int_int n⟩)]
def b35 : Code := bodyOf Tryd.f35
theorem slices_Concat_int_int_l3_k0 (n : Nat) : LoopOk P CC (slices_Concat_int_int_O n) n 1 36 (slices_Concat_int_int_H n) ⟨[0, 3, 9, 10, 11], slices_Concat_int_int_l3_h, slices_Concat_int_int_l3_o, slices_Concat_int_int_l3 n⟩ ((loopsOf b35).getD 0 .skip) := by
  refine ⟨fun _ => by kernel_rfl, ?_⟩
  rintro k ⟨⟨⟨⟩, x1, ⟨⟩, x2, x3, ⟨⟩⟩, ⟨x4, ⟨⟩⟩⟩
  kernel_rfl
theorem slices_Concat_int_int_l11_k1 (n : Nat) : LoopOk P CC (slices_Concat_int_int_O n) n 1 36 (slices_Concat_int_int_H n) ⟨[6, 25, 26, 27], slices_Concat_int_int_l11_h, slices_Concat_int_int_l11_o, slices_Concat_int_int_l11 n⟩ ((loopsOf b35).getD 1 .skip) := by
  refine ⟨fun _ => by kernel_rfl, ?_⟩
  rintro k ⟨⟨⟨⟩, ⟨⟩, x1, x2, ⟨⟩⟩, ⟨x3, x4, ⟨⟩⟩⟩
  kernel_rfl
theorem slices_Concat_int_int_ok {S : Nat → Addr} (ok : CfgOk P CC S) : ∀ n, SpecOk P CC S 35 ⟨slices_Concat_int_int_ins, slices_Concat_int_int_outs, slices_Concat_int_int n⟩ :=
  fn_all ok (O := slices_Concat_int_int_O) (H := slices_Concat_int_int_H) (fn := Tryd.f35) (body := b35) (by kernel_rfl) (by kernel_rfl) (by kernel_rfl) (by decide) (by kernel_rfl)
    (fun x => by kernel_rfl) (fun n => by
      rintro ⟨⟨⟨⟩, ⟨⟩⟩, ⟨x1, ⟨⟩⟩⟩
      kernel_rfl)
    (fun n => obl_of (by kernel_rfl) (by kernel_rfl) (ls (ls (lz) (by kernel_rfl) (slices_Concat_int_int_l3_k0 n)) (by kernel_rfl) (slices_Concat_int_int_l11_k1 n)) (cn (cn (cn (cn (cn (cn (cn (cn (cn (cn (cn (cn (cn (cn (cn (cn (cn (cn (cz) (by kernel_rfl)) (by kernel_rfl)) (by kernel_rfl)) (by kernel_rfl)) (by kernel_rfl)) (by kernel_rfl)) (by kernel_rfl)) (by kernel_rfl)) (by kernel_rfl)) (by kernel_rfl)) (by kernel_rfl)) (by kernel_rfl)) (by kernel_rfl)) (by kernel_rfl)) (by kernel_rfl)) (by kernel_rfl)) (by kernel_rfl)) (by kernel_rfl)))
    (fun n ih => asc_cons (slices_Grow_int_int_ok ok n) <| asc_nil)
/-! ### pendulum/code.fits$2 -/
abbrev code_fits_2_ins : Sh := ⟨[(.one (.val (.int .i64)))], []⟩
abbrev code_fits_2_outs : Sh := ⟨[(.one (.val .bool))], []⟩
def code_fits_2 : Nat → code_fits_2_ins.T → Option code_fits_2_outs.T
  | 0, _ => none
  | n + 1, ((x1, _), _) =>
    if x1 != 1 then
      some ((x1 != 2, ()), ())
    else
      some ((false, ()), ())
def code_fits_2_H (n : Nat) : Hints := ⟨[], fun _ => [], fun _ => none, fun _ => none⟩
def code_fits_2_O (n : Nat) : FuncId → List FSpec := asc []
def b37 : Code := bodyOf Tryd.f37
theorem code_fits_2_ok {S : Nat → Addr} (ok : CfgOk P CC S) : ∀ n, SpecOk P CC S 37 ⟨code_fits_2_ins, code_fits_2_outs, code_fits_2 n⟩ :=
  fn_all ok (O := code_fits_2_O) (H := code_fits_2_H) (fn := Tryd.f37) (body := b37) (by kernel_rfl) (by kernel_rfl) (by kernel_rfl) (by decide) (by kernel_rfl)
    (fun x => by kernel_rfl) (fun n => by
      rintro ⟨⟨x1, ⟨⟩⟩, ⟨⟩⟩
      kernel_rfl)
    (fun n => obl_of (by kernel_rfl) (by kernel_rfl) (lz) (cn (cn (cz) (by kernel_rfl)) (by kernel_rfl)))
    (fun n ih => asc_nil)
/-! ### slices.IndexFunc[[]int,int] -/
abbrev slices_IndexFunc_int_int_ins : Sh := ⟨[(.one (.val ty3)), (.one (.fn 37 []))], []⟩
abbrev slices_IndexFunc_int_int_outs : Sh := ⟨[(.one (.val (.int .i64)))], []⟩
abbrev slices_IndexFunc_int_int_l2_h : Sh := ⟨[(.one (.val ty3)), (.one (.fn 37 [])), (.one (.val (.int .i64))), (.one (.val (.int .i64)))], []⟩
abbrev slices_IndexFunc_int_int_l2_o : List Out := [⟨(.exit 0), [], ⟨[], []⟩⟩, ⟨.ret, [4], ⟨[(.one (.val (.int .i64)))], []⟩⟩]
def slices_IndexFunc_int_int_l2 (n : Nat) : Nat → slices_IndexFunc_int_int_l2_h.T → Option (OutT slices_IndexFunc_int_int_l2_o)
  | 0, _ => none
  | k + 1, ((x1, _, x2, x3, _), _) =>
    if decide (x3 < x2) then
      if 0 ≤ x3 ∧ x3 < (x1.length : Int) then (
        let v4 : Int := rdT ((.int .i64) : Ty) x1 x3
        match code_fits_2 n ((v4, ()), ()) with
        | some ((x5, _), _) => (
          if x5 then
            some (.inr (.inl ((x3, ()), ())))
          else
            let v6 : Int := IntKind.i64.wrap (x3 + 1)
            slices_IndexFunc_int_int_l2 n k ((x1, (), x2, v6, ()), ()))
        | none => none) else none
    else
      some (.inl ((), ()))
def slices_IndexFunc_int_int : Nat → slices_IndexFunc_int_int_ins.T → Option slices_IndexFunc_int_int_outs.T
  | 0, _ => none
  | n + 1, ((x1, _, _), _) =>
    match slices_IndexFunc_int_int_l2 n n ((x1, (), (x1.length : Int), 0, ()), ()) with
    | some (.inl (_, _)) => (
      some (((-1), ()), ()))
    | some (.inr (.inl ((x2, _), _))) => (
      some ((x2, ()), ()))
    | some (.inr (.inr (_))) => none
    | none => none
def slices_IndexFunc_int_int_H (n : Nat) : Hints := ⟨[], fun _ => [], fun k => match k with | 2 => some ⟨[0, 1, 7, 8], slices_IndexFunc_int_int_l2_h, slices_IndexFunc_int_int_l2_o, slices_IndexFunc_int_int_l2 n⟩ | _ => none, fun _ => none⟩
def slices_IndexFunc_int_int_O (n : Nat) : FuncId → List FSpec := asc [(37, ⟨code_fits_2_ins, code_fits_2_outs, code_fits_2 n⟩)]
def b58 : Code := bodyOf Tryd.f58
theorem slices_IndexFunc_int_int_l2_k0 (n : Nat) : LoopOk P CC (slices_IndexFunc_int_int_O n) n 0 19 (slices_IndexFunc_int_int_H n) ⟨[0, 1, 7, 8], slices_IndexFunc_int_int_l2_h, slices_IndexFunc_int_int_l2_o, slices_IndexFunc_int_int_l2 n⟩ ((loopsOf b58).getD 0 .skip) := by
  refine ⟨fun _ => by kernel_rfl, ?_⟩
  rintro k ⟨⟨x1, ⟨⟩, x2, x3, ⟨⟩⟩, ⟨⟩⟩
  kernel_rfl
theorem slices_IndexFunc_int_int_ok {S : Nat → Addr} (ok : CfgOk P CC S) : ∀ n, SpecOk P CC S 58 ⟨slices_IndexFunc_int_int_ins, slices_IndexFunc_int_int_outs, slices_IndexFunc_int_int n⟩ :=
  fn_all ok (O := slices_IndexFunc_int_int_O) (H := slices_IndexFunc_int_int_H) (fn := Tryd.f58) (body := b58) (by kernel_rfl) (by kernel_rfl) (by kernel_rfl) (by decide) (by kernel_rfl)
    (fun x => by kernel_rfl) (fun n => by
      rintro ⟨⟨x1, ⟨⟩, ⟨⟩⟩, ⟨⟩⟩
      kernel_rfl)
    (fun n => obl_of (by kernel_rfl) (by kernel_rfl) (ls (lz) (by kernel_rfl) (slices_IndexFunc_int_int_l2_k0 n)) (cn (cn (cn (cn (cn (cn (cn (cn (cn (cn (cz) (by kernel_rfl)) (by kernel_rfl)) (by kernel_rfl)) (by kernel_rfl)) (by kernel_rfl)) (by kernel_rfl)) (by kernel_rfl)) (by kernel_rfl)) (by kernel_rfl)) (by kernel_rfl)))
    (fun n ih => asc_cons (code_fits_2_ok ok n) <| asc_nil)
/-! ### slices.ContainsFunc[[]int,int] -/
abbrev slices_ContainsFunc_int_int_ins : Sh := ⟨[(.one (.val ty3)), (.one (.fn 37 []))], []⟩
abbrev slices_ContainsFunc_int_int_outs : Sh := ⟨[(.one (.val .bool))], []⟩
def slices_ContainsFunc_int_int : Nat → slices_ContainsFunc_int_int_ins.T → Option slices_ContainsFunc_int_int_outs.T
  | 0, _ => none
  | n + 1, ((x1, _, _), _) =>
    match slices_IndexFunc_int_int n ((x1, (), ()), ()) with
    | some ((x2, _), _) => (
      some ((decide (x2 ≥ 0), ()), ()))
    | none => none
def slices_ContainsFunc_int_int_H (n : Nat) : Hints := ⟨[], fun _ => [], fun _ => none, fun _ => none⟩
def slices_ContainsFunc_int_int_O (n : Nat) : FuncId → List FSpec := asc [(58, ⟨slices_IndexFunc_int_int_ins, slices_IndexFunc_int_int_outs, slices_IndexFunc_int_int n⟩)]
def b36 : Code := bodyOf Tryd.f36
theorem slices_ContainsFunc_int_int_ok {S : Nat → Addr} (ok : CfgOk P CC S) : ∀ n, SpecOk P CC S 36 ⟨slices_ContainsFunc_int_int_ins, slices_ContainsFunc_int_int_outs, slices_ContainsFunc_int_int n⟩ :=
  fn_all ok (O := slices_ContainsFunc_int_int_O) (H := slices_ContainsFunc_int_int_H) (fn := Tryd.f36) (body := b36) (by kernel_rfl) (by kernel_rfl) (by kernel_rfl) (by decide) (by kernel_rfl)
    (fun x => by kernel_rfl) (fun n => by
      rintro ⟨⟨x1, ⟨⟩, ⟨⟩⟩, ⟨⟩⟩
      kernel_rfl)
    (fun n => obl_of (by kernel_rfl) (by kernel_rfl) (lz) (cn (cn (cz) (by kernel_rfl)) (by kernel_rfl)))
    (fun n ih => asc_cons (slices_IndexFunc_int_int_ok ok n) <| asc_nil)
/-! ### pendulum/code.fits$3 -/
abbrev code_fits_3_ins : Sh := ⟨[(.one (.val (.int .i64)))], []⟩
abbrev code_fits_3_outs : Sh := ⟨[(.one (.val .bool))], []⟩
def code_fits_3 : Nat → code_fits_3_ins.T → Option code_fits_3_outs.T
  | 0, _ => none
  | n + 1, ((x1, _), _) =>
    if decide (x1 < (-1)) then
      some ((true, ()), ())
    else
      some ((decide (x1 > 1048576), ()), ())
def code_fits_3_H (n : Nat) : Hints := ⟨[], fun _ => [], fun _ => none, fun _ => none⟩
def code_fits_3_O (n : Nat) : FuncId → List FSpec := asc []
def b38 : Code := bodyOf Tryd.f38
theorem code_fits_3_ok {S : Nat → Addr} (ok : CfgOk P CC S) : ∀ n, SpecOk P CC S 38 ⟨code_fits_3_ins, code_fits_3_outs, code_fits_3 n⟩ :=
  fn_all ok (O := code_fits_3_O) (H := code_fits_3_H) (fn := Tryd.f38) (body := b38) (by kernel_rfl) (by kernel_rfl) (by kernel_rfl) (by decide) (by kernel_rfl)
    (fun x => by kernel_rfl) (fun n => by
      rintro ⟨⟨x1, ⟨⟩⟩, ⟨⟩⟩
      kernel_rfl)
    (fun n => obl_of (by kernel_rfl) (by kernel_rfl) (lz) (cn (cn (cz) (by kernel_rfl)) (by kernel_rfl)))
    (fun n ih => asc_nil)
/-! ### slices.IndexFunc[[]int,int] -/
abbrev slices_IndexFunc_int_int_2_ins : Sh := ⟨[(.one (.val ty3)), (.one (.fn 38 []))], []⟩
abbrev slices_IndexFunc_int_int_2_outs : Sh := ⟨[(.one (.val (.int .i64)))], []⟩
abbrev slices_IndexFunc_int_int_2_l2_h : Sh := ⟨[(.one (.val ty3)), (.one (.fn 38 [])), (.one (.val (.int .i64))), (.one (.val (.int .i64)))], []⟩
abbrev slices_IndexFunc_int_int_2_l2_o : List Out := [⟨(.exit 0), [], ⟨[], []⟩⟩, ⟨.ret, [4], ⟨[(.one (.val (.int .i64)))], []⟩⟩]
def slices_IndexFunc_int_int_2_l2 (n : Nat) : Nat → slices_IndexFunc_int_int_2_l2_h.T → Option (OutT slices_IndexFunc_int_int_2_l2_o)
  | 0, _ => none
  | k + 1, ((x1, _, x2, x3, _), _) =>
    if decide (x3 < x2) then
      if 0 ≤ x3 ∧ x3 < (x1.length : Int) then (
        let v4 : Int := rdT ((.int .i64) : Ty) x1 x3
        match code_fits_3 n ((v4, ()), ()) with
        | some ((x5, _), _) => (
          if x5 then
            some (.inr (.inl ((x3, ()), ())))
          else
            let v6 : Int := IntKind.i64.wrap (x3 + 1)
            slices_IndexFunc_int_int_2_l2 n k ((x1, (), x2, v6, ()), ()))
        | none => none) else none
    else
      some (.inl ((), ()))
def slices_IndexFunc_int_int_2 : Nat → slices_IndexFunc_int_int_2_ins.T → Option slices_IndexFunc_int_int_2_outs.T
  | 0, _ => none
  | n + 1, ((x1, _, _), _) =>
    match slices_IndexFunc_int_int_2_l2 n n ((x1, (), (x1.length : Int), 0, ()), ()) with
    | some (.inl (_, _)) => (
      some (((-1), ()), ()))
    | some (.inr (.inl ((x2, _), _))) => (
      some ((x2, ()), ()))
    | some (.inr (.inr (_))) => none
    | none => none
def slices_IndexFunc_int_int_2_H (n : Nat) : Hints := ⟨[], fun _ => [], fun k => match k with | 2 => some ⟨[0, 1, 7, 8], slices_IndexFunc_int_int_2_l2_h, slices_IndexFunc_int_int_2_l2_o, slices_IndexFunc_int_int_2_l2 n⟩ | _ => none, fun _ => none⟩
def slices_IndexFunc_int_int_2_O (n : Nat) : FuncId → List FSpec := asc [(38, ⟨code_fits_3_ins, code_fits_3_outs, code_fits_3 n⟩)]
theorem slices_IndexFunc_int_int_2_l2_k0 (n : Nat) : LoopOk P CC (slices_IndexFunc_int_int_2_O n) n 0 19 (slices_IndexFunc_int_int_2_H n) ⟨[0, 1, 7, 8], slices_IndexFunc_int_int_2_l2_h, slices_IndexFunc_int_int_2_l2_o, slices_IndexFunc_int_int_2_l2 n⟩ ((loopsOf b58).getD 0 .skip) := by
  refine ⟨fun _ => by kernel_rfl, ?_⟩
  rintro k ⟨⟨x1, ⟨⟩, x2, x3, ⟨⟩⟩, ⟨⟩⟩
  kernel_rfl
theorem slices_IndexFunc_int_int_2_ok {S : Nat → Addr} (ok : CfgOk P CC S) : ∀ n, SpecOk P CC S 58 ⟨slices_IndexFunc_int_int_2_ins, slices_IndexFunc_int_int_2_outs, slices_IndexFunc_int_int_2 n⟩ :=
  fn_all ok (O := slices_IndexFunc_int_int_2_O) (H := slices_IndexFunc_int_int_2_H) (fn := Tryd.f58) (body := b58) (by kernel_rfl) (by kernel_rfl) (by kernel_rfl) (by decide) (by kernel_rfl)
    (fun x => by kernel_rfl) (fun n => by
      rintro ⟨⟨x1, ⟨⟩, ⟨⟩⟩, ⟨⟩⟩
      kernel_rfl)
    (fun n => obl_of (by kernel_rfl) (by kernel_rfl) (ls (lz) (by kernel_rfl) (slices_IndexFunc_int_int_2_l2_k0 n)) (cn (cn (cn (cn (cn (cn (cn (cn (cn (cn (cz) (by kernel_rfl)) (by kernel_rfl)) (by kernel_rfl)) (by kernel_rfl)) (by kernel_rfl)) (by kernel_rfl)) (by kernel_rfl)) (by kernel_rfl)) (by kernel_rfl)) (by kernel_rfl)))
    (fun n ih => asc_cons (code_fits_3_ok ok n) <| asc_nil)
/-! ### slices.ContainsFunc[[]int,int] -/
abbrev slices_ContainsFunc_int_int_2_ins : Sh := ⟨[(.one (.val ty3)), (.one (.fn 38 []))], []⟩
abbrev slices_ContainsFunc_int_int_2_outs : Sh := ⟨[(.one (.val .bool))], []⟩
def slices_ContainsFunc_int_int_2 : Nat → slices_ContainsFunc_int_int_2_ins.T → Option slices_ContainsFunc_int_int_2_outs.T
  | 0, _ => none
  | n + 1, ((x1, _, _), _) =>
    match slices_IndexFunc_int_int_2 n ((x1, (), ()), ()) with
    | some ((x2, _), _) => (
      some ((decide (x2 ≥ 0), ()), ()))
    | none => none
def slices_ContainsFunc_int_int_2_H (n : Nat) : Hints := ⟨[], fun _ => [], fun _ => none, fun _ => none⟩
def slices_ContainsFunc_int_int_2_O (n : Nat) : FuncId → List FSpec := asc [(58, ⟨slices_IndexFunc_int_int_2_ins, slices_IndexFunc_int_int_2_outs, slices_IndexFunc_int_int_2 n⟩)]
theorem slices_ContainsFunc_int_int_2_ok {S : Nat → Addr} (ok : CfgOk P CC S) : ∀ n, SpecOk P CC S 36 ⟨slices_ContainsFunc_int_int_2_ins, slices_ContainsFunc_int_int_2_outs, slices_ContainsFunc_int_int_2 n⟩ :=
  fn_all ok (O := slices_ContainsFunc_int_int_2_O) (H := slices_ContainsFunc_int_int_2_H) (fn := Tryd.f36) (body := b36) (by kernel_rfl) (by kernel_rfl) (by kernel_rfl) (by decide) (by kernel_rfl)
    (fun x => by kernel_rfl) (fun n => by
      rintro ⟨⟨x1, ⟨⟩, ⟨⟩⟩, ⟨⟩⟩
      kernel_rfl)
    (fun n => obl_of (by kernel_rfl) (by kernel_rfl) (lz) (cn (cn (cz) (by kernel_rfl)) (by kernel_rfl)))
    (fun n ih => asc_cons (slices_IndexFunc_int_int_2_ok ok n) <| asc_nil)
/-! ### pendulum/code.fits -/
abbrev code_fits_ins : Sh := ⟨[(.agg [(.val .str), (.val ty3), (.val ty3), (.val (.int .i64)), (.val ty9), (.val ty10), (.val ty11)])], []⟩
abbrev code_fits_outs : Sh := ⟨[(.one (.val .err))], []⟩
abbrev code_fits_l3_h : Sh := ⟨[(.one (.ptr 0 0)), (.one (.arr 1)), (.one (.val ty9)), (.one (.val (.int .i64))), (.one (.val (.int .i64)))], [(.obj 32 [(.val .str), (.val ty3), (.val ty3), (.val (.int .i64)), (.val ty9), (.val ty10), (.val ty11)]), (.arr 9 .str)]⟩
abbrev code_fits_l3_o : List Out := [⟨(.exit 0), [1, 3], ⟨[(.one (.ptr 0 0)), (.one (.arr 1))], [(.obj 32 [(.val .str), (.val ty3), (.val ty3), (.val (.int .i64)), (.val ty9), (.val ty10), (.val ty11)]), (.arr 9 .str)]⟩⟩]
def code_fits_l3 (n : Nat) : Nat → code_fits_l3_h.T → Option (OutT code_fits_l3_o)
  | 0, _ => none
  | k + 1, ((_, _, x1, x2, x3, _), ((x4, x5, x6, x7, x8, x9, x10, _), l11, _)) =>
    if decide (x3 < x2) then
      if 0 ≤ x3 ∧ x3 < (x1.length : Int) then (
        if (l11.length + ([(rdT ty0 x1 x3).1] : List (.str : Ty).T).length) * 16 ≤ 140737488355328 then (
          let v12 : Int := IntKind.i64.wrap (x3 + 1)
          code_fits_l3 n k (((), (), x1, x2, v12, ()), ((x4, x5, x6, x7, x8, x9, x10, ()), l11 ++ [(rdT ty0 x1 x3).1], ()))) else none) else none
    else
      some (.inl (((), (), ()), ((x4, x5, x6, x7, x8, x9, x10, ()), l11, ())))
abbrev code_fits_l8_h : Sh := ⟨[(.one (.ptr 0 0)), (.one (.arr 1)), (.one (.val ty10)), (.one (.val (.int .i64))), (.one (.val (.int .i64)))], [(.obj 32 [(.val .str), (.val ty3), (.val ty3), (.val (.int .i64)), (.val ty9), (.val ty10), (.val ty11)]), (.arr 9 .str)]⟩
abbrev code_fits_l8_o : List Out := [⟨(.exit 2), [1, 3], ⟨[(.one (.ptr 0 0)), (.one (.arr 1))], [(.obj 32 [(.val .str), (.val ty3), (.val ty3), (.val (.int .i64)), (.val ty9), (.val ty10), (.val ty11)]), (.arr 9 .str)]⟩⟩]
def code_fits_l8 (n : Nat) : Nat → code_fits_l8_h.T → Option (OutT code_fits_l8_o)
  | 0, _ => none
  | k + 1, ((_, _, x1, x2, x3, _), ((x4, x5, x6, x7, x8, x9, x10, _), l11, _)) =>
    if decide (x3 < x2) then
      if 0 ≤ x3 ∧ x3 < (x1.length : Int) then (
        if (l11.length + ([(rdT ty2 x1 x3).1, (rdT ty2 x1 x3).2] : List (.str : Ty).T).length) * 16 ≤ 140737488355328 then (
          let v12 : Int := IntKind.i64.wrap (x3 + 1)
          code_fits_l8 n k (((), (), x1, x2, v12, ()), ((x4, x5, x6, x7, x8, x9, x10, ()), l11 ++ [(rdT ty2 x1 x3).1, (rdT ty2 x1 x3).2], ()))) else none) else none
    else
      some (.inl (((), (), ()), ((x4, x5, x6, x7, x8, x9, x10, ()), l11, ())))
abbrev code_fits_l18_h : Sh := ⟨[(.one (.ptr 0 0)), (.one (.arr 1)), (.one (.val ty9)), (.one (.val (.int .i64))), (.one (.val (.int .i64)))], [(.obj 32 [(.val .str), (.val ty3), (.val ty3), (.val (.int .i64)), (.val ty9), (.val ty10), (.val ty11)]), (.arr 3 (.int .i64))]⟩
abbrev code_fits_l18_o : List Out := [⟨(.exit 4), [1, 8], ⟨[(.one (.ptr 0 0)), (.one (.arr 1))], [(.obj 32 [(.val .str), (.val ty3), (.val ty3), (.val (.int .i64)), (.val ty9), (.val ty10), (.val ty11)]), (.arr 3 (.int .i64))]⟩⟩]
def code_fits_l18 (n : Nat) : Nat → code_fits_l18_h.T → Option (OutT code_fits_l18_o)
  | 0, _ => none
  | k + 1, ((_, _, x1, x2, x3, _), ((x4, x5, x6, x7, x8, x9, x10, _), l11, _)) =>
    if decide (x3 < x2) then
      if 0 ≤ x3 ∧ x3 < (x1.length : Int) then (
        if (l11.length + ([((rdT ty0 x1 x3).2).1] : List ((.int .i64) : Ty).T).length) * 8 ≤ 140737488355328 then (
          let v12 : Int := IntKind.i64.wrap (x3 + 1)
          code_fits_l18 n k (((), (), x1, x2, v12, ()), ((x4, x5, x6, x7, x8, x9, x10, ()), l11 ++ [((rdT ty0 x1 x3).2).1], ()))) else none) else none
    else
      some (.inl (((), (), ()), ((x4, x5, x6, x7, x8, x9, x10, ()), l11, ())))
abbrev code_fits_l25_h : Sh := ⟨[(.one (.val ty11)), (.one (.val (.int .i64))), (.one (.val (.int .i64)))], []⟩
abbrev code_fits_l25_o : List Out := [⟨(.exit 6), [], ⟨[], []⟩⟩, ⟨.ret, [2], ⟨[(.one (.val .err))], []⟩⟩]
def code_fits_l25 (n : Nat) : Nat → code_fits_l25_h.T → Option (OutT code_fits_l25_o)
  | 0, _ => none
  | k + 1, ((x1, x2, x3, _), _) =>
    if decide (x3 < x2) then
      if 0 ≤ x3 ∧ x3 < (x1.length : Int) then (
        if decide ((rdT ty4 x1 x3).1 < 1) then
          some (.inr (.inl ((ErrV.sent 104, ()), ())))
        else
          if decide ((rdT ty4 x1 x3).1 > 12) then
            some (.inr (.inl ((ErrV.sent 104, ()), ())))
          else
            match slices_ContainsFunc_int_int_2 n (([((rdT ty4 x1 x3).2).1, (((rdT ty4 x1 x3).2).2).1, ((((rdT ty4 x1 x3).2).2).2).1, (((((rdT ty4 x1 x3).2).2).2).2).1], (), ()), ()) with
            | some ((x4, _), _) => (
              if x4 then
                some (.inr (.inl ((ErrV.sent 104, ()), ())))
              else
                let v5 : Int := IntKind.i64.wrap (x3 + 1)
                code_fits_l25 n k ((x1, x2, v5, ()), ()))
            | none => none) else none
    else
      some (.inl ((), ()))
def code_fits : Nat → code_fits_ins.T → Option code_fits_outs.T
  | 0, _ => none
  | n + 1, (((x1, x2, x3, x4, x5, x6, x7, _), _), _) =>
    match code_fits_l3 n n (((), (), x5, (x5.length : Int), 0, ()), ((x1, x2, x3, x4, x5, x6, x7, ()), [x1], ())) with
    | some (.inl ((_, _, _), ((x8, x9, x10, x11, x12, x13, x14, _), l15, _))) => (
      match code_fits_l8 n n (((), (), x13, (x13.length : Int), 0, ()), ((x8, x9, x10, x11, x12, x13, x14, ()), l15, ())) with
      | some (.inl ((_, _, _), ((x16, x17, x18, x19, x20, x21, x22, _), l23, _))) => (
        match slices_ContainsFunc_string_string n ((l23, (), ()), ()) with
        | some ((x24, _), _) => (
          if x24 then
            some ((ErrV.sent 109, ()), ())
          else
            if decide ((x17.length : Int) > 64) then
              some ((ErrV.sent 103, ()), ())
            else
              if decide ((x18.length : Int) > 64) then
                some ((ErrV.sent 103, ()), ())
              else
                if decide ((x20.length : Int) > 1024) then
                  some ((ErrV.sent 103, ()), ())
                else
                  if decide ((x21.length : Int) > 256) then
                    some ((ErrV.sent 103, ()), ())
                  else
                    if decide ((x22.length : Int) > 4096) then
                      some ((ErrV.sent 103, ()), ())
                    else
                      match slices_Concat_int_int n (((), ()), ([x17, x18], ())) with
                      | some ((_, _), (l25, l26, _)) => (
                        match code_fits_l18 n n (((), (), x20, (x20.length : Int), 0, ()), ((x16, x17, x18, x19, x20, x21, x22, ()), l26, ())) with
                        | some (.inl ((_, _, _), ((x27, x28, x29, x30, x31, x32, x33, _), l34, _))) => (
                          if decide (x30 < 0) then
                            some ((ErrV.sent 104, ()), ())
                          else
                            if decide (x30 > 1024) then
                              some ((ErrV.sent 104, ()), ())
                            else
                              match slices_ContainsFunc_int_int n ((l34, (), ()), ()) with
                              | some ((x35, _), _) => (
                                if x35 then
                                  some ((ErrV.sent 104, ()), ())
                                else
                                  match code_fits_l25 n n ((x33, (x33.length : Int), 0, ()), ()) with
                                  | some (.inl (_, _)) => (
                                    some ((ErrV.nil, ()), ()))
                                  | some (.inr (.inl ((x36, _), _))) => (
                                    some ((x36, ()), ()))
                                  | some (.inr (.inr (_))) => none
                                  | none => none)
                              | none => none)
                        | some (.inr (_)) => none
                        | none => none)
                      | none => none)
        | none => none)
      | some (.inr (_)) => none
      | none => none)
    | some (.inr (_)) => none
    | none => none
def code_fits_H (n : Nat) : Hints := ⟨[], fun _ => [], fun k => match k with | 3 => some ⟨[1, 3, 17, 18, 19], code_fits_l3_h, code_fits_l3_o, code_fits_l3 n⟩ | 8 => some ⟨[1, 3, 30, 31, 32], code_fits_l8_h, code_fits_l8_o, code_fits_l8 n⟩ | 18 => some ⟨[1, 8, 83, 84, 85], code_fits_l18_h, code_fits_l18_o, code_fits_l18 n⟩ | 25 => some ⟨[109, 110, 111], code_fits_l25_h, code_fits_l25_o, code_fits_l25 n⟩ | _ => none, fun _ => none⟩
def code_fits_O (n : Nat) : FuncId → List FSpec := asc [(33, ⟨slices_ContainsFunc_string_string_ins, slices_ContainsFunc_string_string_outs, slices_ContainsFunc_string_string n⟩), (35, ⟨slices_Concat_int_int_ins, slices_Concat_int_int_outs, slices_Concat_int_int n⟩), (36, ⟨slices_ContainsFunc_int_int_ins, slices_ContainsFunc_int_int_outs, slices_ContainsFunc_int_int n⟩), (36, ⟨slices_ContainsFunc_int_int_2_ins, slices_ContainsFunc_int_int_2_outs, slices_ContainsFunc_int_int_2 n⟩)]
def b16 : Code := bodyOf Tryd.f16
theorem code_fits_l3_k0 (n : Nat) : LoopOk P CC (code_fits_O n) n 0 137 (code_fits_H n) ⟨[1, 3, 17, 18, 19], code_fits_l3_h, code_fits_l3_o, code_fits_l3 n⟩ ((loopsOf b16).getD 0 .skip) := by
  refine ⟨fun _ => by kernel_rfl, ?_⟩
  rintro k ⟨⟨⟨⟩, ⟨⟩, x1, x2, x3, ⟨⟩⟩, ⟨⟨x4, x5, x6, x7, x8, x9, x10, ⟨⟩⟩, x11, ⟨⟩⟩⟩
  kernel_rfl
theorem code_fits_l8_k1 (n : Nat) : LoopOk P CC (code_fits_O n) n 0 137 (code_fits_H n) ⟨[1, 3, 30, 31, 32], code_fits_l8_h, code_fits_l8_o, code_fits_l8 n⟩ ((loopsOf b16).getD 1 .skip) := by
  refine ⟨fun _ => by kernel_rfl, ?_⟩
  rintro k ⟨⟨⟨⟩, ⟨⟩, x1, x2, x3, ⟨⟩⟩, ⟨⟨x4, x5, x6, x7, x8, x9, x10, ⟨⟩⟩, x11, ⟨⟩⟩⟩
  kernel_rfl
theorem code_fits_l18_k2 (n : Nat) : LoopOk P CC (code_fits_O n) n 0 137 (code_fits_H n) ⟨[1, 8, 83, 84, 85], code_fits_l18_h, code_fits_l18_o, code_fits_l18 n⟩ ((loopsOf b16).getD 2 .skip) := by
  refine ⟨fun _ => by kernel_rfl, ?_⟩
  rintro k ⟨⟨⟨⟩, ⟨⟩, x1, x2, x3, ⟨⟩⟩, ⟨⟨x4, x5, x6, x7, x8, x9, x10, ⟨⟩⟩, x11, ⟨⟩⟩⟩
  kernel_rfl
theorem code_fits_l25_k3 (n : Nat) : LoopOk P CC (code_fits_O n) n 0 137 (code_fits_H n) ⟨[109, 110, 111], code_fits_l25_h, code_fits_l25_o, code_fits_l25 n⟩ ((loopsOf b16).getD 3 .skip) := by
  refine ⟨fun _ => by kernel_rfl, ?_⟩
  rintro k ⟨⟨x1, x2, x3, ⟨⟩⟩, ⟨⟩⟩
  kernel_rfl
theorem code_fits_ok {S : Nat → Addr} (ok : CfgOk P CC S) : ∀ n, SpecOk P CC S 16 ⟨code_fits_ins, code_fits_outs, code_fits n⟩ :=
  fn_all ok (O := code_fits_O) (H := code_fits_H) (fn := Tryd.f16) (body := b16) (by kernel_rfl) (by kernel_rfl) (by kernel_rfl) (by decide) (by kernel_rfl)
    (fun x => by kernel_rfl) (fun n => by
      rintro ⟨⟨⟨x1, x2, x3, x4, x5, x6, x7, ⟨⟩⟩, ⟨⟩⟩, ⟨⟩⟩
      kernel_rfl)
    (fun n => obl_of (by kernel_rfl) (by kernel_rfl) (ls (ls (ls (ls (lz) (by kernel_rfl) (code_fits_l3_k0 n)) (by kernel_rfl) (code_fits_l8_k1 n)) (by kernel_rfl) (code_fits_l18_k2 n)) (by kernel_rfl) (code_fits_l25_k3 n)) (cn (cn (cn (cn (cn (cn (cn (cn (cn (cn (cn (cn (cn (cn (cn (cn (cn (cn (cn (cn (cn (cn (cn (cn (cn (cn (cn (cn (cn (cn (cn (cn (cn (cn (cn (cn (cn (cn (cn (cz) (by kernel_rfl)) (by kernel_rfl)) (by kernel_rfl)) (by kernel_rfl)) (by kernel_rfl)) (by kernel_rfl)) (by kernel_rfl)) (by kernel_rfl)) (by kernel_rfl)) (by kernel_rfl)) (by kernel_rfl)) (by kernel_rfl)) (by kernel_rfl)) (by kernel_rfl)) (by kernel_rfl)) (by kernel_rfl)) (by kernel_rfl)) (by kernel_rfl)) (by kernel_rfl)) (by kernel_rfl)) (by kernel_rfl)) (by kernel_rfl)) (by kernel_rfl)) (by kernel_rfl)) (by kernel_rfl)) (by kernel_rfl)) (by kernel_rfl)) (by kernel_rfl)) (by kernel_rfl)) (by kernel_rfl)) (by kernel_rfl)) (by kernel_rfl)) (by kernel_rfl)) (by kernel_rfl)) (by kernel_rfl)) (by kernel_rfl)) (by kernel_rfl)) (by kernel_rfl)) (by kernel_rfl)))
    (fun n ih => asc_cons (slices_ContainsFunc_string_string_ok ok n) <| asc_cons (slices_Concat_int_int_ok ok n) <| asc_cons (slices_ContainsFunc_int_int_ok ok n) <| asc_cons (slices_ContainsFunc_int_int_2_ok ok n) <| asc_nil)
/-! ### slices.Clone[[]byte,byte] -/
abbrev slices_Clone_byte_byte_ins : Sh := ⟨[(.one (.val ty12))], []⟩
abbrev slices_Clone_byte_byte_outs : Sh := ⟨[(.one (.arr 0))], [(.arr 5 (.int .u8))]⟩
def slices_Clone_byte_byte : Nat → slices_Clone_byte_byte_ins.T → Option slices_Clone_byte_byte_outs.T
  | 0, _ => none
  | n + 1, ((x1, _), _) =>
    if (x1.isEmpty || (Ty.size ((.int .u8) : Ty) == 0)) = true then
      both fun b2 =>
        if b2 then
          some (((), ()), ([], ()))
        else
          if (([] : List ((.int .u8) : Ty).T).length + x1.length) * 1 ≤ 140737488355328 then (
            some (((), ()), ([] ++ x1, ()))) else none
    else
      if (([] : List ((.int .u8) : Ty).T).length + x1.length) * 1 ≤ 140737488355328 then (
        some (((), ()), ([] ++ x1, ()))) else none
def slices_Clone_byte_byte_H (n : Nat) : Hints := ⟨[], fun _ => [], fun _ => none, fun _ => none⟩
def slices_Clone_byte_byte_O (n : Nat) : FuncId → List FSpec := asc []
def b41 : Code := bodyOf Tryd.f41
theorem slices_Clone_byte_byte_ok {S : Nat → Addr} (ok : CfgOk P CC S) : ∀ n, SpecOk P CC S 41 ⟨slices_Clone_byte_byte_ins, slices_Clone_byte_byte_outs, slices_Clone_byte_byte n⟩ :=
  fn_all ok (O := slices_Clone_byte_byte_O) (H := slices_Clone_byte_byte_H) (fn := Tryd.f41) (body := b41) (by kernel_rfl) (by kernel_rfl) (by kernel_rfl) (by decide) (by kernel_rfl)
    (fun x => by kernel_rfl) (fun n => by
      rintro ⟨⟨x1, ⟨⟩⟩, ⟨⟩⟩
      kernel_rfl)
    (fun n => obl_of (by kernel_rfl) (by kernel_rfl) (lz) (cn (cn (cn (cn (cn (cz) (by kernel_rfl)) (by kernel_rfl)) (by kernel_rfl)) (by kernel_rfl)) (by kernel_rfl)))
    (fun n ih => asc_nil)
/-! ### pendulum/wire.put -/
abbrev wire_put_ins : Sh := ⟨[(.one (.arr 0)), (.one (.val (.int .i64)))], [(.arr 5 (.int .u8))]⟩
abbrev wire_put_outs : Sh := ⟨[(.one (.arr 1))], [.dead, (.arr 5 (.int .u8))]⟩
abbrev wire_put_l2_h : Sh := ⟨[(.one (.arr 1)), (.one (.val (.int .u64)))], [.dead, (.arr 5 (.int .u8))]⟩
abbrev wire_put_l2_o : List Out := [⟨(.exit 0), [0, 5], ⟨[(.one (.arr 1)), (.one (.val (.int .u64)))], [.dead, (.arr 5 (.int .u8))]⟩⟩]
def wire_put_l2 (n : Nat) : Nat → wire_put_l2_h.T → Option (OutT wire_put_l2_o)
  | 0, _ => none
  | k + 1, ((_, x1, _), (_, l2, _)) =>
    if decide (x1 ≥ 128) then
      let v3 : Int := bitsOp .or .u8 (IntKind.u8.wrap x1) 128
      if (l2.length + ([v3] : List ((.int .u8) : Ty).T).length) * 1 ≤ 140737488355328 then (
        wire_put_l2 n k (((), shrOp .u64 x1 7, ()), ((), l2 ++ [v3], ()))) else none
    else
      some (.inl (((), x1, ()), ((), l2, ())))
def wire_put : Nat → wire_put_ins.T → Option wire_put_outs.T
  | 0, _ => none
  | n + 1, ((_, x1, _), (l2, _)) =>
    let v3 : Int := shlOp .u64 (IntKind.u64.wrap x1) 1
    let v4 : Int := IntKind.u64.wrap (shrOp .i64 x1 63)
    match wire_put_l2 n n (((), bitsOp .xor .u64 v3 v4, ()), ((), l2, ())) with
    | some (.inl ((_, x5, _), (_, l6, _))) => (
      if (l6.length + ([IntKind.u8.wrap x5] : List ((.int .u8) : Ty).T).length) * 1 ≤ 140737488355328 then (
        some (((), ()), ((), l6 ++ [IntKind.u8.wrap x5], ()))) else none)
    | some (.inr (_)) => none
    | none => none
def wire_put_H (n : Nat) : Hints := ⟨[], fun _ => [], fun k => match k with | 2 => some ⟨[0, 5], wire_put_l2_h, wire_put_l2_o, wire_put_l2 n⟩ | _ => none, fun _ => none⟩
def wire_put_O (n : Nat) : FuncId → List FSpec := asc []
def b40 : Code := bodyOf Tryd.f40
theorem wire_put_l2_k0 (n : Nat) : LoopOk P CC (wire_put_O n) n 1 28 (wire_put_H n) ⟨[0, 5], wire_put_l2_h, wire_put_l2_o, wire_put_l2 n⟩ ((loopsOf b40).getD 0 .skip) := by
  refine ⟨fun _ => by kernel_rfl, ?_⟩
  rintro k ⟨⟨⟨⟩, x1, ⟨⟩⟩, ⟨⟨⟩, x2, ⟨⟩⟩⟩
  kernel_rfl
theorem wire_put_ok {S : Nat → Addr} (ok : CfgOk P CC S) : ∀ n, SpecOk P CC S 40 ⟨wire_put_ins, wire_put_outs, wire_put n⟩ :=
  fn_all ok (O := wire_put_O) (H := wire_put_H) (fn := Tryd.f40) (body := b40) (by kernel_rfl) (by kernel_rfl) (by kernel_rfl) (by decide) (by kernel_rfl)
    (fun x => by kernel_rfl) (fun n => by
      rintro ⟨⟨⟨⟩, x1, ⟨⟩⟩, ⟨x2, ⟨⟩⟩⟩
      kernel_rfl)
    (fun n => obl_of (by kernel_rfl) (by kernel_rfl) (ls (lz) (by kernel_rfl) (wire_put_l2_k0 n)) (cn (cn (cn (cn (cn (cn (cn (cz) (by kernel_rfl)) (by kernel_rfl)) (by kernel_rfl)) (by kernel_rfl)) (by kernel_rfl)) (by kernel_rfl)) (by kernel_rfl)))
    (fun n ih => asc_nil)
/-! ### pendulum/wire.PutText -/
abbrev wire_PutText_ins : Sh := ⟨[(.one (.arr 0)), (.one (.val .str))], [(.arr 5 (.int .u8))]⟩
abbrev wire_PutText_outs : Sh := ⟨[(.one (.arr 1))], [(.frz 5 (.int .u8)), (.arr 5 (.int .u8))]⟩
def wire_PutText : Nat → wire_PutText_ins.T → Option wire_PutText_outs.T
  | 0, _ => none
  | n + 1, ((_, x1, _), (l2, _)) =>
    match slices_Clone_byte_byte n ((l2, ()), ()) with
    | some ((_, _), (l3, _)) => (
      match wire_put n (((), (x1.size : Int), ()), (l3, ())) with
      | some ((_, _), (_, l4, _)) => (
        if (l4.length + (bytesL x1).length) * 1 ≤ 140737488355328 then (
          some (((), ()), (l2, l4 ++ (bytesL x1), ()))) else none)
      | none => none)
    | none => none
def wire_PutText_H (n : Nat) : Hints := ⟨[], fun _ => [], fun _ => none, fun _ => none⟩
def wire_PutText_O (n : Nat) : FuncId → List FSpec := asc [(40, ⟨wire_put_ins, wire_put_outs, wire_put n⟩), (41, ⟨slices_Clone_byte_byte_ins, slices_Clone_byte_byte_outs, slices_Clone_byte_byte n⟩)]
def b39 : Code := bodyOf Tryd.f39
theorem wire_PutText_ok {S : Nat → Addr} (ok : CfgOk P CC S) : ∀ n, SpecOk P CC S 39 ⟨wire_PutText_ins, wire_PutText_outs, wire_PutText n⟩ :=
  fn_all ok (O := wire_PutText_O) (H := wire_PutText_H) (fn := Tryd.f39) (body := b39) (by kernel_rfl) (by kernel_rfl) (by kernel_rfl) (by decide) (by kernel_rfl)
    (fun x => by kernel_rfl) (fun n => by
      rintro ⟨⟨⟨⟩, x1, ⟨⟩⟩, ⟨x2, ⟨⟩⟩⟩
      kernel_rfl)
    (fun n => obl_of (by kernel_rfl) (by kernel_rfl) (lz) (cn (cn (cz) (by kernel_rfl)) (by kernel_rfl)))
    (fun n ih => asc_cons (wire_put_ok ok n) <| asc_cons (slices_Clone_byte_byte_ok ok n) <| asc_nil)
/-! ### pendulum/code.text -/
abbrev code_text_ins : Sh := ⟨[(.one (.arr 0)), (.one (.val .str))], [(.arr 5 (.int .u8))]⟩
abbrev code_text_outs : Sh := ⟨[(.one (.arr 1))], [.dead, (.arr 5 (.int .u8))]⟩
def code_text : Nat → code_text_ins.T → Option code_text_outs.T
  | 0, _ => none
  | n + 1, ((_, x1, _), (l2, _)) =>
    match wire_PutText n (((), x1, ()), ([], ())) with
    | some ((_, _), (l3, l4, _)) => (
      if (l2.length + l4.length) * 1 ≤ 140737488355328 then (
        some (((), ()), ((), l2 ++ l4, ()))) else none)
    | none => none
def code_text_H (n : Nat) : Hints := ⟨[], fun _ => [], fun _ => none, fun _ => none⟩
def code_text_O (n : Nat) : FuncId → List FSpec := asc [(39, ⟨wire_PutText_ins, wire_PutText_outs, wire_PutText n⟩)]
def b17 : Code := bodyOf Tryd.f17
theorem code_text_ok {S : Nat → Addr} (ok : CfgOk P CC S) : ∀ n, SpecOk P CC S 17 ⟨code_text_ins, code_text_outs, code_text n⟩ :=
  fn_all ok (O := code_text_O) (H := code_text_H) (fn := Tryd.f17) (body := b17) (by kernel_rfl) (by kernel_rfl) (by kernel_rfl) (by decide) (by kernel_rfl)
    (fun x => by kernel_rfl) (fun n => by
      rintro ⟨⟨⟨⟩, x1, ⟨⟩⟩, ⟨x2, ⟨⟩⟩⟩
      kernel_rfl)
    (fun n => obl_of (by kernel_rfl) (by kernel_rfl) (lz) (cn (cn (cz) (by kernel_rfl)) (by kernel_rfl)))
    (fun n ih => asc_cons (wire_PutText_ok ok n) <| asc_nil)
/-! ### pendulum/wire.Put -/
abbrev wire_Put_ins : Sh := ⟨[(.one (.arr 0)), (.one (.val (.int .i64)))], [(.arr 5 (.int .u8))]⟩
abbrev wire_Put_outs : Sh := ⟨[(.one (.arr 1))], [(.frz 5 (.int .u8)), (.arr 5 (.int .u8))]⟩
def wire_Put : Nat → wire_Put_ins.T → Option wire_Put_outs.T
  | 0, _ => none
  | n + 1, ((_, x1, _), (l2, _)) =>
    match slices_Clone_byte_byte n ((l2, ()), ()) with
    | some ((_, _), (l3, _)) => (
      match wire_put n (((), x1, ()), (l3, ())) with
      | some ((_, _), (_, l4, _)) => (
        some (((), ()), (l2, l4, ())))
      | none => none)
    | none => none
def wire_Put_H (n : Nat) : Hints := ⟨[], fun _ => [], fun _ => none, fun _ => none⟩
def wire_Put_O (n : Nat) : FuncId → List FSpec := asc [(40, ⟨wire_put_ins, wire_put_outs, wire_put n⟩), (41, ⟨slices_Clone_byte_byte_ins, slices_Clone_byte_byte_outs, slices_Clone_byte_byte n⟩)]
def b19 : Code := bodyOf Tryd.f19
theorem wire_Put_ok {S : Nat → Addr} (ok : CfgOk P CC S) : ∀ n, SpecOk P CC S 19 ⟨wire_Put_ins, wire_Put_outs, wire_Put n⟩ :=
  fn_all ok (O := wire_Put_O) (H := wire_Put_H) (fn := Tryd.f19) (body := b19) (by kernel_rfl) (by kernel_rfl) (by kernel_rfl) (by decide) (by kernel_rfl)
    (fun x => by kernel_rfl) (fun n => by
      rintro ⟨⟨⟨⟩, x1, ⟨⟩⟩, ⟨x2, ⟨⟩⟩⟩
      kernel_rfl)
    (fun n => obl_of (by kernel_rfl) (by kernel_rfl) (lz) (cn (cn (cz) (by kernel_rfl)) (by kernel_rfl)))
    (fun n ih => asc_cons (wire_put_ok ok n) <| asc_cons (slices_Clone_byte_byte_ok ok n) <| asc_nil)
/-! ### pendulum/code.put -/
abbrev code_put_ins : Sh := ⟨[(.one (.arr 0)), (.one (.val ty3))], [(.arr 5 (.int .u8))]⟩
abbrev code_put_outs : Sh := ⟨[(.one (.arr 1))], [.dead, (.arr 5 (.int .u8))]⟩
abbrev code_put_l2_h : Sh := ⟨[(.one (.arr 1)), (.one (.val ty3)), (.one (.val (.int .i64))), (.one (.val (.int .i64)))], [.dead, (.arr 5 (.int .u8))]⟩
abbrev code_put_l2_o : List Out := [⟨(.exit 0), [0], ⟨[(.one (.arr 1))], [.dead, (.arr 5 (.int .u8))]⟩⟩]
def code_put_l2 (n : Nat) : Nat → code_put_l2_h.T → Option (OutT code_put_l2_o)
  | 0, _ => none
  | k + 1, ((_, x1, x2, x3, _), (_, l4, _)) =>
    if decide (x3 < x2) then
      if 0 ≤ x3 ∧ x3 < (x1.length : Int) then (
        let v5 : Int := rdT ((.int .i64) : Ty) x1 x3
        match wire_Put n (((), v5, ()), ([], ())) with
        | some ((_, _), (l6, l7, _)) => (
          if (l4.length + l7.length) * 1 ≤ 140737488355328 then (
            let v8 : Int := IntKind.i64.wrap (x3 + 1)
            code_put_l2 n k (((), x1, x2, v8, ()), ((), l4 ++ l7, ()))) else none)
        | none => none) else none
    else
      some (.inl (((), ()), ((), l4, ())))
def code_put : Nat → code_put_ins.T → Option code_put_outs.T
  | 0, _ => none
  | n + 1, ((_, x1, _), (l2, _)) =>
    match code_put_l2 n n (((), x1, (x1.length : Int), 0, ()), ((), l2, ())) with
    | some (.inl ((_, _), (_, l3, _))) => (
      some (((), ()), ((), l3, ())))
    | some (.inr (_)) => none
    | none => none
def code_put_H (n : Nat) : Hints := ⟨[], fun _ => [], fun k => match k with | 2 => some ⟨[0, 7, 8, 9], code_put_l2_h, code_put_l2_o, code_put_l2 n⟩ | _ => none, fun _ => none⟩
def code_put_O (n : Nat) : FuncId → List FSpec := asc [(19, ⟨wire_Put_ins, wire_Put_outs, wire_Put n⟩)]
def b18 : Code := bodyOf Tryd.f18
theorem code_put_l2_k0 (n : Nat) : LoopOk P CC (code_put_O n) n 1 19 (code_put_H n) ⟨[0, 7, 8, 9], code_put_l2_h, code_put_l2_o, code_put_l2 n⟩ ((loopsOf b18).getD 0 .skip) := by
  refine ⟨fun _ => by kernel_rfl, ?_⟩
  rintro k ⟨⟨⟨⟩, x1, x2, x3, ⟨⟩⟩, ⟨⟨⟩, x4, ⟨⟩⟩⟩
  kernel_rfl
theorem code_put_ok {S : Nat → Addr} (ok : CfgOk P CC S) : ∀ n, SpecOk P CC S 18 ⟨code_put_ins, code_put_outs, code_put n⟩ :=
  fn_all ok (O := code_put_O) (H := code_put_H) (fn := Tryd.f18) (body := b18) (by kernel_rfl) (by kernel_rfl) (by kernel_rfl) (by decide) (by kernel_rfl)
    (fun x => by kernel_rfl) (fun n => by
      rintro ⟨⟨⟨⟩, x1, ⟨⟩⟩, ⟨x2, ⟨⟩⟩⟩
      kernel_rfl)
    (fun n => obl_of (by kernel_rfl) (by kernel_rfl) (ls (lz) (by kernel_rfl) (code_put_l2_k0 n)) (cn (cn (cn (cn (cn (cn (cn (cn (cz) (by kernel_rfl)) (by kernel_rfl)) (by kernel_rfl)) (by kernel_rfl)) (by kernel_rfl)) (by kernel_rfl)) (by kernel_rfl)) (by kernel_rfl)))
    (fun n ih => asc_cons (wire_Put_ok ok n) <| asc_nil)
/-! ### pendulum/code.put -/
abbrev code_put_2_ins : Sh := ⟨[(.one (.arr 0)), (.one (.arr 1))], [(.arr 5 (.int .u8)), (.arr 3 (.int .i64))]⟩
abbrev code_put_2_outs : Sh := ⟨[(.one (.arr 2))], [.dead, (.arr 3 (.int .i64)), (.arr 5 (.int .u8))]⟩
abbrev code_put_2_l2_h : Sh := ⟨[(.one (.arr 2)), (.one (.arr 1)), (.one (.val (.int .i64))), (.one (.val (.int .i64)))], [.dead, (.arr 3 (.int .i64)), (.arr 5 (.int .u8))]⟩
abbrev code_put_2_l2_o : List Out := [⟨(.exit 0), [0], ⟨[(.one (.arr 2))], [.dead, (.arr 3 (.int .i64)), (.arr 5 (.int .u8))]⟩⟩]
def code_put_2_l2 (n : Nat) : Nat → code_put_2_l2_h.T → Option (OutT code_put_2_l2_o)
  | 0, _ => none
  | k + 1, ((_, _, x1, x2, _), (_, l3, l4, _)) =>
    if decide (x2 < x1) then
      if 0 ≤ x2 ∧ x2 < (l3.length : Int) then (
        let v5 : Int := rdT ((.int .i64) : Ty) l3 x2
        match wire_Put n (((), v5, ()), ([], ())) with
        | some ((_, _), (l6, l7, _)) => (
          if (l4.length + l7.length) * 1 ≤ 140737488355328 then (
            let v8 : Int := IntKind.i64.wrap (x2 + 1)
            code_put_2_l2 n k (((), (), x1, v8, ()), ((), l3, l4 ++ l7, ()))) else none)
        | none => none) else none
    else
      some (.inl (((), ()), ((), l3, l4, ())))
def code_put_2 : Nat → code_put_2_ins.T → Option code_put_2_outs.T
  | 0, _ => none
  | n + 1, ((_, _, _), (l1, l2, _)) =>
    match code_put_2_l2 n n (((), (), (l2.length : Int), 0, ()), ((), l2, l1, ())) with
    | some (.inl ((_, _), (_, l3, l4, _))) => (
      some (((), ()), ((), l3, l4, ())))
    | some (.inr (_)) => none
    | none => none
def code_put_2_H (n : Nat) : Hints := ⟨[], fun _ => [], fun k => match k with | 2 => some ⟨[0, 7, 8, 9], code_put_2_l2_h, code_put_2_l2_o, code_put_2_l2 n⟩ | _ => none, fun _ => none⟩
def code_put_2_O (n : Nat) : FuncId → List FSpec := asc [(19, ⟨wire_Put_ins, wire_Put_outs, wire_Put n⟩)]
theorem code_put_2_l2_k0 (n : Nat) : LoopOk P CC (code_put_2_O n) n 2 19 (code_put_2_H n) ⟨[0, 7, 8, 9], code_put_2_l2_h, code_put_2_l2_o, code_put_2_l2 n⟩ ((loopsOf b18).getD 0 .skip) := by
  refine ⟨fun _ => by kernel_rfl, ?_⟩
  rintro k ⟨⟨⟨⟩, ⟨⟩, x1, x2, ⟨⟩⟩, ⟨⟨⟩, x3, x4, ⟨⟩⟩⟩
  kernel_rfl
theorem code_put_2_ok {S : Nat → Addr} (ok : CfgOk P CC S) : ∀ n, SpecOk P CC S 18 ⟨code_put_2_ins, code_put_2_outs, code_put_2 n⟩ :=
  fn_all ok (O := code_put_2_O) (H := code_put_2_H) (fn := Tryd.f18) (body := b18) (by kernel_rfl) (by kernel_rfl) (by kernel_rfl) (by decide) (by kernel_rfl)
    (fun x => by kernel_rfl) (fun n => by
      rintro ⟨⟨⟨⟩, ⟨⟩, ⟨⟩⟩, ⟨x1, x2, ⟨⟩⟩⟩
      kernel_rfl)
    (fun n => obl_of (by kernel_rfl) (by kernel_rfl) (ls (lz) (by kernel_rfl) (code_put_2_l2_k0 n)) (cn (cn (cn (cn (cn (cn (cn (cn (cz) (by kernel_rfl)) (by kernel_rfl)) (by kernel_rfl)) (by kernel_rfl)) (by kernel_rfl)) (by kernel_rfl)) (by kernel_rfl)) (by kernel_rfl)))
    (fun n ih => asc_cons (wire_Put_ok ok n) <| asc_nil)
/-! ### pendulum/code.Bytes -/
abbrev code_Bytes_ins : Sh := ⟨[(.agg [(.val .str), (.val ty3), (.val ty3), (.val (.int .i64)), (.val ty9), (.val ty10), (.val ty11)])], []⟩
abbrev code_Bytes_outs : Sh := ⟨[(.tup [(false, [(.arr 0)]), (false, [(.val .err)])])], [(.arr 5 (.int .u8))]⟩
abbrev code_Bytes_l9_h : Sh := ⟨[(.one (.ptr 0 0)), (.one (.arr 1)), (.one (.val ty9)), (.one (.val (.int .i64))), (.one (.val (.int .i64)))], [(.obj 32 [(.val .str), (.val ty3), (.val ty3), (.val (.int .i64)), (.val ty9), (.val ty10), (.val ty11)]), (.arr 5 (.int .u8))]⟩
abbrev code_Bytes_l9_o : List Out := [⟨(.exit 0), [1, 5], ⟨[(.one (.ptr 0 0)), (.one (.arr 1))], [(.obj 32 [(.val .str), (.val ty3), (.val ty3), (.val (.int .i64)), (.val ty9), (.val ty10), (.val ty11)]), (.arr 5 (.int .u8))]⟩⟩]
def code_Bytes_l9 (n : Nat) : Nat → code_Bytes_l9_h.T → Option (OutT code_Bytes_l9_o)
  | 0, _ => none
  | k + 1, ((_, _, x1, x2, x3, _), ((x4, x5, x6, x7, x8, x9, x10, _), l11, _)) =>
    if decide (x3 < x2) then
      if 0 ≤ x3 ∧ x3 < (x1.length : Int) then (
        match code_text n (((), (rdT ty0 x1 x3).1, ()), (l11, ())) with
        | some ((_, _), (_, l12, _)) => (
          match code_put n (((), [((rdT ty0 x1 x3).2).1], ()), (l12, ())) with
          | some ((_, _), (_, l13, _)) => (
            match wire_Put n (((), ((rdT ty0 x1 x3).2).2, ()), ([], ())) with
            | some ((_, _), (l14, l15, _)) => (
              if (l13.length + l15.length) * 1 ≤ 140737488355328 then (
                let v16 : Int := IntKind.i64.wrap (x3 + 1)
                code_Bytes_l9 n k (((), (), x1, x2, v16, ()), ((x4, x5, x6, x7, x8, x9, x10, ()), l13 ++ l15, ()))) else none)
            | none => none)
          | none => none)
        | none => none) else none
    else
      some (.inl (((), (), ()), ((x4, x5, x6, x7, x8, x9, x10, ()), l11, ())))
abbrev code_Bytes_l16_h : Sh := ⟨[(.one (.ptr 0 0)), (.one (.arr 1)), (.one (.val ty10)), (.one (.val (.int .i64))), (.one (.val (.int .i64)))], [(.obj 32 [(.val .str), (.val ty3), (.val ty3), (.val (.int .i64)), (.val ty9), (.val ty10), (.val ty11)]), (.arr 5 (.int .u8))]⟩
abbrev code_Bytes_l16_o : List Out := [⟨(.exit 2), [1, 5], ⟨[(.one (.ptr 0 0)), (.one (.arr 1))], [(.obj 32 [(.val .str), (.val ty3), (.val ty3), (.val (.int .i64)), (.val ty9), (.val ty10), (.val ty11)]), (.arr 5 (.int .u8))]⟩⟩]
def code_Bytes_l16 (n : Nat) : Nat → code_Bytes_l16_h.T → Option (OutT code_Bytes_l16_o)
  | 0, _ => none
  | k + 1, ((_, _, x1, x2, x3, _), ((x4, x5, x6, x7, x8, x9, x10, _), l11, _)) =>
    if decide (x3 < x2) then
      if 0 ≤ x3 ∧ x3 < (x1.length : Int) then (
        match code_text n (((), (rdT ty2 x1 x3).1, ()), (l11, ())) with
        | some ((_, _), (_, l12, _)) => (
          match code_text n (((), (rdT ty2 x1 x3).2, ()), (l12, ())) with
          | some ((_, _), (_, l13, _)) => (
            let v14 : Int := IntKind.i64.wrap (x3 + 1)
            code_Bytes_l16 n k (((), (), x1, x2, v14, ()), ((x4, x5, x6, x7, x8, x9, x10, ()), l13, ())))
          | none => none)
        | none => none) else none
    else
      some (.inl (((), (), ()), ((x4, x5, x6, x7, x8, x9, x10, ()), l11, ())))
abbrev code_Bytes_l22_h : Sh := ⟨[(.one (.arr 0)), (.one (.val ty11)), (.one (.val (.int .i64))), (.one (.val (.int .i64)))], [(.arr 5 (.int .u8))]⟩
abbrev code_Bytes_l22_o : List Out := [⟨(.exit 4), [5], ⟨[(.one (.arr 0))], [(.arr 5 (.int .u8))]⟩⟩]
def code_Bytes_l22 (n : Nat) : Nat → code_Bytes_l22_h.T → Option (OutT code_Bytes_l22_o)
  | 0, _ => none
  | k + 1, ((_, x1, x2, x3, _), (l4, _)) =>
    if decide (x3 < x2) then
      if 0 ≤ x3 ∧ x3 < (x1.length : Int) then (
        match code_put_2 n (((), (), ()), (l4, [(rdT ty4 x1 x3).1, ((rdT ty4 x1 x3).2).1, (((rdT ty4 x1 x3).2).2).1, ((((rdT ty4 x1 x3).2).2).2).1, (((((rdT ty4 x1 x3).2).2).2).2).1], ())) with
        | some ((_, _), (_, l5, l6, _)) => (
          match wire_Put n (((), (((((rdT ty4 x1 x3).2).2).2).2).2, ()), ([], ())) with
          | some ((_, _), (l7, l8, _)) => (
            if (l6.length + l8.length) * 1 ≤ 140737488355328 then (
              let v9 : Int := IntKind.i64.wrap (x3 + 1)
              code_Bytes_l22 n k (((), x1, x2, v9, ()), (l6 ++ l8, ()))) else none)
          | none => none)
        | none => none) else none
    else
      some (.inl (((), ()), (l4, ())))
def code_Bytes : Nat → code_Bytes_ins.T → Option code_Bytes_outs.T
  | 0, _ => none
  | n + 1, (((x1, x2, x3, x4, x5, x6, x7, _), _), _) =>
    match code_fits n (((x1, x2, x3, x4, x5, x6, x7, ()), ()), ()) with
    | some ((x8, _), _) => (
      if !(errNil x8) then
        some (((((), ()), (x8, ()), ()), ()), ([], ()))
      else
        match code_text n (((), x1, ()), ([], ())) with
        | some ((_, _), (_, l9, _)) => (
          match code_put n (((), [(x2.length : Int)], ()), (l9, ())) with
          | some ((_, _), (_, l10, _)) => (
            match code_put n (((), x2, ()), (l10, ())) with
            | some ((_, _), (_, l11, _)) => (
              match code_put n (((), [(x3.length : Int)], ()), (l11, ())) with
              | some ((_, _), (_, l12, _)) => (
                match code_put n (((), x3, ()), (l12, ())) with
                | some ((_, _), (_, l13, _)) => (
                  match code_put_2 n (((), (), ()), (l13, [x4, (x5.length : Int)], ())) with
                  | some ((_, _), (_, l14, l15, _)) => (
                    match code_Bytes_l9 n n (((), (), x5, (x5.length : Int), 0, ()), ((x1, x2, x3, x4, x5, x6, x7, ()), l15, ())) with
                    | some (.inl ((_, _, _), ((x16, x17, x18, x19, x20, x21, x22, _), l23, _))) => (
                      match code_put_2 n (((), (), ()), (l23, [(x21.length : Int)], ())) with
                      | some ((_, _), (_, l24, l25, _)) => (
                        match code_Bytes_l16 n n (((), (), x21, (x21.length : Int), 0, ()), ((x16, x17, x18, x19, x20, x21, x22, ()), l25, ())) with
                        | some (.inl ((_, _, _), ((x26, x27, x28, x29, x30, x31, x32, _), l33, _))) => (
                          match code_put_2 n (((), (), ()), (l33, [(x32.length : Int)], ())) with
                          | some ((_, _), (_, l34, l35, _)) => (
                            match code_Bytes_l22 n n (((), x32, (x32.length : Int), 0, ()), (l35, ())) with
                            | some (.inl ((_, _), (l36, _))) => (
                              some (((((), ()), (ErrV.nil, ()), ()), ()), (l36, ())))
                            | some (.inr (_)) => none
                            | none => none)
                          | none => none)
                        | some (.inr (_)) => none
                        | none => none)
                      | none => none)
                    | some (.inr (_)) => none
                    | none => none)
                  | none => none)
                | none => none)
              | none => none)
            | none => none)
          | none => none)
        | none => none)
    | none => none
def code_Bytes_H (n : Nat) : Hints := ⟨[], fun _ => [], fun k => match k with | 9 => some ⟨[1, 5, 47, 48, 49], code_Bytes_l9_h, code_Bytes_l9_o, code_Bytes_l9 n⟩ | 16 => some ⟨[1, 5, 74, 75, 76], code_Bytes_l16_h, code_Bytes_l16_o, code_Bytes_l16 n⟩ | 22 => some ⟨[5, 95, 96, 97], code_Bytes_l22_h, code_Bytes_l22_o, code_Bytes_l22 n⟩ | _ => none, fun _ => none⟩
def code_Bytes_O (n : Nat) : FuncId → List FSpec := asc [(16, ⟨code_fits_ins, code_fits_outs, code_fits n⟩), (17, ⟨code_text_ins, code_text_outs, code_text n⟩), (18, ⟨code_put_2_ins, code_put_2_outs, code_put_2 n⟩), (18, ⟨code_put_ins, code_put_outs, code_put n⟩), (19, ⟨wire_Put_ins, wire_Put_outs, wire_Put n⟩)]
def b8 : Code := bodyOf Tryd.f8
theorem code_Bytes_l9_k0 (n : Nat) : LoopOk P CC (code_Bytes_O n) n 0 121 (code_Bytes_H n) ⟨[1, 5, 47, 48, 49], code_Bytes_l9_h, code_Bytes_l9_o, code_Bytes_l9 n⟩ ((loopsOf b8).getD 0 .skip) := by
  refine ⟨fun _ => by kernel_rfl, ?_⟩
  rintro k ⟨⟨⟨⟩, ⟨⟩, x1, x2, x3, ⟨⟩⟩, ⟨⟨x4, x5, x6, x7, x8, x9, x10, ⟨⟩⟩, x11, ⟨⟩⟩⟩
  kernel_rfl
theorem code_Bytes_l16_k1 (n : Nat) : LoopOk P CC (code_Bytes_O n) n 0 121 (code_Bytes_H n) ⟨[1, 5, 74, 75, 76], code_Bytes_l16_h, code_Bytes_l16_o, code_Bytes_l16 n⟩ ((loopsOf b8).getD 1 .skip) := by
  refine ⟨fun _ => by kernel_rfl, ?_⟩
  rintro k ⟨⟨⟨⟩, ⟨⟩, x1, x2, x3, ⟨⟩⟩, ⟨⟨x4, x5, x6, x7, x8, x9, x10, ⟨⟩⟩, x11, ⟨⟩⟩⟩
  kernel_rfl
theorem code_Bytes_l22_k2 (n : Nat) : LoopOk P CC (code_Bytes_O n) n 0 121 (code_Bytes_H n) ⟨[5, 95, 96, 97], code_Bytes_l22_h, code_Bytes_l22_o, code_Bytes_l22 n⟩ ((loopsOf b8).getD 2 .skip) := by
  refine ⟨fun _ => by kernel_rfl, ?_⟩
  rintro k ⟨⟨⟨⟩, x1, x2, x3, ⟨⟩⟩, ⟨x4, ⟨⟩⟩⟩
  kernel_rfl
theorem code_Bytes_ok {S : Nat → Addr} (ok : CfgOk P CC S) : ∀ n, SpecOk P CC S 8 ⟨code_Bytes_ins, code_Bytes_outs, code_Bytes n⟩ :=
  fn_all ok (O := code_Bytes_O) (H := code_Bytes_H) (fn := Tryd.f8) (body := b8) (by kernel_rfl) (by kernel_rfl) (by kernel_rfl) (by decide) (by kernel_rfl)
    (fun x => by kernel_rfl) (fun n => by
      rintro ⟨⟨⟨x1, x2, x3, x4, x5, x6, x7, ⟨⟩⟩, ⟨⟩⟩, ⟨⟩⟩
      kernel_rfl)
    (fun n => obl_of (by kernel_rfl) (by kernel_rfl) (ls (ls (ls (lz) (by kernel_rfl) (code_Bytes_l9_k0 n)) (by kernel_rfl) (code_Bytes_l16_k1 n)) (by kernel_rfl) (code_Bytes_l22_k2 n)) (cn (cn (cn (cn (cn (cn (cn (cn (cn (cn (cn (cn (cn (cn (cn (cn (cn (cn (cn (cn (cn (cn (cn (cn (cn (cn (cn (cn (cn (cn (cn (cn (cz) (by kernel_rfl)) (by kernel_rfl)) (by kernel_rfl)) (by kernel_rfl)) (by kernel_rfl)) (by kernel_rfl)) (by kernel_rfl)) (by kernel_rfl)) (by kernel_rfl)) (by kernel_rfl)) (by kernel_rfl)) (by kernel_rfl)) (by kernel_rfl)) (by kernel_rfl)) (by kernel_rfl)) (by kernel_rfl)) (by kernel_rfl)) (by kernel_rfl)) (by kernel_rfl)) (by kernel_rfl)) (by kernel_rfl)) (by kernel_rfl)) (by kernel_rfl)) (by kernel_rfl)) (by kernel_rfl)) (by kernel_rfl)) (by kernel_rfl)) (by kernel_rfl)) (by kernel_rfl)) (by kernel_rfl)) (by kernel_rfl)) (by kernel_rfl)))
    (fun n ih => asc_cons (code_fits_ok ok n) <| asc_cons (code_text_ok ok n) <| asc_cons (code_put_2_ok ok n) <| asc_cons (code_put_ok ok n) <| asc_cons (wire_Put_ok ok n) <| asc_nil)
/-! ### pendulum/pendulumref.SameBytes -/
abbrev ref_SameBytes_ins : Sh := ⟨[(.one (.val ty12)), (.one (.val ty12))], []⟩
abbrev ref_SameBytes_outs : Sh := ⟨[(.one (.val .bool))], []⟩
abbrev ref_SameBytes_l4_h : Sh := ⟨[(.one (.val ty12)), (.one (.val ty12)), (.one (.val (.int .i64)))], []⟩
abbrev ref_SameBytes_l4_o : List Out := [⟨(.exit 0), [], ⟨[], []⟩⟩, ⟨.ret, [4], ⟨[(.one (.val .bool))], []⟩⟩]
def ref_SameBytes_l4 (n : Nat) : Nat → ref_SameBytes_l4_h.T → Option (OutT ref_SameBytes_l4_o)
  | 0, _ => none
  | k + 1, ((x1, x2, x3, _), _) =>
    if decide (x3 < (x1.length : Int)) then
      if 0 ≤ x3 ∧ x3 < (x1.length : Int) then (
        let v4 : Int := rdT ((.int .u8) : Ty) x1 x3
        if 0 ≤ x3 ∧ x3 < (x2.length : Int) then (
          let v5 : Int := rdT ((.int .u8) : Ty) x2 x3
          if !(v4 == v5) then
            some (.inr (.inl ((false, ()), ())))
          else
            let v6 : Int := IntKind.i64.wrap (x3 + 1)
            ref_SameBytes_l4 n k ((x1, x2, v6, ()), ())) else none) else none
    else
      some (.inl ((), ()))
def ref_SameBytes : Nat → ref_SameBytes_ins.T → Option ref_SameBytes_outs.T
  | 0, _ => none
  | n + 1, ((x1, x2, _), _) =>
    if (x1.length : Int) != (x2.length : Int) then
      some ((false, ()), ())
    else
      match ref_SameBytes_l4 n n ((x1, x2, 0, ()), ()) with
      | some (.inl (_, _)) => (
        some ((true, ()), ()))
      | some (.inr (.inl ((x3, _), _))) => (
        some ((x3, ()), ()))
      | some (.inr (.inr (_))) => none
      | none => none
def ref_SameBytes_H (n : Nat) : Hints := ⟨[], fun _ => [], fun k => match k with | 4 => some ⟨[0, 1, 5], ref_SameBytes_l4_h, ref_SameBytes_l4_o, ref_SameBytes_l4 n⟩ | _ => none, fun _ => none⟩
def ref_SameBytes_O (n : Nat) : FuncId → List FSpec := asc []
def b11 : Code := bodyOf Tryd.f11
theorem ref_SameBytes_l4_k0 (n : Nat) : LoopOk P CC (ref_SameBytes_O n) n 0 29 (ref_SameBytes_H n) ⟨[0, 1, 5], ref_SameBytes_l4_h, ref_SameBytes_l4_o, ref_SameBytes_l4 n⟩ ((loopsOf b11).getD 0 .skip) := by
  refine ⟨fun _ => by kernel_rfl, ?_⟩
  rintro k ⟨⟨x1, x2, x3, ⟨⟩⟩, ⟨⟩⟩
  kernel_rfl
theorem ref_SameBytes_ok {S : Nat → Addr} (ok : CfgOk P CC S) : ∀ n, SpecOk P CC S 11 ⟨ref_SameBytes_ins, ref_SameBytes_outs, ref_SameBytes n⟩ :=
  fn_all ok (O := ref_SameBytes_O) (H := ref_SameBytes_H) (fn := Tryd.f11) (body := b11) (by kernel_rfl) (by kernel_rfl) (by kernel_rfl) (by decide) (by kernel_rfl)
    (fun x => by kernel_rfl) (fun n => by
      rintro ⟨⟨x1, x2, ⟨⟩⟩, ⟨⟩⟩
      kernel_rfl)
    (fun n => obl_of (by kernel_rfl) (by kernel_rfl) (ls (lz) (by kernel_rfl) (ref_SameBytes_l4_k0 n)) (cn (cn (cn (cn (cn (cn (cn (cn (cn (cn (cn (cn (cn (cz) (by kernel_rfl)) (by kernel_rfl)) (by kernel_rfl)) (by kernel_rfl)) (by kernel_rfl)) (by kernel_rfl)) (by kernel_rfl)) (by kernel_rfl)) (by kernel_rfl)) (by kernel_rfl)) (by kernel_rfl)) (by kernel_rfl)) (by kernel_rfl)))
    (fun n ih => asc_nil)
/-! ### pendulum/pendulumref.SameInts -/
abbrev ref_SameInts_ins : Sh := ⟨[(.one (.val ty3)), (.one (.val ty3))], []⟩
abbrev ref_SameInts_outs : Sh := ⟨[(.one (.val .bool))], []⟩
abbrev ref_SameInts_l4_h : Sh := ⟨[(.one (.val ty3)), (.one (.val ty3)), (.one (.val (.int .i64)))], []⟩
abbrev ref_SameInts_l4_o : List Out := [⟨(.exit 0), [], ⟨[], []⟩⟩, ⟨.ret, [4], ⟨[(.one (.val .bool))], []⟩⟩]
def ref_SameInts_l4 (n : Nat) : Nat → ref_SameInts_l4_h.T → Option (OutT ref_SameInts_l4_o)
  | 0, _ => none
  | k + 1, ((x1, x2, x3, _), _) =>
    if decide (x3 < (x1.length : Int)) then
      if 0 ≤ x3 ∧ x3 < (x1.length : Int) then (
        let v4 : Int := rdT ((.int .i64) : Ty) x1 x3
        if 0 ≤ x3 ∧ x3 < (x2.length : Int) then (
          let v5 : Int := rdT ((.int .i64) : Ty) x2 x3
          if !(v4 == v5) then
            some (.inr (.inl ((false, ()), ())))
          else
            let v6 : Int := IntKind.i64.wrap (x3 + 1)
            ref_SameInts_l4 n k ((x1, x2, v6, ()), ())) else none) else none
    else
      some (.inl ((), ()))
def ref_SameInts : Nat → ref_SameInts_ins.T → Option ref_SameInts_outs.T
  | 0, _ => none
  | n + 1, ((x1, x2, _), _) =>
    if (x1.length : Int) != (x2.length : Int) then
      some ((false, ()), ())
    else
      match ref_SameInts_l4 n n ((x1, x2, 0, ()), ()) with
      | some (.inl (_, _)) => (
        some ((true, ()), ()))
      | some (.inr (.inl ((x3, _), _))) => (
        some ((x3, ()), ()))
      | some (.inr (.inr (_))) => none
      | none => none
def ref_SameInts_H (n : Nat) : Hints := ⟨[], fun _ => [], fun k => match k with | 4 => some ⟨[0, 1, 5], ref_SameInts_l4_h, ref_SameInts_l4_o, ref_SameInts_l4 n⟩ | _ => none, fun _ => none⟩
def ref_SameInts_O (n : Nat) : FuncId → List FSpec := asc []
def b22 : Code := bodyOf Tryd.f22
theorem ref_SameInts_l4_k0 (n : Nat) : LoopOk P CC (ref_SameInts_O n) n 0 29 (ref_SameInts_H n) ⟨[0, 1, 5], ref_SameInts_l4_h, ref_SameInts_l4_o, ref_SameInts_l4 n⟩ ((loopsOf b22).getD 0 .skip) := by
  refine ⟨fun _ => by kernel_rfl, ?_⟩
  rintro k ⟨⟨x1, x2, x3, ⟨⟩⟩, ⟨⟩⟩
  kernel_rfl
theorem ref_SameInts_ok {S : Nat → Addr} (ok : CfgOk P CC S) : ∀ n, SpecOk P CC S 22 ⟨ref_SameInts_ins, ref_SameInts_outs, ref_SameInts n⟩ :=
  fn_all ok (O := ref_SameInts_O) (H := ref_SameInts_H) (fn := Tryd.f22) (body := b22) (by kernel_rfl) (by kernel_rfl) (by kernel_rfl) (by decide) (by kernel_rfl)
    (fun x => by kernel_rfl) (fun n => by
      rintro ⟨⟨x1, x2, ⟨⟩⟩, ⟨⟩⟩
      kernel_rfl)
    (fun n => obl_of (by kernel_rfl) (by kernel_rfl) (ls (lz) (by kernel_rfl) (ref_SameInts_l4_k0 n)) (cn (cn (cn (cn (cn (cn (cn (cn (cn (cn (cn (cn (cn (cz) (by kernel_rfl)) (by kernel_rfl)) (by kernel_rfl)) (by kernel_rfl)) (by kernel_rfl)) (by kernel_rfl)) (by kernel_rfl)) (by kernel_rfl)) (by kernel_rfl)) (by kernel_rfl)) (by kernel_rfl)) (by kernel_rfl)) (by kernel_rfl)))
    (fun n ih => asc_nil)
/-! ### pendulum/pendulumref.SameCell -/
abbrev ref_SameCell_ins : Sh := ⟨[(.agg [(.val .str), (.val (.int .i64)), (.val (.int .i64))]), (.agg [(.val .str), (.val (.int .i64)), (.val (.int .i64))])], []⟩
abbrev ref_SameCell_outs : Sh := ⟨[(.one (.val .bool))], []⟩
def ref_SameCell : Nat → ref_SameCell_ins.T → Option ref_SameCell_outs.T
  | 0, _ => none
  | n + 1, (((x1, x2, x3, _), (x4, x5, x6, _), _), _) =>
    if strEq x1 x4 then
      if x2 == x5 then
        some ((x3 == x6, ()), ())
      else
        some ((false, ()), ())
    else
      some ((false, ()), ())
def ref_SameCell_H (n : Nat) : Hints := ⟨[], fun _ => [], fun _ => none, fun _ => none⟩
def ref_SameCell_O (n : Nat) : FuncId → List FSpec := asc []
def b44 : Code := bodyOf Tryd.f44
theorem ref_SameCell_ok {S : Nat → Addr} (ok : CfgOk P CC S) : ∀ n, SpecOk P CC S 44 ⟨ref_SameCell_ins, ref_SameCell_outs, ref_SameCell n⟩ :=
  fn_all ok (O := ref_SameCell_O) (H := ref_SameCell_H) (fn := Tryd.f44) (body := b44) (by kernel_rfl) (by kernel_rfl) (by kernel_rfl) (by decide) (by kernel_rfl)
    (fun x => by kernel_rfl) (fun n => by
      rintro ⟨⟨⟨x1, x2, x3, ⟨⟩⟩, ⟨x4, x5, x6, ⟨⟩⟩, ⟨⟩⟩, ⟨⟩⟩
      kernel_rfl)
    (fun n => obl_of (by kernel_rfl) (by kernel_rfl) (lz) (cn (cn (cz) (by kernel_rfl)) (by kernel_rfl)))
    (fun n ih => asc_nil)
/-! ### pendulum/pendulumref.SameCells -/
abbrev ref_SameCells_ins : Sh := ⟨[(.one (.val ty9)), (.one (.val ty9))], []⟩
abbrev ref_SameCells_outs : Sh := ⟨[(.one (.val .bool))], []⟩
abbrev ref_SameCells_l4_h : Sh := ⟨[(.one (.val ty9)), (.one (.val ty9)), (.one (.val (.int .i64)))], []⟩
abbrev ref_SameCells_l4_o : List Out := [⟨(.exit 0), [], ⟨[], []⟩⟩, ⟨.ret, [4], ⟨[(.one (.val .bool))], []⟩⟩]
def ref_SameCells_l4 (n : Nat) : Nat → ref_SameCells_l4_h.T → Option (OutT ref_SameCells_l4_o)
  | 0, _ => none
  | k + 1, ((x1, x2, x3, _), _) =>
    if decide (x3 < (x1.length : Int)) then
      if 0 ≤ x3 ∧ x3 < (x1.length : Int) then (
        if 0 ≤ x3 ∧ x3 < (x2.length : Int) then (
          match ref_SameCell n ((((rdT ty0 x1 x3).1, ((rdT ty0 x1 x3).2).1, ((rdT ty0 x1 x3).2).2, ()), ((rdT ty0 x2 x3).1, ((rdT ty0 x2 x3).2).1, ((rdT ty0 x2 x3).2).2, ()), ()), ()) with
          | some ((x4, _), _) => (
            if !x4 then
              some (.inr (.inl ((false, ()), ())))
            else
              let v5 : Int := IntKind.i64.wrap (x3 + 1)
              ref_SameCells_l4 n k ((x1, x2, v5, ()), ()))
          | none => none) else none) else none
    else
      some (.inl ((), ()))
def ref_SameCells : Nat → ref_SameCells_ins.T → Option ref_SameCells_outs.T
  | 0, _ => none
  | n + 1, ((x1, x2, _), _) =>
    if (x1.length : Int) != (x2.length : Int) then
      some ((false, ()), ())
    else
      match ref_SameCells_l4 n n ((x1, x2, 0, ()), ()) with
      | some (.inl (_, _)) => (
        some ((true, ()), ()))
      | some (.inr (.inl ((x3, _), _))) => (
        some ((x3, ()), ()))
      | some (.inr (.inr (_))) => none
      | none => none
def ref_SameCells_H (n : Nat) : Hints := ⟨[], fun _ => [], fun k => match k with | 4 => some ⟨[0, 1, 5], ref_SameCells_l4_h, ref_SameCells_l4_o, ref_SameCells_l4 n⟩ | _ => none, fun _ => none⟩
def ref_SameCells_O (n : Nat) : FuncId → List FSpec := asc [(44, ⟨ref_SameCell_ins, ref_SameCell_outs, ref_SameCell n⟩)]
def b23 : Code := bodyOf Tryd.f23
theorem ref_SameCells_l4_k0 (n : Nat) : LoopOk P CC (ref_SameCells_O n) n 0 29 (ref_SameCells_H n) ⟨[0, 1, 5], ref_SameCells_l4_h, ref_SameCells_l4_o, ref_SameCells_l4 n⟩ ((loopsOf b23).getD 0 .skip) := by
  refine ⟨fun _ => by kernel_rfl, ?_⟩
  rintro k ⟨⟨x1, x2, x3, ⟨⟩⟩, ⟨⟩⟩
  kernel_rfl
theorem ref_SameCells_ok {S : Nat → Addr} (ok : CfgOk P CC S) : ∀ n, SpecOk P CC S 23 ⟨ref_SameCells_ins, ref_SameCells_outs, ref_SameCells n⟩ :=
  fn_all ok (O := ref_SameCells_O) (H := ref_SameCells_H) (fn := Tryd.f23) (body := b23) (by kernel_rfl) (by kernel_rfl) (by kernel_rfl) (by decide) (by kernel_rfl)
    (fun x => by kernel_rfl) (fun n => by
      rintro ⟨⟨x1, x2, ⟨⟩⟩, ⟨⟩⟩
      kernel_rfl)
    (fun n => obl_of (by kernel_rfl) (by kernel_rfl) (ls (lz) (by kernel_rfl) (ref_SameCells_l4_k0 n)) (cn (cn (cn (cn (cn (cn (cn (cn (cn (cn (cn (cn (cn (cz) (by kernel_rfl)) (by kernel_rfl)) (by kernel_rfl)) (by kernel_rfl)) (by kernel_rfl)) (by kernel_rfl)) (by kernel_rfl)) (by kernel_rfl)) (by kernel_rfl)) (by kernel_rfl)) (by kernel_rfl)) (by kernel_rfl)) (by kernel_rfl)))
    (fun n ih => asc_cons (ref_SameCell_ok ok n) <| asc_nil)
/-! ### pendulum/pendulumref.SameInst -/
abbrev ref_SameInst_ins : Sh := ⟨[(.agg [(.val .str), (.val .str)]), (.agg [(.val .str), (.val .str)])], []⟩
abbrev ref_SameInst_outs : Sh := ⟨[(.one (.val .bool))], []⟩
def ref_SameInst : Nat → ref_SameInst_ins.T → Option ref_SameInst_outs.T
  | 0, _ => none
  | n + 1, (((x1, x2, _), (x3, x4, _), _), _) =>
    if strEq x1 x3 then
      some ((strEq x2 x4, ()), ())
    else
      some ((false, ()), ())
def ref_SameInst_H (n : Nat) : Hints := ⟨[], fun _ => [], fun _ => none, fun _ => none⟩
def ref_SameInst_O (n : Nat) : FuncId → List FSpec := asc []
def b45 : Code := bodyOf Tryd.f45
theorem ref_SameInst_ok {S : Nat → Addr} (ok : CfgOk P CC S) : ∀ n, SpecOk P CC S 45 ⟨ref_SameInst_ins, ref_SameInst_outs, ref_SameInst n⟩ :=
  fn_all ok (O := ref_SameInst_O) (H := ref_SameInst_H) (fn := Tryd.f45) (body := b45) (by kernel_rfl) (by kernel_rfl) (by kernel_rfl) (by decide) (by kernel_rfl)
    (fun x => by kernel_rfl) (fun n => by
      rintro ⟨⟨⟨x1, x2, ⟨⟩⟩, ⟨x3, x4, ⟨⟩⟩, ⟨⟩⟩, ⟨⟩⟩
      kernel_rfl)
    (fun n => obl_of (by kernel_rfl) (by kernel_rfl) (lz) (cn (cn (cz) (by kernel_rfl)) (by kernel_rfl)))
    (fun n ih => asc_nil)
/-! ### pendulum/pendulumref.SameInsts -/
abbrev ref_SameInsts_ins : Sh := ⟨[(.one (.val ty10)), (.one (.val ty10))], []⟩
abbrev ref_SameInsts_outs : Sh := ⟨[(.one (.val .bool))], []⟩
abbrev ref_SameInsts_l4_h : Sh := ⟨[(.one (.val ty10)), (.one (.val ty10)), (.one (.val (.int .i64)))], []⟩
abbrev ref_SameInsts_l4_o : List Out := [⟨(.exit 0), [], ⟨[], []⟩⟩, ⟨.ret, [4], ⟨[(.one (.val .bool))], []⟩⟩]
def ref_SameInsts_l4 (n : Nat) : Nat → ref_SameInsts_l4_h.T → Option (OutT ref_SameInsts_l4_o)
  | 0, _ => none
  | k + 1, ((x1, x2, x3, _), _) =>
    if decide (x3 < (x1.length : Int)) then
      if 0 ≤ x3 ∧ x3 < (x1.length : Int) then (
        if 0 ≤ x3 ∧ x3 < (x2.length : Int) then (
          match ref_SameInst n ((((rdT ty2 x1 x3).1, (rdT ty2 x1 x3).2, ()), ((rdT ty2 x2 x3).1, (rdT ty2 x2 x3).2, ()), ()), ()) with
          | some ((x4, _), _) => (
            if !x4 then
              some (.inr (.inl ((false, ()), ())))
            else
              let v5 : Int := IntKind.i64.wrap (x3 + 1)
              ref_SameInsts_l4 n k ((x1, x2, v5, ()), ()))
          | none => none) else none) else none
    else
      some (.inl ((), ()))
def ref_SameInsts : Nat → ref_SameInsts_ins.T → Option ref_SameInsts_outs.T
  | 0, _ => none
  | n + 1, ((x1, x2, _), _) =>
    if (x1.length : Int) != (x2.length : Int) then
      some ((false, ()), ())
    else
      match ref_SameInsts_l4 n n ((x1, x2, 0, ()), ()) with
      | some (.inl (_, _)) => (
        some ((true, ()), ()))
      | some (.inr (.inl ((x3, _), _))) => (
        some ((x3, ()), ()))
      | some (.inr (.inr (_))) => none
      | none => none
def ref_SameInsts_H (n : Nat) : Hints := ⟨[], fun _ => [], fun k => match k with | 4 => some ⟨[0, 1, 5], ref_SameInsts_l4_h, ref_SameInsts_l4_o, ref_SameInsts_l4 n⟩ | _ => none, fun _ => none⟩
def ref_SameInsts_O (n : Nat) : FuncId → List FSpec := asc [(45, ⟨ref_SameInst_ins, ref_SameInst_outs, ref_SameInst n⟩)]
def b24 : Code := bodyOf Tryd.f24
theorem ref_SameInsts_l4_k0 (n : Nat) : LoopOk P CC (ref_SameInsts_O n) n 0 29 (ref_SameInsts_H n) ⟨[0, 1, 5], ref_SameInsts_l4_h, ref_SameInsts_l4_o, ref_SameInsts_l4 n⟩ ((loopsOf b24).getD 0 .skip) := by
  refine ⟨fun _ => by kernel_rfl, ?_⟩
  rintro k ⟨⟨x1, x2, x3, ⟨⟩⟩, ⟨⟩⟩
  kernel_rfl
theorem ref_SameInsts_ok {S : Nat → Addr} (ok : CfgOk P CC S) : ∀ n, SpecOk P CC S 24 ⟨ref_SameInsts_ins, ref_SameInsts_outs, ref_SameInsts n⟩ :=
  fn_all ok (O := ref_SameInsts_O) (H := ref_SameInsts_H) (fn := Tryd.f24) (body := b24) (by kernel_rfl) (by kernel_rfl) (by kernel_rfl) (by decide) (by kernel_rfl)
    (fun x => by kernel_rfl) (fun n => by
      rintro ⟨⟨x1, x2, ⟨⟩⟩, ⟨⟩⟩
      kernel_rfl)
    (fun n => obl_of (by kernel_rfl) (by kernel_rfl) (ls (lz) (by kernel_rfl) (ref_SameInsts_l4_k0 n)) (cn (cn (cn (cn (cn (cn (cn (cn (cn (cn (cn (cn (cn (cz) (by kernel_rfl)) (by kernel_rfl)) (by kernel_rfl)) (by kernel_rfl)) (by kernel_rfl)) (by kernel_rfl)) (by kernel_rfl)) (by kernel_rfl)) (by kernel_rfl)) (by kernel_rfl)) (by kernel_rfl)) (by kernel_rfl)) (by kernel_rfl)))
    (fun n ih => asc_cons (ref_SameInst_ok ok n) <| asc_nil)
/-! ### pendulum/pendulumref.SameInstr -/
abbrev ref_SameInstr_ins : Sh := ⟨[(.agg [(.val (.int .i64)), (.val (.int .i64)), (.val (.int .i64)), (.val (.int .i64)), (.val (.int .i64)), (.val (.int .i64))]), (.agg [(.val (.int .i64)), (.val (.int .i64)), (.val (.int .i64)), (.val (.int .i64)), (.val (.int .i64)), (.val (.int .i64))])], []⟩
abbrev ref_SameInstr_outs : Sh := ⟨[(.one (.val .bool))], []⟩
def ref_SameInstr : Nat → ref_SameInstr_ins.T → Option ref_SameInstr_outs.T
  | 0, _ => none
  | n + 1, (((x1, x2, x3, x4, x5, x6, _), (x7, x8, x9, x10, x11, x12, _), _), _) =>
    if x1 == x7 then
      if x2 == x8 then
        if x3 == x9 then
          if x4 == x10 then
            if x5 == x11 then
              some ((x6 == x12, ()), ())
            else
              some ((false, ()), ())
          else
            some ((false, ()), ())
        else
          some ((false, ()), ())
      else
        some ((false, ()), ())
    else
      some ((false, ()), ())
def ref_SameInstr_H (n : Nat) : Hints := ⟨[], fun _ => [], fun _ => none, fun _ => none⟩
def ref_SameInstr_O (n : Nat) : FuncId → List FSpec := asc []
def b46 : Code := bodyOf Tryd.f46
theorem ref_SameInstr_ok {S : Nat → Addr} (ok : CfgOk P CC S) : ∀ n, SpecOk P CC S 46 ⟨ref_SameInstr_ins, ref_SameInstr_outs, ref_SameInstr n⟩ :=
  fn_all ok (O := ref_SameInstr_O) (H := ref_SameInstr_H) (fn := Tryd.f46) (body := b46) (by kernel_rfl) (by kernel_rfl) (by kernel_rfl) (by decide) (by kernel_rfl)
    (fun x => by kernel_rfl) (fun n => by
      rintro ⟨⟨⟨x1, x2, x3, x4, x5, x6, ⟨⟩⟩, ⟨x7, x8, x9, x10, x11, x12, ⟨⟩⟩, ⟨⟩⟩, ⟨⟩⟩
      kernel_rfl)
    (fun n => obl_of (by kernel_rfl) (by kernel_rfl) (lz) (cn (cn (cz) (by kernel_rfl)) (by kernel_rfl)))
    (fun n ih => asc_nil)
/-! ### pendulum/pendulumref.SameInstrs -/
abbrev ref_SameInstrs_ins : Sh := ⟨[(.one (.val ty11)), (.one (.val ty11))], []⟩
abbrev ref_SameInstrs_outs : Sh := ⟨[(.one (.val .bool))], []⟩
abbrev ref_SameInstrs_l4_h : Sh := ⟨[(.one (.val ty11)), (.one (.val ty11)), (.one (.val (.int .i64)))], []⟩
abbrev ref_SameInstrs_l4_o : List Out := [⟨(.exit 0), [], ⟨[], []⟩⟩, ⟨.ret, [4], ⟨[(.one (.val .bool))], []⟩⟩]
def ref_SameInstrs_l4 (n : Nat) : Nat → ref_SameInstrs_l4_h.T → Option (OutT ref_SameInstrs_l4_o)
  | 0, _ => none
  | k + 1, ((x1, x2, x3, _), _) =>
    if decide (x3 < (x1.length : Int)) then
      if 0 ≤ x3 ∧ x3 < (x1.length : Int) then (
        if 0 ≤ x3 ∧ x3 < (x2.length : Int) then (
          match ref_SameInstr n ((((rdT ty4 x1 x3).1, ((rdT ty4 x1 x3).2).1, (((rdT ty4 x1 x3).2).2).1, ((((rdT ty4 x1 x3).2).2).2).1, (((((rdT ty4 x1 x3).2).2).2).2).1, (((((rdT ty4 x1 x3).2).2).2).2).2, ()), ((rdT ty4 x2 x3).1, ((rdT ty4 x2 x3).2).1, (((rdT ty4 x2 x3).2).2).1, ((((rdT ty4 x2 x3).2).2).2).1, (((((rdT ty4 x2 x3).2).2).2).2).1, (((((rdT ty4 x2 x3).2).2).2).2).2, ()), ()), ()) with
          | some ((x4, _), _) => (
            if !x4 then
              some (.inr (.inl ((false, ()), ())))
            else
              let v5 : Int := IntKind.i64.wrap (x3 + 1)
              ref_SameInstrs_l4 n k ((x1, x2, v5, ()), ()))
          | none => none) else none) else none
    else
      some (.inl ((), ()))
def ref_SameInstrs : Nat → ref_SameInstrs_ins.T → Option ref_SameInstrs_outs.T
  | 0, _ => none
  | n + 1, ((x1, x2, _), _) =>
    if (x1.length : Int) != (x2.length : Int) then
      some ((false, ()), ())
    else
      match ref_SameInstrs_l4 n n ((x1, x2, 0, ()), ()) with
      | some (.inl (_, _)) => (
        some ((true, ()), ()))
      | some (.inr (.inl ((x3, _), _))) => (
        some ((x3, ()), ()))
      | some (.inr (.inr (_))) => none
      | none => none
def ref_SameInstrs_H (n : Nat) : Hints := ⟨[], fun _ => [], fun k => match k with | 4 => some ⟨[0, 1, 5], ref_SameInstrs_l4_h, ref_SameInstrs_l4_o, ref_SameInstrs_l4 n⟩ | _ => none, fun _ => none⟩
def ref_SameInstrs_O (n : Nat) : FuncId → List FSpec := asc [(46, ⟨ref_SameInstr_ins, ref_SameInstr_outs, ref_SameInstr n⟩)]
def b25 : Code := bodyOf Tryd.f25
theorem ref_SameInstrs_l4_k0 (n : Nat) : LoopOk P CC (ref_SameInstrs_O n) n 0 29 (ref_SameInstrs_H n) ⟨[0, 1, 5], ref_SameInstrs_l4_h, ref_SameInstrs_l4_o, ref_SameInstrs_l4 n⟩ ((loopsOf b25).getD 0 .skip) := by
  refine ⟨fun _ => by kernel_rfl, ?_⟩
  rintro k ⟨⟨x1, x2, x3, ⟨⟩⟩, ⟨⟩⟩
  kernel_rfl
theorem ref_SameInstrs_ok {S : Nat → Addr} (ok : CfgOk P CC S) : ∀ n, SpecOk P CC S 25 ⟨ref_SameInstrs_ins, ref_SameInstrs_outs, ref_SameInstrs n⟩ :=
  fn_all ok (O := ref_SameInstrs_O) (H := ref_SameInstrs_H) (fn := Tryd.f25) (body := b25) (by kernel_rfl) (by kernel_rfl) (by kernel_rfl) (by decide) (by kernel_rfl)
    (fun x => by kernel_rfl) (fun n => by
      rintro ⟨⟨x1, x2, ⟨⟩⟩, ⟨⟩⟩
      kernel_rfl)
    (fun n => obl_of (by kernel_rfl) (by kernel_rfl) (ls (lz) (by kernel_rfl) (ref_SameInstrs_l4_k0 n)) (cn (cn (cn (cn (cn (cn (cn (cn (cn (cn (cn (cn (cn (cz) (by kernel_rfl)) (by kernel_rfl)) (by kernel_rfl)) (by kernel_rfl)) (by kernel_rfl)) (by kernel_rfl)) (by kernel_rfl)) (by kernel_rfl)) (by kernel_rfl)) (by kernel_rfl)) (by kernel_rfl)) (by kernel_rfl)) (by kernel_rfl)))
    (fun n ih => asc_cons (ref_SameInstr_ok ok n) <| asc_nil)
/-! ### pendulum/pendulumref.SameObject -/
abbrev ref_SameObject_ins : Sh := ⟨[(.agg [(.val .str), (.val ty3), (.val ty3), (.val (.int .i64)), (.val ty9), (.val ty10), (.val ty11)]), (.agg [(.val .str), (.val ty3), (.val ty3), (.val (.int .i64)), (.val ty9), (.val ty10), (.val ty11)])], []⟩
abbrev ref_SameObject_outs : Sh := ⟨[(.one (.val .bool))], []⟩
def ref_SameObject : Nat → ref_SameObject_ins.T → Option ref_SameObject_outs.T
  | 0, _ => none
  | n + 1, (((x1, x2, x3, x4, x5, x6, x7, _), (x8, x9, x10, x11, x12, x13, x14, _), _), _) =>
    match ref_SameInts n ((x2, x9, ()), ()) with
    | some ((x15, _), _) => (
      match ref_SameInts n ((x3, x10, ()), ()) with
      | some ((x16, _), _) => (
        match ref_SameCells n ((x5, x12, ()), ()) with
        | some ((x17, _), _) => (
          match ref_SameInsts n ((x6, x13, ()), ()) with
          | some ((x18, _), _) => (
            match ref_SameInstrs n ((x7, x14, ()), ()) with
            | some ((x19, _), _) => (
              if x15 then
                if x16 then
                  if x17 then
                    if x18 then
                      if x19 then
                        if strEq x1 x8 then
                          some ((x4 == x11, ()), ())
                        else
                          some ((false, ()), ())
                      else
                        some ((false, ()), ())
                    else
                      some ((false, ()), ())
                  else
                    some ((false, ()), ())
                else
                  some ((false, ()), ())
              else
                some ((false, ()), ()))
            | none => none)
          | none => none)
        | none => none)
      | none => none)
    | none => none
def ref_SameObject_H (n : Nat) : Hints := ⟨[], fun _ => [], fun _ => none, fun _ => none⟩
def ref_SameObject_O (n : Nat) : FuncId → List FSpec := asc [(22, ⟨ref_SameInts_ins, ref_SameInts_outs, ref_SameInts n⟩), (23, ⟨ref_SameCells_ins, ref_SameCells_outs, ref_SameCells n⟩), (24, ⟨ref_SameInsts_ins, ref_SameInsts_outs, ref_SameInsts n⟩), (25, ⟨ref_SameInstrs_ins, ref_SameInstrs_outs, ref_SameInstrs n⟩)]
def b12 : Code := bodyOf Tryd.f12
theorem ref_SameObject_ok {S : Nat → Addr} (ok : CfgOk P CC S) : ∀ n, SpecOk P CC S 12 ⟨ref_SameObject_ins, ref_SameObject_outs, ref_SameObject n⟩ :=
  fn_all ok (O := ref_SameObject_O) (H := ref_SameObject_H) (fn := Tryd.f12) (body := b12) (by kernel_rfl) (by kernel_rfl) (by kernel_rfl) (by decide) (by kernel_rfl)
    (fun x => by kernel_rfl) (fun n => by
      rintro ⟨⟨⟨x1, x2, x3, x4, x5, x6, x7, ⟨⟩⟩, ⟨x8, x9, x10, x11, x12, x13, x14, ⟨⟩⟩, ⟨⟩⟩, ⟨⟩⟩
      kernel_rfl)
    (fun n => obl_of (by kernel_rfl) (by kernel_rfl) (lz) (cn (cn (cn (cn (cn (cn (cn (cz) (by kernel_rfl)) (by kernel_rfl)) (by kernel_rfl)) (by kernel_rfl)) (by kernel_rfl)) (by kernel_rfl)) (by kernel_rfl)))
    (fun n ih => asc_cons (ref_SameInts_ok ok n) <| asc_cons (ref_SameCells_ok ok n) <| asc_cons (ref_SameInsts_ok ok n) <| asc_cons (ref_SameInstrs_ok ok n) <| asc_nil)
/-! ### pendulum/pendulumlaw21.CodeUnlike -/
abbrev law21_CodeUnlike_ins : Sh := ⟨[(.agg [(.val .str), (.val ty3), (.val ty3), (.val (.int .i64)), (.val ty9), (.val ty10), (.val ty11)]), (.agg [(.val .str), (.val ty3), (.val ty3), (.val (.int .i64)), (.val ty9), (.val ty10), (.val ty11)])], []⟩
abbrev law21_CodeUnlike_outs : Sh := ⟨[(.one (.val .bool))], []⟩
def law21_CodeUnlike : Nat → law21_CodeUnlike_ins.T → Option law21_CodeUnlike_outs.T
  | 0, _ => none
  | n + 1, (((x1, x2, x3, x4, x5, x6, x7, _), (x8, x9, x10, x11, x12, x13, x14, _), _), _) =>
    match law21_first n ((), ()) with
    | some ((x15, _), _) => (
      if !x15 then
        some ((false, ()), ())
      else
        match world_Object n (((x1, x2, x3, x4, x5, x6, x7, ()), ()), ()) with
        | some ((x16, _), _) => (
          if !x16 then
            some ((x15, ()), ())
          else
            match world_Object n (((x8, x9, x10, x11, x12, x13, x14, ()), ()), ()) with
            | some ((x17, _), _) => (
              if !x17 then
                some ((x15, ()), ())
              else
                if !x15 then
                  some ((x15, ()), ())
                else
                  match code_Bytes n (((x1, x2, x3, x4, x5, x6, x7, ()), ()), ()) with
                  | some ((((_, _), (x18, _), _), _), (l19, _)) => (
                    match code_Bytes n (((x8, x9, x10, x11, x12, x13, x14, ()), ()), ()) with
                    | some ((((_, _), (x20, _), _), _), (l21, _)) => (
                      if !(errNil x18) then
                        some ((true, ()), ())
                      else
                        if !(errNil x20) then
                          some ((true, ()), ())
                        else
                          if 0 ≤ mn (l19.length : Int) (l21.length : Int) ∧ mn (l19.length : Int) (l21.length : Int) ≤ (l19.length : Int) then (
                            let v22 : List Int := cutL l19 0 (mn (l19.length : Int) (l21.length : Int))
                            if 0 ≤ mn (l19.length : Int) (l21.length : Int) ∧ mn (l19.length : Int) (l21.length : Int) ≤ (l21.length : Int) then (
                              let v23 : List Int := cutL l21 0 (mn (l19.length : Int) (l21.length : Int))
                              match ref_SameBytes n ((v22, v23, ()), ()) with
                              | some ((x24, _), _) => (
                                match ref_SameObject n (((x1, x2, x3, x4, x5, x6, x7, ()), (x8, x9, x10, x11, x12, x13, x14, ()), ()), ()) with
                                | some ((x25, _), _) => (
                                  some ((x24 == x25, ()), ()))
                                | none => none)
                              | none => none) else none) else none)
                    | none => none)
                  | none => none)
            | none => none)
        | none => none)
    | none => none
def law21_CodeUnlike_H (n : Nat) : Hints := ⟨[], fun k => match k with | 11 => [6, 8] | _ => [], fun _ => none, fun _ => none⟩
def law21_CodeUnlike_O (n : Nat) : FuncId → List FSpec := asc [(6, ⟨law21_first_ins, law21_first_outs, law21_first n⟩), (8, ⟨code_Bytes_ins, code_Bytes_outs, code_Bytes n⟩), (10, ⟨world_Object_ins, world_Object_outs, world_Object n⟩), (11, ⟨ref_SameBytes_ins, ref_SameBytes_outs, ref_SameBytes n⟩), (12, ⟨ref_SameObject_ins, ref_SameObject_outs, ref_SameObject n⟩)]
def b4 : Code := bodyOf Tryd.f4
theorem law21_CodeUnlike_ok {S : Nat → Addr} (ok : CfgOk P CC S) : ∀ n, SpecOk P CC S 4 ⟨law21_CodeUnlike_ins, law21_CodeUnlike_outs, law21_CodeUnlike n⟩ :=
  fn_all ok (O := law21_CodeUnlike_O) (H := law21_CodeUnlike_H) (fn := Tryd.f4) (body := b4) (by kernel_rfl) (by kernel_rfl) (by kernel_rfl) (by decide) (by kernel_rfl)
    (fun x => by kernel_rfl) (fun n => by
      rintro ⟨⟨⟨x1, x2, x3, x4, x5, x6, x7, ⟨⟩⟩, ⟨x8, x9, x10, x11, x12, x13, x14, ⟨⟩⟩, ⟨⟩⟩, ⟨⟩⟩
      kernel_rfl)
    (fun n => obl_of (by kernel_rfl) (by kernel_rfl) (lz) (cn (cn (cn (cn (cn (cn (cn (cn (cn (cn (cn (cn (cn (cn (cn (cz) (by kernel_rfl)) (by kernel_rfl)) (by kernel_rfl)) (by kernel_rfl)) (by kernel_rfl)) (by kernel_rfl)) (by kernel_rfl)) (by kernel_rfl)) (by kernel_rfl)) (by kernel_rfl)) (by kernel_rfl)) (by kernel_rfl)) (by kernel_rfl)) (by kernel_rfl)) (by kernel_rfl)))
    (fun n ih => asc_cons (law21_first_ok ok n) <| asc_cons (code_Bytes_ok ok n) <| asc_cons (world_Object_ok ok n) <| asc_cons (ref_SameBytes_ok ok n) <| asc_cons (ref_SameObject_ok ok n) <| asc_nil)
end
end Go.Proofs.YtjccbolnjnefiaaDoor.Cm

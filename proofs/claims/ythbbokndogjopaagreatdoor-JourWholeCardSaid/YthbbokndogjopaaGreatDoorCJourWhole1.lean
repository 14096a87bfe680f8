/- Printed by cmtext.py: the code as plain functions. -/
import Derived.Test.YthbbokndogjopaaGreatDoorCJourWhole0
namespace Go.Proofs.YthbbokndogjopaaGreatDoor.Cm
open Go
noncomputable section
set_option linter.unusedVariables false
set_option maxRecDepth 100000
/-! ### (*pendulum/jour.Store).Commit -/
abbrev jour_Store_Commit_ins : Sh := ⟨[(.one (.ptr 0 0)), (.one (.val ty3))], [(.obj 68 [(.ptr 1 0), (.map 2), (.val (.int .i64)), (.val (.int .i64)), (.val (.int .i64))]), (.obj 61 [(.val (.int .i64)), (.map 3), (.map 4), (.val (.int .i64)), (.val (.int .i64)), (.val .bool)]), (.map .str .str false), (.map (.int .i64) ty2 false), (.map (.int .i64) ty2 false)]⟩
abbrev jour_Store_Commit_outs : List Sh := [⟨[(.one (.val .err))], [(.obj 68 [(.ptr 1 0), (.map 2), (.val (.int .i64)), (.val (.int .i64)), (.val (.int .i64))]), (.obj 61 [(.val (.int .i64)), (.map 3), (.map 4), (.val (.int .i64)), (.val (.int .i64)), (.val .bool)]), (.map .str .str false), (.map (.int .i64) ty2 false), (.map (.int .i64) ty2 false)]⟩, ⟨[(.one (.val .err))], [(.obj 68 [(.ptr 1 0), (.map 5), (.val (.int .i64)), (.val (.int .i64)), (.val (.int .i64))]), (.obj 61 [(.val (.int .i64)), (.map 3), (.map 4), (.val (.int .i64)), (.val (.int .i64)), (.val .bool)]), (.map .str .str false), (.map (.int .i64) ty2 false), (.map (.int .i64) ty2 false), (.map .str .str false)]⟩]
def jour_Store_Commit : Nat → jour_Store_Commit_ins.T → Option (OutsT jour_Store_Commit_outs)
  | 0, _ => none
  | n + 1, ((_, x1, _), ((_, _, x2, x3, x4, _), (x5, _, _, x6, x7, x8, _), m9, m10, m11, _)) =>
    match jour_Store_fits n (((), x1, ()), (((), (), x2, x3, x4, ()), (x5, (), (), x6, x7, x8, ()), m9, m10, m11, ())) with
    | some (.inl ((((_, _), (x12, _), _), _), ((_, _, x13, x14, x15, _), (x16, _, _, x17, x18, x19, _), m20, m21, m22, m23, _))) => (
      if !(errNil x12) then
        some (.inl ((x12, ()), (((), (), x13, x14, x15, ()), (x16, (), (), x17, x18, x19, ()), m20, m21, m22, ())))
      else
        match maps_Equal_25 n (((), (), ()), (m23, m20, ())) with
        | some ((x35, _), (m36, m37, _)) => (
          if x35 then
            some (.inl ((ErrV.nil, ()), (((), (), x13, x14, x15, ()), (x16, (), (), x17, x18, x19, ()), m37, m21, m22, ())))
          else
            match jour_bytes n ((1, x1, ()), ()) with
            | some ((_, _), (l38, _)) => (
              if decide (x13 ≥ 0) then
                match jour_bounds n (((), x13, ()), ((x16, (), (), x17, x18, x19, ()), m21, m22, ())) with
                | some ((((x39, _), (x40, _), _), _), ((x41, _, _, x42, x43, x44, _), m45, m46, _)) => (
                  match jour_sectors n (((), ()), (l38, ())) with
                  | some ((x47, _), (l48, _)) => (
                    let v49 : Int := IntKind.i64.wrap (x40 - x14)
                    if decide (x47 ≤ v49) then
                      match jour_Store_write n (((), x14, l48, ()), (((), (), x13, x14, x15, ()), (x41, (), (), x42, x43, x44, ()), m37, m45, m46, ())) with
                      | some ((x50, _), ((_, _, x51, x52, x53, _), (x54, _, _, x55, x56, x57, _), m58, m59, m60, _)) => (
                        if !(errNil x50) then
                          some (.inl ((x50, ()), (((), (), x51, x52, x53, ()), (x54, (), (), x55, x56, x57, ()), m58, m59, m60, ())))
                        else
                          match jour_sectors_2 n ((l48, ()), ()) with
                          | some ((x61, _), _) => (
                            let v62 : Int := IntKind.i64.wrap (x52 + x61)
                            some (.inr (((ErrV.nil, ()), (((), (), x51, v62, x53, ()), (x54, (), (), x55, x56, x57, ()), m58, m59, m60, m36, ())))))
                          | none => none)
                      | none => none
                    else
                      match jour_Store_all n (((), (), ()), (((), (), x13, x14, x15, ()), m36, (x41, (), (), x42, x43, x44, ()), m37, m45, m46, ())) with
                      | some (.inl ((x63, _), ((_, _, x64, x65, x66, _), m67, (x68, _, _, x69, x70, x71, _), m72, m73, m74, _))) => (
                        some (.inl ((x63, ()), (((), (), x64, x65, x66, ()), (x68, (), (), x69, x70, x71, ()), m72, m73, m74, ()))))
                      | some (.inr (((x75, _), ((_, _, x76, x77, x78, _), m79, (x80, _, _, x81, x82, x83, _), m84, m85, m86, _)))) => (
                        some (.inr (((x75, ()), (((), (), x76, x77, x78, ()), (x80, (), (), x81, x82, x83, ()), m84, m85, m86, m79, ())))))
                      | none => none)
                  | none => none)
                | none => none
              else
                match jour_Store_all n (((), (), ()), (((), (), x13, x14, x15, ()), m36, (x16, (), (), x17, x18, x19, ()), m37, m21, m22, ())) with
                | some (.inl ((x87, _), ((_, _, x88, x89, x90, _), m91, (x92, _, _, x93, x94, x95, _), m96, m97, m98, _))) => (
                  some (.inl ((x87, ()), (((), (), x88, x89, x90, ()), (x92, (), (), x93, x94, x95, ()), m96, m97, m98, ()))))
                | some (.inr (((x99, _), ((_, _, x100, x101, x102, _), m103, (x104, _, _, x105, x106, x107, _), m108, m109, m110, _)))) => (
                  some (.inr (((x99, ()), (((), (), x100, x101, x102, ()), (x104, (), (), x105, x106, x107, ()), m108, m109, m110, m103, ())))))
                | none => none)
            | none => none)
        | none => none)
    | some (.inr (((((_, _), (x24, _), _), _), ((_, _, x25, x26, x27, _), (x28, _, _, x29, x30, x31, _), m32, m33, m34, _)))) => (
      if !(errNil x24) then (
        some (.inl ((x24, ()), (((), (), x25, x26, x27, ()), (x28, (), (), x29, x30, x31, ()), m32, m33, m34, ())))) else none)
    | none => none
def jour_Store_Commit_H (n : Nat) : Hints := ⟨[], fun _ => [], fun _ => none, fun _ => none, fun _ => none, fun _ => 0⟩
def jour_Store_Commit_O (n : Nat) : FuncId → List FSpec := asc [(24, ⟨jour_Store_fits_ins, jour_Store_fits_outs, jour_Store_fits n⟩), (25, ⟨maps_Equal_25_ins, maps_Equal_25_outs, maps_Equal_25 n⟩), (26, ⟨jour_bytes_ins, jour_bytes_outs, jour_bytes n⟩), (27, ⟨jour_bounds_ins, jour_bounds_outs, jour_bounds n⟩), (28, ⟨jour_sectors_ins, jour_sectors_outs, jour_sectors n⟩), (28, ⟨jour_sectors_2_ins, jour_sectors_2_outs, jour_sectors_2 n⟩), (29, ⟨jour_Store_write_ins, jour_Store_write_outs, jour_Store_write n⟩), (30, ⟨jour_Store_all_ins, jour_Store_all_outs, jour_Store_all n⟩)]
def b11 : Code := bodyOf Tryz.f11
theorem jour_Store_Commit_ok {S : Nat → Addr} (ok : CfgOk P CC S) : ∀ n, SpecOk P CC S 11 ⟨jour_Store_Commit_ins, jour_Store_Commit_outs, jour_Store_Commit n⟩ :=
  fn_all ok (O := jour_Store_Commit_O) (H := jour_Store_Commit_H) (fn := Tryz.f11) (body := b11) (by kernel_rfl) (by kernel_rfl) (by kernel_rfl) (by decide) (by kernel_rfl)
    (fun x => by kernel_rfl) (fun n => by
      rintro ⟨⟨⟨⟩, x1, ⟨⟩⟩, ⟨⟨⟨⟩, ⟨⟩, x2, x3, x4, ⟨⟩⟩, ⟨x5, ⟨⟩, ⟨⟩, x6, x7, x8, ⟨⟩⟩, x9, x10, x11, ⟨⟩⟩⟩
      kernel_rfl)
    (fun n => obl_of (by kernel_rfl) (by kernel_rfl) (lz) (cn (cn (cn (cn (cn (cn (cn (cn (cn (cn (cn (cn (cn (cn (cn (cn (cn (cn (cn (cn (cz) (by kernel_rfl)) (by kernel_rfl)) (by kernel_rfl)) (by kernel_rfl)) (by kernel_rfl)) (by kernel_rfl)) (by kernel_rfl)) (by kernel_rfl)) (by kernel_rfl)) (by kernel_rfl)) (by kernel_rfl)) (by kernel_rfl)) (by kernel_rfl)) (by kernel_rfl)) (by kernel_rfl)) (by kernel_rfl)) (by kernel_rfl)) (by kernel_rfl)) (by kernel_rfl)) (by kernel_rfl)) (hn fun _ => rfl))
    (fun n ih => asc_cons (jour_Store_fits_ok ok n) <| asc_cons (maps_Equal_25_ok ok n) <| asc_cons (jour_bytes_ok ok n) <| asc_cons (jour_bounds_ok ok n) <| asc_cons (jour_sectors_ok ok n) <| asc_cons (jour_sectors_2_ok ok n) <| asc_cons (jour_Store_write_ok ok n) <| asc_cons (jour_Store_all_ok ok n) <| asc_nil)
/-! ### (*pendulum/jour.Store).Get -/
abbrev jour_Store_Get_ins : Sh := ⟨[(.one (.ptr 0 0)), (.one (.val .str))], [(.obj 68 [(.ptr 1 0), (.map 2), (.val (.int .i64)), (.val (.int .i64)), (.val (.int .i64))]), (.obj 61 [(.val (.int .i64)), (.map 3), (.map 4), (.val (.int .i64)), (.val (.int .i64)), (.val .bool)]), (.map .str .str false), (.map (.int .i64) ty2 false), (.map (.int .i64) ty2 false)]⟩
abbrev jour_Store_Get_outs : List Sh := [⟨[(.tup [(false, [(.val .str)]), (false, [(.val .bool)])])], [(.obj 68 [(.ptr 1 0), (.map 2), (.val (.int .i64)), (.val (.int .i64)), (.val (.int .i64))]), (.obj 61 [(.val (.int .i64)), (.map 3), (.map 4), (.val (.int .i64)), (.val (.int .i64)), (.val .bool)]), (.map .str .str false), (.map (.int .i64) ty2 false), (.map (.int .i64) ty2 false)]⟩]
def jour_Store_Get : Nat → jour_Store_Get_ins.T → Option (OutsT jour_Store_Get_outs)
  | 0, _ => none
  | n + 1, ((_, x1, _), ((_, _, x2, x3, x4, _), (x5, _, _, x6, x7, x8, _), m9, m10, m11, _)) =>
    let v12 : ByteArray := (mfind (keyEq (.str : Ty)) x1 m9).getD (⟨#[]⟩ : ByteArray)
    some ((((v12, ()), ((mfind (keyEq (.str : Ty)) x1 m9).isSome, ()), ()), ()), (((), (), x2, x3, x4, ()), (x5, (), (), x6, x7, x8, ()), m9, m10, m11, ()))
def jour_Store_Get_H (n : Nat) : Hints := ⟨[], fun _ => [], fun _ => none, fun _ => none, fun _ => none, fun _ => 0⟩
def jour_Store_Get_O (n : Nat) : FuncId → List FSpec := asc []
def b20 : Code := bodyOf Tryz.f20
theorem jour_Store_Get_ok {S : Nat → Addr} (ok : CfgOk P CC S) : ∀ n, SpecOk P CC S 20 ⟨jour_Store_Get_ins, jour_Store_Get_outs, jour_Store_Get n⟩ :=
  fn_all ok (O := jour_Store_Get_O) (H := jour_Store_Get_H) (fn := Tryz.f20) (body := b20) (by kernel_rfl) (by kernel_rfl) (by kernel_rfl) (by decide) (by kernel_rfl)
    (fun x => by kernel_rfl) (fun n => by
      rintro ⟨⟨⟨⟩, x1, ⟨⟩⟩, ⟨⟨⟨⟩, ⟨⟩, x2, x3, x4, ⟨⟩⟩, ⟨x5, ⟨⟩, ⟨⟩, x6, x7, x8, ⟨⟩⟩, x9, x10, x11, ⟨⟩⟩⟩
      kernel_rfl)
    (fun n => obl_of (by kernel_rfl) (by kernel_rfl) (lz) (cn (cn (cn (cz) (by kernel_rfl)) (by kernel_rfl)) (by kernel_rfl)) (hn fun _ => rfl))
    (fun n ih => asc_nil)
/-! ### (*pendulum/jour.Store).Keys -/
abbrev jour_Store_Keys_ins : Sh := ⟨[(.one (.ptr 0 0))], [(.obj 68 [(.ptr 1 0), (.map 2), (.val (.int .i64)), (.val (.int .i64)), (.val (.int .i64))]), (.obj 61 [(.val (.int .i64)), (.map 3), (.map 4), (.val (.int .i64)), (.val (.int .i64)), (.val .bool)]), (.map .str .str false), (.map (.int .i64) ty2 false), (.map (.int .i64) ty2 false)]⟩
abbrev jour_Store_Keys_outs : List Sh := [⟨[(.one (.arr 5))], [(.obj 68 [(.ptr 1 0), (.map 2), (.val (.int .i64)), (.val (.int .i64)), (.val (.int .i64))]), (.obj 61 [(.val (.int .i64)), (.map 3), (.map 4), (.val (.int .i64)), (.val (.int .i64)), (.val .bool)]), (.map .str .str false), (.map (.int .i64) ty2 false), (.map (.int .i64) ty2 false), (.arr 9 .str)]⟩]
def jour_Store_Keys : Nat → jour_Store_Keys_ins.T → Option (OutsT jour_Store_Keys_outs)
  | 0, _ => none
  | n + 1, ((_, _), ((_, _, x1, x2, x3, _), (x4, _, _, x5, x6, x7, _), m8, m9, m10, _)) =>
    match maps_Keys_map_string_string_string_string n (((), ()), (m8, ())) with
    | some ((_, _), (m11, (_, _), _)) => (
      match slices_Sorted_62 n (((), ()), (((), ()), m11, ())) with
      | some ((_, _), ((_, _), m12, l13, _)) => (
        some (((), ()), (((), (), x1, x2, x3, ()), (x4, (), (), x5, x6, x7, ()), m12, m9, m10, l13, ())))
      | none => none)
    | none => none
def jour_Store_Keys_H (n : Nat) : Hints := ⟨[], fun _ => [], fun _ => none, fun _ => none, fun _ => none, fun _ => 0⟩
def jour_Store_Keys_O (n : Nat) : FuncId → List FSpec := asc [(40, ⟨slices_Sorted_62_ins, slices_Sorted_62_outs, slices_Sorted_62 n⟩), (41, ⟨maps_Keys_map_string_string_string_string_ins, maps_Keys_map_string_string_string_string_outs, maps_Keys_map_string_string_string_string n⟩)]
def b19 : Code := bodyOf Tryz.f19
theorem jour_Store_Keys_ok {S : Nat → Addr} (ok : CfgOk P CC S) : ∀ n, SpecOk P CC S 19 ⟨jour_Store_Keys_ins, jour_Store_Keys_outs, jour_Store_Keys n⟩ :=
  fn_all ok (O := jour_Store_Keys_O) (H := jour_Store_Keys_H) (fn := Tryz.f19) (body := b19) (by kernel_rfl) (by kernel_rfl) (by kernel_rfl) (by decide) (by kernel_rfl)
    (fun x => by kernel_rfl) (fun n => by
      rintro ⟨⟨⟨⟩, ⟨⟩⟩, ⟨⟨⟨⟩, ⟨⟩, x1, x2, x3, ⟨⟩⟩, ⟨x4, ⟨⟩, ⟨⟩, x5, x6, x7, ⟨⟩⟩, x8, x9, x10, ⟨⟩⟩⟩
      kernel_rfl)
    (fun n => obl_of (by kernel_rfl) (by kernel_rfl) (lz) (cn (cn (cz) (by kernel_rfl)) (by kernel_rfl)) (hn fun _ => rfl))
    (fun n ih => asc_cons (slices_Sorted_62_ok ok n) <| asc_cons (maps_Keys_map_string_string_string_string_ok ok n) <| asc_nil)
/-! ### pendulum/pendulumref.SameTexts -/
abbrev ref_SameTexts_ins : Sh := ⟨[(.one (.val ty4)), (.one (.val ty4))], []⟩
abbrev ref_SameTexts_outs : List Sh := [⟨[(.one (.val .bool))], []⟩]
abbrev ref_SameTexts_l4_h : Sh := ⟨[(.one (.val ty4)), (.one (.val ty4)), (.one (.val (.int .i64)))], []⟩
abbrev ref_SameTexts_l4_o : List Out := [⟨(.exit 0), [], ⟨[], []⟩⟩, ⟨.ret, [4], ⟨[(.one (.val .bool))], []⟩⟩]
def ref_SameTexts_l4 (n : Nat) : Nat → ref_SameTexts_l4_h.T → Option (OutT ref_SameTexts_l4_o)
  | 0, _ => none
  | k + 1, ((x1, x2, x3, _), _) =>
    if decide (x3 < (x1.length : Int)) then
      if 0 ≤ x3 ∧ x3 < (x1.length : Int) then (
        if 0 ≤ x3 ∧ x3 < (x2.length : Int) then (
          if !(strEq (rdT (.str : Ty) x1 x3) (rdT (.str : Ty) x2 x3)) then
            some (.inr (.inl ((false, ()), ())))
          else
            let v4 : Int := IntKind.i64.wrap (x3 + 1)
            ref_SameTexts_l4 n k ((x1, x2, v4, ()), ())) else none) else none
    else
      some (.inl ((), ()))
def ref_SameTexts : Nat → ref_SameTexts_ins.T → Option (OutsT ref_SameTexts_outs)
  | 0, _ => none
  | n + 1, ((x1, x2, _), _) =>
    if (x1.length : Int) != (x2.length : Int) then
      some ((false, ()), ())
    else
      match ref_SameTexts_l4 n n ((x1, x2, 0, ()), ()) with
      | some (.inl (_, _)) => (
        some ((true, ()), ()))
      | some (.inr (.inl ((x3, _), _))) => (
        some ((x3, ()), ()))
      | some (.inr (.inr (_))) => none
      | none => none
def ref_SameTexts_H (n : Nat) : Hints := ⟨[], fun _ => [], fun k => match k with | 4 => some ⟨[0, 1, 5], ref_SameTexts_l4_h, ref_SameTexts_l4_o, ref_SameTexts_l4 n⟩ | _ => none, fun _ => none, fun _ => none, fun _ => 0⟩
def ref_SameTexts_O (n : Nat) : FuncId → List FSpec := asc []
def b21 : Code := bodyOf Tryz.f21
theorem ref_SameTexts_l4_k0 (n : Nat) : LoopOk P CC (ref_SameTexts_O n) n 0 29 (ref_SameTexts_H n) ⟨[0, 1, 5], ref_SameTexts_l4_h, ref_SameTexts_l4_o, ref_SameTexts_l4 n⟩ ((loopsOf b21).getD 0 .skip) := by
  refine ⟨fun _ => by kernel_rfl, ?_⟩
  rintro k ⟨⟨x1, x2, x3, ⟨⟩⟩, ⟨⟩⟩
  kernel_rfl
theorem ref_SameTexts_ok {S : Nat → Addr} (ok : CfgOk P CC S) : ∀ n, SpecOk P CC S 21 ⟨ref_SameTexts_ins, ref_SameTexts_outs, ref_SameTexts n⟩ :=
  fn_all ok (O := ref_SameTexts_O) (H := ref_SameTexts_H) (fn := Tryz.f21) (body := b21) (by kernel_rfl) (by kernel_rfl) (by kernel_rfl) (by decide) (by kernel_rfl)
    (fun x => by kernel_rfl) (fun n => by
      rintro ⟨⟨x1, x2, ⟨⟩⟩, ⟨⟩⟩
      kernel_rfl)
    (fun n => obl_of (by kernel_rfl) (by kernel_rfl) (ls (lz) (by kernel_rfl) (ref_SameTexts_l4_k0 n)) (cn (cn (cn (cn (cn (cn (cn (cn (cn (cn (cn (cn (cn (cz) (by kernel_rfl)) (by kernel_rfl)) (by kernel_rfl)) (by kernel_rfl)) (by kernel_rfl)) (by kernel_rfl)) (by kernel_rfl)) (by kernel_rfl)) (by kernel_rfl)) (by kernel_rfl)) (by kernel_rfl)) (by kernel_rfl)) (by kernel_rfl)) (hn fun _ => rfl))
    (fun n ih => asc_nil)
/-! ### pendulum/pendulumlaw4.first -/
abbrev law4_first_ins : Sh := ⟨[], []⟩
abbrev law4_first_outs : List Sh := [⟨[(.one (.val .bool))], []⟩]
abbrev law4_first_c4_h : Sh := ⟨[(.one (.ptr 0 0))], [(.obj 68 [(.ptr 1 0), (.map 2), (.val (.int .i64)), (.val (.int .i64)), (.val (.int .i64))]), (.obj 61 [(.val (.int .i64)), (.map 3), (.map 4), (.val (.int .i64)), (.val (.int .i64)), (.val .bool)]), (.map .str .str false), (.map (.int .i64) ty2 false), (.map (.int .i64) ty2 false)]⟩
abbrev law4_first_c4_o : List Out := [⟨.normal, [1], ⟨[(.one (.ptr 0 0))], [(.obj 68 [(.ptr 1 0), (.map 2), (.val (.int .i64)), (.val (.int .i64)), (.val (.int .i64))]), (.obj 61 [(.val (.int .i64)), (.map 3), (.map 4), (.val (.int .i64)), (.val (.int .i64)), (.val .bool)]), (.map .str .str false), (.map (.int .i64) ty2 false), (.map (.int .i64) ty2 false)]⟩⟩, ⟨.ret, [0], ⟨[(.one (.val .bool))], []⟩⟩]
def law4_first_c4 (n : Nat) : law4_first_c4_h.T → Option (OutT law4_first_c4_o)
  | ((_, _), ((_, _, x1, x2, x3, _), (x4, _, _, x5, x6, x7, _), m8, m9, m10, _)) =>
    match jour_Store_Commit n (((), [((⟨#[97]⟩ : ByteArray), ((⟨#[49]⟩ : ByteArray), false))], ()), (((), (), x1, x2, x3, ()), (x4, (), (), x5, x6, x7, ()), m8, m9, m10, ())) with
    | some (.inl ((x11, _), ((_, _, x12, x13, x14, _), (x15, _, _, x16, x17, x18, _), m19, m20, m21, _))) => (
      if !(errNil x11) then
        some (.inr (.inl ((false, ()), ())))
      else
        match jour_Store_Commit n (((), [((⟨#[97]⟩ : ByteArray), ((⟨#[50]⟩ : ByteArray), false)), ((⟨#[98]⟩ : ByteArray), ((⟨#[51]⟩ : ByteArray), false))], ()), (((), (), x12, x13, x14, ()), (x15, (), (), x16, x17, x18, ()), m19, m20, m21, ())) with
        | some (.inl ((x34, _), ((_, _, x35, x36, x37, _), (x38, _, _, x39, x40, x41, _), m42, m43, m44, _))) => (
          if !(errNil x34) then
            some (.inr (.inl ((false, ()), ())))
          else
            some (.inl (((), ()), (((), (), x35, x36, x37, ()), (x38, (), (), x39, x40, x41, ()), m42, m43, m44, ()))))
        | some (.inr (((x45, _), ((_, _, x46, x47, x48, _), (x49, _, _, x50, x51, x52, _), m53, m54, m55, m56, _)))) => (
          if !(errNil x45) then
            some (.inr (.inl ((false, ()), ())))
          else
            some (.inl (((), ()), (((), (), x46, x47, x48, ()), (x49, (), (), x50, x51, x52, ()), m56, m54, m55, ()))))
        | none => none)
    | some (.inr (((x22, _), ((_, _, x23, x24, x25, _), (x26, _, _, x27, x28, x29, _), m30, m31, m32, m33, _)))) => (
      if !(errNil x22) then
        some (.inr (.inl ((false, ()), ())))
      else
        match jour_Store_Commit n (((), [((⟨#[97]⟩ : ByteArray), ((⟨#[50]⟩ : ByteArray), false)), ((⟨#[98]⟩ : ByteArray), ((⟨#[51]⟩ : ByteArray), false))], ()), (((), (), x23, x24, x25, ()), (x26, (), (), x27, x28, x29, ()), m33, m31, m32, ())) with
        | some (.inl ((x57, _), ((_, _, x58, x59, x60, _), (x61, _, _, x62, x63, x64, _), m65, m66, m67, _))) => (
          if !(errNil x57) then
            some (.inr (.inl ((false, ()), ())))
          else
            some (.inl (((), ()), (((), (), x58, x59, x60, ()), (x61, (), (), x62, x63, x64, ()), m65, m66, m67, ()))))
        | some (.inr (((x68, _), ((_, _, x69, x70, x71, _), (x72, _, _, x73, x74, x75, _), m76, m77, m78, m79, _)))) => (
          if !(errNil x68) then
            some (.inr (.inl ((false, ()), ())))
          else
            some (.inl (((), ()), (((), (), x69, x70, x71, ()), (x72, (), (), x73, x74, x75, ()), m79, m77, m78, ()))))
        | none => none)
    | none => none
def law4_first : Nat → law4_first_ins.T → Option (OutsT law4_first_outs)
  | 0, _ => none
  | n + 1, (_, _) =>
    match law4_opened n ((64, ()), ()) with
    | some (.inl ((((_, _), (_, _), _), _), ((_, _, x1, x2, x3, _), (x4, _, _, x5, x6, x7, _), m8, m9, m10, _))) => (
      match law4_first_c4 n (((), ()), (((), (), x1, x2, x3, ()), (x4, (), (), x5, x6, x7, ()), m8, m9, m10, ())) with
      | some (.inl ((_, _), ((_, _, x17, x18, x19, _), (x20, _, _, x21, x22, x23, _), m24, m25, m26, _))) => (
        match jour_Store_Get n (((), (⟨#[97]⟩ : ByteArray), ()), (((), (), x17, x18, x19, ()), (x20, (), (), x21, x22, x23, ()), m24, m25, m26, ())) with
        | some ((((x28, _), (x29, _), _), _), ((_, _, x30, x31, x32, _), (x33, _, _, x34, x35, x36, _), m37, m38, m39, _)) => (
          if x29 then
            if strEq x28 (⟨#[50]⟩ : ByteArray) then
              match jour_Store_Keys n (((), ()), (((), (), x30, x31, x32, ()), (x33, (), (), x34, x35, x36, ()), m37, m38, m39, ())) with
              | some ((_, _), ((_, _, x40, x41, x42, _), (x43, _, _, x44, x45, x46, _), m47, m48, m49, l50, _)) => (
                match ref_SameTexts n ((l50, [(⟨#[97]⟩ : ByteArray), (⟨#[98]⟩ : ByteArray)], ()), ()) with
                | some ((x51, _), _) => (
                  some ((x51, ()), ()))
                | none => none)
              | none => none
            else
              some ((false, ()), ())
          else
            some ((false, ()), ()))
        | none => none)
      | some (.inr (.inl ((x27, _), _))) => (
        some ((x27, ()), ()))
      | some (.inr (.inr (_))) => none
      | none => none)
    | some (.inr (.inl ((((_, _), (_, _), _), _), ((x11, _, _, x12, x13, x14, _), m15, m16, _)))) => (
      none)
    | some (.inr (.inr (((((_, _), (_, _), _), _), _)))) => (
      none)
    | none => none
def law4_first_H (n : Nat) : Hints := ⟨[], fun _ => [], fun _ => none, fun k => match k with | 4 => some ⟨[1], law4_first_c4_h, law4_first_c4_o, fun n => law4_first_c4 n⟩ | _ => none, fun _ => none, fun _ => 0⟩
def law4_first_O (n : Nat) : FuncId → List FSpec := asc [(7, ⟨law4_opened_ins, law4_opened_outs, law4_opened n⟩), (11, ⟨jour_Store_Commit_ins, jour_Store_Commit_outs, jour_Store_Commit n⟩), (19, ⟨jour_Store_Keys_ins, jour_Store_Keys_outs, jour_Store_Keys n⟩), (20, ⟨jour_Store_Get_ins, jour_Store_Get_outs, jour_Store_Get n⟩), (21, ⟨ref_SameTexts_ins, ref_SameTexts_outs, ref_SameTexts n⟩)]
def b5 : Code := bodyOf Tryz.f5
theorem law4_first_c4_k2 (n : Nat) : CutOk P CC (law4_first_O n) n 0 42 (law4_first_H n) ⟨[1], law4_first_c4_h, law4_first_c4_o, fun n => law4_first_c4 n⟩ ((cutsOf b5).getD 2 (0, .skip)).2 := by
  rintro ⟨⟨⟨⟩, ⟨⟩⟩, ⟨⟨⟨⟩, ⟨⟩, x1, x2, x3, ⟨⟩⟩, ⟨x4, ⟨⟩, ⟨⟩, x5, x6, x7, ⟨⟩⟩, x8, x9, x10, ⟨⟩⟩⟩
  kernel_rfl
theorem law4_first_ok {S : Nat → Addr} (ok : CfgOk P CC S) : ∀ n, SpecOk P CC S 5 ⟨law4_first_ins, law4_first_outs, law4_first n⟩ :=
  fn_all ok (O := law4_first_O) (H := law4_first_H) (fn := Tryz.f5) (body := b5) (by kernel_rfl) (by kernel_rfl) (by kernel_rfl) (by decide) (by kernel_rfl)
    (fun x => by kernel_rfl) (fun n => by
      rintro ⟨⟨⟩, ⟨⟩⟩
      kernel_rfl)
    (fun n => obl_of (by kernel_rfl) (by kernel_rfl) (lz) (cn (cn (cn (cn (cs (cn (cn (cz) (by kernel_rfl)) (by kernel_rfl)) (by kernel_rfl) (law4_first_c4_k2 n)) (by kernel_rfl)) (by kernel_rfl)) (by kernel_rfl)) (by kernel_rfl)) (hn fun _ => rfl))
    (fun n ih => asc_cons (law4_opened_ok ok n) <| asc_cons (jour_Store_Commit_ok ok n) <| asc_cons (jour_Store_Keys_ok ok n) <| asc_cons (jour_Store_Get_ok ok n) <| asc_cons (ref_SameTexts_ok ok n) <| asc_nil)
/-! ### pendulum/pendulumworld.Number -/
abbrev world_Number_ins : Sh := ⟨[(.one (.val (.int .i64))), (.one (.val (.int .i64)))], []⟩
abbrev world_Number_outs : List Sh := [⟨[(.one (.val (.int .i64)))], []⟩]
def world_Number : Nat → world_Number_ins.T → Option (OutsT world_Number_outs)
  | 0, _ => none
  | n + 1, ((x1, x2, _), _) =>
    if x2 = 0 then
      none
    else
      if decide (Int.tmod x1 x2 < 0) then
        let v3 : Int := IntKind.i64.wrap ((Int.tmod x1 x2) + x2)
        some ((v3, ()), ())
      else
        some ((Int.tmod x1 x2, ()), ())
def world_Number_H (n : Nat) : Hints := ⟨[], fun _ => [], fun _ => none, fun _ => none, fun _ => none, fun _ => 0⟩
def world_Number_O (n : Nat) : FuncId → List FSpec := asc []
def b9 : Code := bodyOf Tryz.f9
theorem world_Number_ok {S : Nat → Addr} (ok : CfgOk P CC S) : ∀ n, SpecOk P CC S 9 ⟨world_Number_ins, world_Number_outs, world_Number n⟩ :=
  fn_all ok (O := world_Number_O) (H := world_Number_H) (fn := Tryz.f9) (body := b9) (by kernel_rfl) (by kernel_rfl) (by kernel_rfl) (by decide) (by kernel_rfl)
    (fun x => by kernel_rfl) (fun n => by
      rintro ⟨⟨x1, x2, ⟨⟩⟩, ⟨⟩⟩
      kernel_rfl)
    (fun n => obl_of (by kernel_rfl) (by kernel_rfl) (lz) (cn (cn (cn (cn (cn (cz) (by kernel_rfl)) (by kernel_rfl)) (by kernel_rfl)) (by kernel_rfl)) (by kernel_rfl)) (hn fun _ => rfl))
    (fun n ih => asc_nil)
/-! ### strconv.Itoa (by hand) -/
abbrev strconv_Itoa_ins : Sh := ⟨[(.one (.val (.int .i64)))], []⟩
abbrev strconv_Itoa_outs : List Sh := [⟨[(.one (.val .str))], []⟩]
def strconv_Itoa : Nat → strconv_Itoa_ins.T → Option (OutsT strconv_Itoa_outs) := fun _ => itoaSem
theorem strconv_Itoa_ok {S : Nat → Addr} (ok : CfgOk P CC S) : ∀ n, SpecOk P CC S 59 ⟨strconv_Itoa_ins, strconv_Itoa_outs, strconv_Itoa n⟩ := fun n => itoa_spec ⟨Tryz.f59, by kernel_rfl, by kernel_rfl, by kernel_rfl⟩ (.head _) (by kernel_rfl) Tryz.strconv_Itoa
/-! ### pendulum/pendulumworld.Num -/
abbrev world_Num_ins : Sh := ⟨[(.one (.val (.int .i64)))], []⟩
abbrev world_Num_outs : List Sh := [⟨[(.one (.val .str))], []⟩]
def world_Num : Nat → world_Num_ins.T → Option (OutsT world_Num_outs)
  | 0, _ => none
  | n + 1, ((x1, _), _) =>
    match strconv_Itoa n ((x1, ()), ()) with
    | some ((x2, _), _) => (
      some ((x2, ()), ()))
    | none => none
def world_Num_H (n : Nat) : Hints := ⟨[], fun _ => [], fun _ => none, fun _ => none, fun _ => none, fun _ => 0⟩
def world_Num_O (n : Nat) : FuncId → List FSpec := asc [(59, ⟨strconv_Itoa_ins, strconv_Itoa_outs, strconv_Itoa n⟩)]
def b39 : Code := bodyOf Tryz.f39
theorem world_Num_ok {S : Nat → Addr} (ok : CfgOk P CC S) : ∀ n, SpecOk P CC S 39 ⟨world_Num_ins, world_Num_outs, world_Num n⟩ :=
  fn_all ok (O := world_Num_O) (H := world_Num_H) (fn := Tryz.f39) (body := b39) (by kernel_rfl) (by kernel_rfl) (by kernel_rfl) (by decide) (by kernel_rfl)
    (fun x => by kernel_rfl) (fun n => by
      rintro ⟨⟨x1, ⟨⟩⟩, ⟨⟩⟩
      kernel_rfl)
    (fun n => obl_of (by kernel_rfl) (by kernel_rfl) (lz) (cn (cn (cz) (by kernel_rfl)) (by kernel_rfl)) (hn fun _ => rfl))
    (fun n ih => asc_cons (strconv_Itoa_ok ok n) <| asc_nil)
/-! ### pendulum/pendulumlaw4.changes -/
abbrev law4_changes_ins : Sh := ⟨[(.one (.val (.int .i64))), (.one (.val .str))], []⟩
abbrev law4_changes_outs : List Sh := [⟨[(.one (.arr 0))], [(.arr 55 ty0)]⟩]
abbrev law4_changes_l6_h : Sh := ⟨[(.one (.val (.int .i64))), (.one (.val .str)), (.one (.arr 0)), (.one (.val (.int .i64))), (.one (.val .str))], [(.arr 55 ty0)]⟩
abbrev law4_changes_l6_o : List Out := [⟨(.exit 2), [0, 1, 5, 6, 7], ⟨[(.one (.val (.int .i64))), (.one (.val .str)), (.one (.arr 0)), (.one (.val (.int .i64))), (.one (.val .str))], [(.arr 55 ty0)]⟩⟩]
def law4_changes_l6 (n : Nat) : Nat → law4_changes_l6_h.T → Option (OutT law4_changes_l6_o)
  | 0, _ => none
  | k + 1, ((x1, x2, _, x3, x4, _), (l5, _)) =>
    let v6 : Int := IntKind.i64.wrap (10 * x3)
    if decide ((x4.size : Int) < v6) then
      if x4.size + x2.size ≤ 9223372036854775807 then (
        law4_changes_l6 n k ((x1, x2, (), x3, x4 ++ x2, ()), (l5, ()))) else none
    else
      some (.inl ((x1, x2, (), x3, x4, ()), (l5, ())))
abbrev law4_changes_l3_h : Sh := ⟨[(.one (.val (.int .i64))), (.one (.val .str)), (.one (.arr 0)), (.one (.val (.int .i64)))], [(.arr 55 ty0)]⟩
abbrev law4_changes_l3_o : List Out := [⟨(.exit 0), [5], ⟨[(.one (.arr 0))], [(.arr 55 ty0)]⟩⟩]
def law4_changes_l3 (n : Nat) : Nat → law4_changes_l3_h.T → Option (OutT law4_changes_l3_o)
  | 0, _ => none
  | k + 1, ((x1, x2, _, x3, _), (l4, _)) =>
    if decide (x3 < x1) then
      match law4_changes_l6 n n ((x1, x2, (), x3, x2, ()), (l4, ())) with
      | some (.inl ((x5, x6, _, x7, x8, _), (l9, _))) => (
        match world_Num n ((x7, ()), ()) with
        | some ((x10, _), _) => (
          if (⟨#[107]⟩ : ByteArray).size + x10.size ≤ 9223372036854775807 then (
            if (l9.length + ([((⟨#[107]⟩ : ByteArray) ++ x10, (x8, false))] : List ty0.T).length) * 40 ≤ 140737488355328 then (
              let v11 : Int := IntKind.i64.wrap (x7 + 1)
              law4_changes_l3 n k ((x5, x6, (), v11, ()), (l9 ++ [((⟨#[107]⟩ : ByteArray) ++ x10, (x8, false))], ()))) else none) else none)
        | none => none)
      | some (.inr (_)) => none
      | none => none
    else
      some (.inl (((), ()), (l4, ())))
def law4_changes : Nat → law4_changes_ins.T → Option (OutsT law4_changes_outs)
  | 0, _ => none
  | n + 1, ((x1, x2, _), _) =>
    match law4_changes_l3 n n ((x1, x2, (), 0, ()), ([], ())) with
    | some (.inl ((_, _), (l3, _))) => (
      some (((), ()), (l3, ())))
    | some (.inr (_)) => none
    | none => none
def law4_changes_H (n : Nat) : Hints := ⟨[], fun _ => [], fun k => match k with | 6 => some ⟨[0, 1, 5, 6, 7], law4_changes_l6_h, law4_changes_l6_o, law4_changes_l6 n⟩ | 3 => some ⟨[0, 1, 5, 6], law4_changes_l3_h, law4_changes_l3_o, law4_changes_l3 n⟩ | _ => none, fun _ => none, fun _ => none, fun _ => 0⟩
def law4_changes_O (n : Nat) : FuncId → List FSpec := asc [(39, ⟨world_Num_ins, world_Num_outs, world_Num n⟩)]
def b18 : Code := bodyOf Tryz.f18
theorem law4_changes_l3_k0 (n : Nat) : LoopOk P CC (law4_changes_O n) n 0 31 (law4_changes_H n) ⟨[0, 1, 5, 6], law4_changes_l3_h, law4_changes_l3_o, law4_changes_l3 n⟩ ((loopsOf b18).getD 0 .skip) := by
  refine ⟨fun _ => by kernel_rfl, ?_⟩
  rintro k ⟨⟨x1, x2, ⟨⟩, x3, ⟨⟩⟩, ⟨x4, ⟨⟩⟩⟩
  kernel_rfl
theorem law4_changes_l6_k1 (n : Nat) : LoopOk P CC (law4_changes_O n) n 0 31 (law4_changes_H n) ⟨[0, 1, 5, 6, 7], law4_changes_l6_h, law4_changes_l6_o, law4_changes_l6 n⟩ ((loopsOf b18).getD 1 .skip) := by
  refine ⟨fun _ => by kernel_rfl, ?_⟩
  rintro k ⟨⟨x1, x2, ⟨⟩, x3, x4, ⟨⟩⟩, ⟨x5, ⟨⟩⟩⟩
  kernel_rfl
theorem law4_changes_ok {S : Nat → Addr} (ok : CfgOk P CC S) : ∀ n, SpecOk P CC S 18 ⟨law4_changes_ins, law4_changes_outs, law4_changes n⟩ :=
  fn_all ok (O := law4_changes_O) (H := law4_changes_H) (fn := Tryz.f18) (body := b18) (by kernel_rfl) (by kernel_rfl) (by kernel_rfl) (by decide) (by kernel_rfl)
    (fun x => by kernel_rfl) (fun n => by
      rintro ⟨⟨x1, x2, ⟨⟩⟩, ⟨⟩⟩
      kernel_rfl)
    (fun n => obl_of (by kernel_rfl) (by kernel_rfl) (ls (ls (lz) (by kernel_rfl) (law4_changes_l3_k0 n)) (by kernel_rfl) (law4_changes_l6_k1 n)) (cn (cn (cn (cn (cn (cn (cn (cn (cn (cn (cn (cn (cz) (by kernel_rfl)) (by kernel_rfl)) (by kernel_rfl)) (by kernel_rfl)) (by kernel_rfl)) (by kernel_rfl)) (by kernel_rfl)) (by kernel_rfl)) (by kernel_rfl)) (by kernel_rfl)) (by kernel_rfl)) (by kernel_rfl)) (hn fun _ => rfl))
    (fun n ih => asc_cons (world_Num_ok ok n) <| asc_nil)
/-! ### (*pendulum/disk.Disk).Arm -/
abbrev disk_Disk_Arm_ins : Sh := ⟨[(.one (.ptr 0 0)), (.one (.val (.int .i64)))], [(.obj 61 [(.val (.int .i64)), (.map 1), (.map 2), (.val (.int .i64)), (.val (.int .i64)), (.val .bool)]), (.map (.int .i64) ty2 false), (.map (.int .i64) ty2 false)]⟩
abbrev disk_Disk_Arm_outs : List Sh := [⟨[(.tup [])], [(.obj 61 [(.val (.int .i64)), (.map 1), (.map 2), (.val (.int .i64)), (.val (.int .i64)), (.val .bool)]), (.map (.int .i64) ty2 false), (.map (.int .i64) ty2 false)]⟩]
def disk_Disk_Arm : Nat → disk_Disk_Arm_ins.T → Option (OutsT disk_Disk_Arm_outs)
  | 0, _ => none
  | n + 1, ((_, x1, _), ((x2, _, _, x3, x4, x5, _), m6, m7, _)) =>
    some (((), ()), ((x2, (), (), x3, mx x1 0, x5, ()), m6, m7, ()))
def disk_Disk_Arm_H (n : Nat) : Hints := ⟨[], fun _ => [], fun _ => none, fun _ => none, fun _ => none, fun _ => 0⟩
def disk_Disk_Arm_O (n : Nat) : FuncId → List FSpec := asc []
def b8 : Code := bodyOf Tryz.f8
theorem disk_Disk_Arm_ok {S : Nat → Addr} (ok : CfgOk P CC S) : ∀ n, SpecOk P CC S 8 ⟨disk_Disk_Arm_ins, disk_Disk_Arm_outs, disk_Disk_Arm n⟩ :=
  fn_all ok (O := disk_Disk_Arm_O) (H := disk_Disk_Arm_H) (fn := Tryz.f8) (body := b8) (by kernel_rfl) (by kernel_rfl) (by kernel_rfl) (by decide) (by kernel_rfl)
    (fun x => by kernel_rfl) (fun n => by
      rintro ⟨⟨⟨⟩, x1, ⟨⟩⟩, ⟨⟨x2, ⟨⟩, ⟨⟩, x3, x4, x5, ⟨⟩⟩, x6, x7, ⟨⟩⟩⟩
      kernel_rfl)
    (fun n => obl_of (by kernel_rfl) (by kernel_rfl) (lz) (cz) (hn fun _ => rfl))
    (fun n ih => asc_nil)
/-! ### maps.Keys[map[int][]byte,int,[]byte] -/
abbrev maps_Keys_map_int_byte_int_byte_ins : Sh := ⟨[(.one (.map 0))], [(.map (.int .i64) ty2 false)]⟩
abbrev maps_Keys_map_int_byte_int_byte_outs : List Sh := [⟨[(.one (.fn 53 [1]))], [(.map (.int .i64) ty2 false), (.obj 59 [(.map 0)])]⟩]
def maps_Keys_map_int_byte_int_byte : Nat → maps_Keys_map_int_byte_int_byte_ins.T → Option (OutsT maps_Keys_map_int_byte_int_byte_outs)
  | 0, _ => none
  | n + 1, ((_, _), (m1, _)) =>
    some (((), ()), (m1, ((), ()), ()))
def maps_Keys_map_int_byte_int_byte_H (n : Nat) : Hints := ⟨[], fun _ => [], fun _ => none, fun _ => none, fun _ => none, fun _ => 0⟩
def maps_Keys_map_int_byte_int_byte_O (n : Nat) : FuncId → List FSpec := asc []
def b35 : Code := bodyOf Tryz.f35
theorem maps_Keys_map_int_byte_int_byte_ok {S : Nat → Addr} (ok : CfgOk P CC S) : ∀ n, SpecOk P CC S 35 ⟨maps_Keys_map_int_byte_int_byte_ins, maps_Keys_map_int_byte_int_byte_outs, maps_Keys_map_int_byte_int_byte n⟩ :=
  fn_all ok (O := maps_Keys_map_int_byte_int_byte_O) (H := maps_Keys_map_int_byte_int_byte_H) (fn := Tryz.f35) (body := b35) (by kernel_rfl) (by kernel_rfl) (by kernel_rfl) (by decide) (by kernel_rfl)
    (fun x => by kernel_rfl) (fun n => by
      rintro ⟨⟨⟨⟩, ⟨⟩⟩, ⟨x1, ⟨⟩⟩⟩
      kernel_rfl)
    (fun n => obl_of (by kernel_rfl) (by kernel_rfl) (lz) (cn (cn (cz) (by kernel_rfl)) (by kernel_rfl)) (hn fun _ => rfl))
    (fun n ih => asc_nil)
/-! ### slices.Sorted[int] (by hand) -/
abbrev slices_Sorted_53_ins : Sh := ⟨[(.one (.fn 53 [0]))], [(.obj 59 [(.map 1)]), (.map (.int .i64) ty2 false)]⟩
abbrev slices_Sorted_53_outs : List Sh := [⟨[(.one (.arr 2))], [(.obj 59 [(.map 1)]), (.map (.int .i64) ty2 false), (.arr 3 (.int .i64))]⟩]
def slices_Sorted_53 : Nat → slices_Sorted_53_ins.T → Option (OutsT slices_Sorted_53_outs) := fun _ => sortedSem 59 3 ty2 false 53
theorem slices_Sorted_53_ok {S : Nat → Addr} (ok : CfgOk P CC S) : ∀ n, SpecOk P CC S 34 ⟨slices_Sorted_53_ins, slices_Sorted_53_outs, slices_Sorted_53 n⟩ := fun n => sorted_spec (ty := 3) ⟨Tryz.f34, by kernel_rfl, by kernel_rfl, by kernel_rfl⟩ (by kernel_rfl) Sq.sorted_calls_53
/-! ### (*pendulum/disk.Disk).Crash -/
abbrev disk_Disk_Crash_ins : Sh := ⟨[(.one (.ptr 0 0)), (.one (.val ty5))], [(.obj 61 [(.val (.int .i64)), (.map 1), (.map 2), (.val (.int .i64)), (.val (.int .i64)), (.val .bool)]), (.map (.int .i64) ty2 false), (.map (.int .i64) ty2 false)]⟩
abbrev disk_Disk_Crash_outs : List Sh := [⟨[(.tup [])], [(.obj 61 [(.val (.int .i64)), (.map 1), (.map 2), (.val (.int .i64)), (.val (.int .i64)), (.val .bool)]), (.map (.int .i64) ty2 false), (.map (.int .i64) ty2 false)]⟩]
abbrev disk_Disk_Crash_l1_h : Sh := ⟨[(.one (.ptr 0 0)), (.one (.val ty5)), (.one (.arr 3)), (.one (.val (.int .i64))), (.one (.val (.int .i64)))], [(.obj 61 [(.val (.int .i64)), (.map 1), (.map 2), (.val (.int .i64)), (.val (.int .i64)), (.val .bool)]), (.map (.int .i64) ty2 false), (.map (.int .i64) ty2 false), (.arr 3 (.int .i64))]⟩
abbrev disk_Disk_Crash_l1_o : List Out := [⟨(.exit 0), [0], ⟨[(.one (.ptr 0 0))], [(.obj 61 [(.val (.int .i64)), (.map 1), (.map 2), (.val (.int .i64)), (.val (.int .i64)), (.val .bool)]), (.map (.int .i64) ty2 false), (.map (.int .i64) ty2 false)]⟩⟩]
def disk_Disk_Crash_l1 (n : Nat) : Nat → disk_Disk_Crash_l1_h.T → Option (OutT disk_Disk_Crash_l1_o)
  | 0, _ => none
  | k + 1, ((_, x1, _, x2, x3, _), ((x4, _, _, x5, x6, x7, _), m8, m9, l10, _)) =>
    if decide (x3 < x2) then
      if 0 ≤ x3 ∧ x3 < (l10.length : Int) then (
        let v11 : Int := rdT ((.int .i64) : Ty) l10 x3
        if decide (x3 < (x1.length : Int)) then
          if 0 ≤ x3 ∧ x3 < (x1.length : Int) then (
            let v12 : Int := rdT ((.int .i64) : Ty) x1 x3
            if bitsOp .and .i64 v12 1 == 1 then
              let v13 : List Int := (mfind (keyEq ((.int .i64) : Ty)) v11 m9).getD []
              let v14 : Int := IntKind.i64.wrap (x3 + 1)
              disk_Disk_Crash_l1 n k (((), x1, (), x2, v14, ()), ((x4, (), (), x5, x6, x7, ()), mset (keyEq ((.int .i64) : Ty)) v11 v13 m8, m9, l10, ()))
            else
              let v15 : Int := IntKind.i64.wrap (x3 + 1)
              disk_Disk_Crash_l1 n k (((), x1, (), x2, v15, ()), ((x4, (), (), x5, x6, x7, ()), m8, m9, l10, ()))) else none
        else
          let v16 : Int := IntKind.i64.wrap (x3 + 1)
          disk_Disk_Crash_l1 n k (((), x1, (), x2, v16, ()), ((x4, (), (), x5, x6, x7, ()), m8, m9, l10, ()))) else none
    else
      some (.inl (((), ()), ((x4, (), (), x5, x6, x7, ()), m8, m9, ())))
def disk_Disk_Crash : Nat → disk_Disk_Crash_ins.T → Option (OutsT disk_Disk_Crash_outs)
  | 0, _ => none
  | n + 1, ((_, x1, _), ((x2, _, _, x3, x4, x5, _), m6, m7, _)) =>
    match maps_Keys_map_int_byte_int_byte n (((), ()), (m7, ())) with
    | some ((_, _), (m8, (_, _), _)) => (
      match slices_Sorted_53 n (((), ()), (((), ()), m8, ())) with
      | some ((_, _), ((_, _), m9, l10, _)) => (
        match disk_Disk_Crash_l1 n n (((), x1, (), (l10.length : Int), 0, ()), ((x2, (), (), x3, x4, x5, ()), m6, m9, l10, ())) with
        | some (.inl ((_, _), ((x11, _, _, x12, x13, x14, _), m15, m16, _))) => (
          some (((), ()), ((x11, (), (), x12, 0, false, ()), m15, [], ())))
        | some (.inr (_)) => none
        | none => none)
      | none => none)
    | none => none
def disk_Disk_Crash_H (n : Nat) : Hints := ⟨[], fun _ => [], fun k => match k with | 1 => some ⟨[0, 1, 11, 12, 13], disk_Disk_Crash_l1_h, disk_Disk_Crash_l1_o, disk_Disk_Crash_l1 n⟩ | _ => none, fun _ => none, fun _ => none, fun _ => 0⟩
def disk_Disk_Crash_O (n : Nat) : FuncId → List FSpec := asc [(34, ⟨slices_Sorted_53_ins, slices_Sorted_53_outs, slices_Sorted_53 n⟩), (35, ⟨maps_Keys_map_int_byte_int_byte_ins, maps_Keys_map_int_byte_int_byte_outs, maps_Keys_map_int_byte_int_byte n⟩)]
def b16 : Code := bodyOf Tryz.f16
theorem disk_Disk_Crash_l1_k0 (n : Nat) : LoopOk P CC (disk_Disk_Crash_O n) n 3 52 (disk_Disk_Crash_H n) ⟨[0, 1, 11, 12, 13], disk_Disk_Crash_l1_h, disk_Disk_Crash_l1_o, disk_Disk_Crash_l1 n⟩ ((loopsOf b16).getD 0 .skip) := by
  refine ⟨fun _ => by kernel_rfl, ?_⟩
  rintro k ⟨⟨⟨⟩, x1, ⟨⟩, x2, x3, ⟨⟩⟩, ⟨⟨x4, ⟨⟩, ⟨⟩, x5, x6, x7, ⟨⟩⟩, x8, x9, x10, ⟨⟩⟩⟩
  kernel_rfl
theorem disk_Disk_Crash_ok {S : Nat → Addr} (ok : CfgOk P CC S) : ∀ n, SpecOk P CC S 16 ⟨disk_Disk_Crash_ins, disk_Disk_Crash_outs, disk_Disk_Crash n⟩ :=
  fn_all ok (O := disk_Disk_Crash_O) (H := disk_Disk_Crash_H) (fn := Tryz.f16) (body := b16) (by kernel_rfl) (by kernel_rfl) (by kernel_rfl) (by decide) (by kernel_rfl)
    (fun x => by kernel_rfl) (fun n => by
      rintro ⟨⟨⟨⟩, x1, ⟨⟩⟩, ⟨⟨x2, ⟨⟩, ⟨⟩, x3, x4, x5, ⟨⟩⟩, x6, x7, ⟨⟩⟩⟩
      kernel_rfl)
    (fun n => obl_of (by kernel_rfl) (by kernel_rfl) (ls (lz) (by kernel_rfl) (disk_Disk_Crash_l1_k0 n)) (cn (cn (cn (cn (cn (cn (cn (cn (cz) (by kernel_rfl)) (by kernel_rfl)) (by kernel_rfl)) (by kernel_rfl)) (by kernel_rfl)) (by kernel_rfl)) (by kernel_rfl)) (by kernel_rfl)) (hn fun _ => rfl))
    (fun n ih => asc_cons (slices_Sorted_53_ok ok n) <| asc_cons (maps_Keys_map_int_byte_int_byte_ok ok n) <| asc_nil)
/-! ### pendulum/pendulumlaw4.JourWhole -/
abbrev law4_JourWhole_ins : Sh := ⟨[(.one (.val (.int .i64))), (.one (.val (.int .i64))), (.one (.val ty5)), (.one (.val (.int .i64)))], []⟩
abbrev law4_JourWhole_outs : List Sh := [⟨[(.one (.val .bool))], []⟩]
abbrev law4_JourWhole_c23_h : Sh := ⟨[(.one (.val (.int .i64))), (.one (.val (.int .i64))), (.one (.val ty5)), (.one (.val (.int .i64))), (.one (.val .bool)), (.one (.ptr 0 0)), (.one (.arr 1)), (.one (.val .bool)), (.one (.ptr 2 0)), (.one (.val (.int .i64)))], [(.obj 61 [(.val (.int .i64)), (.map 3), (.map 4), (.val (.int .i64)), (.val (.int .i64)), (.val .bool)]), (.arr 55 ty0), (.obj 68 [(.ptr 0 0), (.map 5), (.val (.int .i64)), (.val (.int .i64)), (.val (.int .i64))]), (.map (.int .i64) ty2 false), (.map (.int .i64) ty2 false), (.map .str .str false)]⟩
abbrev law4_JourWhole_c23_o : List Out := [⟨.normal, [0, 1, 2, 3, 9, 11, 13, 16, 18], ⟨[(.one (.val (.int .i64))), (.one (.val (.int .i64))), (.one (.val ty5)), (.one (.val (.int .i64))), (.one (.val .bool)), (.one (.ptr 0 0)), (.one (.arr 1)), (.one (.ptr 2 0)), (.one (.val (.int .i64)))], [(.obj 61 [(.val (.int .i64)), (.map 3), (.map 4), (.val (.int .i64)), (.val (.int .i64)), (.val .bool)]), (.arr 55 ty0), (.obj 68 [(.ptr 0 0), (.map 5), (.val (.int .i64)), (.val (.int .i64)), (.val (.int .i64))]), (.map (.int .i64) ty2 false), (.map (.int .i64) ty2 false), (.map .str .str false)]⟩⟩, ⟨.ret, [8], ⟨[(.one (.val .bool))], []⟩⟩]
def law4_JourWhole_c23 (n : Nat) : law4_JourWhole_c23_h.T → Option (OutT law4_JourWhole_c23_o)
  | ((x1, x2, x3, x4, x5, _, _, x6, _, x7, _), ((x8, _, _, x9, x10, x11, _), l12, (_, _, x13, x14, x15, _), m16, m17, m18, _)) =>
    if x7 != x1 then
      if !x6 then
        some (.inr (.inl ((false, ()), ())))
      else
        if x7 != 0 then
          some (.inr (.inl ((false, ()), ())))
        else
          some (.inl ((x1, x2, x3, x4, x5, (), (), (), x7, ()), ((x8, (), (), x9, x10, x11, ()), l12, ((), (), x13, x14, x15, ()), m16, m17, m18, ())))
    else
      some (.inl ((x1, x2, x3, x4, x5, (), (), (), x7, ()), ((x8, (), (), x9, x10, x11, ()), l12, ((), (), x13, x14, x15, ()), m16, m17, m18, ())))
abbrev law4_JourWhole_c35_h : Sh := ⟨[(.one (.val (.int .i64))), (.one (.val .bool)), (.one (.ptr 0 0)), (.one (.arr 1))], [(.obj 68 [(.ptr 2 0), (.map 3), (.val (.int .i64)), (.val (.int .i64)), (.val (.int .i64))]), (.arr 9 .str), (.obj 61 [(.val (.int .i64)), (.map 4), (.map 5), (.val (.int .i64)), (.val (.int .i64)), (.val .bool)]), (.map .str .str false), (.map (.int .i64) ty2 false), (.map (.int .i64) ty2 false)]⟩
abbrev law4_JourWhole_c35_o : List Out := [⟨.normal, [19, 21], ⟨[(.one (.ptr 0 0)), (.one (.arr 1))], [(.obj 68 [(.ptr 2 0), (.map 3), (.val (.int .i64)), (.val (.int .i64)), (.val (.int .i64))]), (.arr 9 .str), (.obj 61 [(.val (.int .i64)), (.map 4), (.map 5), (.val (.int .i64)), (.val (.int .i64)), (.val .bool)]), (.map .str .str false), (.map (.int .i64) ty2 false), (.map (.int .i64) ty2 false)]⟩⟩, ⟨.ret, [8], ⟨[(.one (.val .bool))], []⟩⟩]
def law4_JourWhole_c35 (n : Nat) : law4_JourWhole_c35_h.T → Option (OutT law4_JourWhole_c35_o)
  | ((x1, x2, _, _, _), ((_, _, x3, x4, x5, _), l6, (x7, _, _, x8, x9, x10, _), m11, m12, m13, _)) =>
    if (l6.length : Int) != x1 then
      if !x2 then
        some (.inr (.inl ((false, ()), ())))
      else
        if (l6.length : Int) != 0 then
          some (.inr (.inl ((false, ()), ())))
        else
          some (.inl (((), (), ()), (((), (), x3, x4, x5, ()), l6, (x7, (), (), x8, x9, x10, ()), m11, m12, m13, ())))
    else
      some (.inl (((), (), ()), (((), (), x3, x4, x5, ()), l6, (x7, (), (), x8, x9, x10, ()), m11, m12, m13, ())))
abbrev law4_JourWhole_l36_h : Sh := ⟨[(.one (.ptr 0 0)), (.one (.arr 1)), (.one (.val (.int .i64)))], [(.obj 68 [(.ptr 2 0), (.map 3), (.val (.int .i64)), (.val (.int .i64)), (.val (.int .i64))]), (.arr 9 .str), (.obj 61 [(.val (.int .i64)), (.map 4), (.map 5), (.val (.int .i64)), (.val (.int .i64)), (.val .bool)]), (.map .str .str false), (.map (.int .i64) ty2 false), (.map (.int .i64) ty2 false)]⟩
abbrev law4_JourWhole_l36_o : List Out := [⟨(.exit 0), [], ⟨[], []⟩⟩, ⟨.ret, [8], ⟨[(.one (.val .bool))], []⟩⟩]
def law4_JourWhole_l36 (n : Nat) : Nat → law4_JourWhole_l36_h.T → Option (OutT law4_JourWhole_l36_o)
  | 0, _ => none
  | k + 1, ((_, _, x1, _), ((_, _, x2, x3, x4, _), l5, (x6, _, _, x7, x8, x9, _), m10, m11, m12, _)) =>
    if decide (x1 < (l5.length : Int)) then
      if 0 ≤ x1 ∧ x1 < (l5.length : Int) then (
        match jour_Store_Get n (((), rdT (.str : Ty) l5 x1, ()), (((), (), x2, x3, x4, ()), (x6, (), (), x7, x8, x9, ()), m10, m11, m12, ())) with
        | some ((((x13, _), (x14, _), _), _), ((_, _, x15, x16, x17, _), (x18, _, _, x19, x20, x21, _), m22, m23, m24, _)) => (
          if decide ((x13.size : Int) < 1) then
            some (.inr (.inl ((false, ()), ())))
          else
            if 0 ≤ (1 : Int) ∧ (1 : Int) ≤ (x13.size : Int) then (
              let v25 : ByteArray := x13.extract (0 : Int).toNat (1 : Int).toNat
              if !strEq v25 (⟨#[121]⟩ : ByteArray) then
                some (.inr (.inl ((false, ()), ())))
              else
                let v26 : Int := IntKind.i64.wrap (x1 + 1)
                law4_JourWhole_l36 n k (((), (), v26, ()), (((), (), x15, x16, x17, ()), l5, (x18, (), (), x19, x20, x21, ()), m22, m23, m24, ()))) else none)
        | none => none) else none
    else
      some (.inl ((), ()))
def law4_JourWhole : Nat → law4_JourWhole_ins.T → Option (OutsT law4_JourWhole_outs)
  | 0, _ => none
  | n + 1, ((x1, x2, x3, x4, _), _) =>
    match law4_first n ((), ()) with
    | some ((x5, _), _) => (
      if !x5 then
        some ((false, ()), ())
      else
        match world_Number n ((x1, 20, ()), ()) with
        | some ((x6, _), _) => (
          let v7 : Int := IntKind.i64.wrap (x6 + 1)
          match world_Number n ((x4, 20, ()), ()) with
          | some ((x8, _), _) => (
            let v9 : Int := IntKind.i64.wrap (x8 + 1)
            if decide ((x3.length : Int) > 60) then
              some ((x5, ()), ())
            else
              if !x5 then
                some ((x5, ()), ())
              else
                match law4_opened n ((2000, ()), ()) with
                | some (.inl ((((_, _), (_, _), _), _), ((_, _, x10, x11, x12, _), (x13, _, _, x14, x15, x16, _), m17, m18, m19, _))) => (
                  match law4_changes n ((v7, (⟨#[120]⟩ : ByteArray), ()), ()) with
                  | some ((_, _), (l26, _)) => (
                    match law4_changes n ((v9, (⟨#[121]⟩ : ByteArray), ()), ()) with
                    | some ((_, _), (l27, _)) => (
                      match world_Number n ((x2, 40, ()), ()) with
                      | some ((x28, _), _) => (
                        let v29 : Int := IntKind.i64.wrap (x28 + 1)
                        match disk_Disk_Arm n (((), v29, ()), ((x13, (), (), x14, x15, x16, ()), m18, m19, ())) with
                        | some ((_, _), ((x30, _, _, x31, x32, x33, _), m34, m35, _)) => (
                          match jour_Store_Commit n (((), l26, ()), (((), (), x10, x11, x12, ()), (x30, (), (), x31, x32, x33, ()), m17, m34, m35, ())) with
                          | some (.inl ((x36, _), ((_, _, x37, x38, x39, _), (x40, _, _, x41, x42, x43, _), m44, m45, m46, _))) => (
                            match disk_Disk_Down n (((), ()), ((x40, (), (), x41, x42, x43, ()), m45, m46, ())) with
                            | some ((x59, _), ((x60, _, _, x61, x62, x63, _), m64, m65, _)) => (
                              match disk_Disk_Crash n (((), x3, ()), ((x60, (), (), x61, x62, x63, ()), m64, m65, ())) with
                              | some ((_, _), ((x66, _, _, x67, x68, x69, _), m70, m71, _)) => (
                                match jour_Open n (((), ()), ((x66, (), (), x67, x68, x69, ()), m70, m71, ())) with
                                | some (.inl ((((_, _), (x72, _), _), _), ((x73, _, _, x74, x75, x76, _), m77, m78, (_, _, x79, x80, x81, _), m82, _))) => (
                                  if !(errNil x72) then
                                    some ((false, ()), ())
                                  else
                                    if !((!(errNil x36)) == x59) then
                                      some ((false, ()), ())
                                    else
                                      match jour_Store_Keys n (((), ()), (((), (), x79, x80, x81, ()), (x73, (), (), x74, x75, x76, ()), m82, m77, m78, ())) with
                                      | some ((_, _), ((_, _, x90, x91, x92, _), (x93, _, _, x94, x95, x96, _), m97, m98, m99, l100, _)) => (
                                        match law4_JourWhole_c23 n ((v7, x2, x3, v9, x5, (), (), x59, (), (l100.length : Int), ()), ((x93, (), (), x94, x95, x96, ()), l27, ((), (), x90, x91, x92, ()), m98, m99, m97, ())) with
                                        | some (.inl ((x101, x102, x103, x104, x105, _, _, _, x106, _), ((x107, _, _, x108, x109, x110, _), l111, (_, _, x112, x113, x114, _), m115, m116, m117, _))) => (
                                          if x106 == x101 then
                                            some ((x105, ()), ())
                                          else
                                            let v119 : Int := IntKind.i64.wrap (Int.tdiv x102 40)
                                            match world_Number n ((v119, 40, ()), ()) with
                                            | some ((x120, _), _) => (
                                              let v121 : Int := IntKind.i64.wrap (x120 + 1)
                                              match disk_Disk_Arm n (((), v121, ()), ((x107, (), (), x108, x109, x110, ()), m115, m116, ())) with
                                              | some ((_, _), ((x122, _, _, x123, x124, x125, _), m126, m127, _)) => (
                                                match jour_Store_Commit n (((), l111, ()), (((), (), x112, x113, x114, ()), (x122, (), (), x123, x124, x125, ()), m117, m126, m127, ())) with
                                                | some (.inl ((x128, _), ((_, _, x129, x130, x131, _), (x132, _, _, x133, x134, x135, _), m136, m137, m138, _))) => (
                                                  match disk_Disk_Down n (((), ()), ((x132, (), (), x133, x134, x135, ()), m137, m138, ())) with
                                                  | some ((x151, _), ((x152, _, _, x153, x154, x155, _), m156, m157, _)) => (
                                                    match disk_Disk_Crash n (((), x103, ()), ((x152, (), (), x153, x154, x155, ()), m156, m157, ())) with
                                                    | some ((_, _), ((x158, _, _, x159, x160, x161, _), m162, m163, _)) => (
                                                      match jour_Open n (((), ()), ((x158, (), (), x159, x160, x161, ()), m162, m163, ())) with
                                                      | some (.inl ((((_, _), (x164, _), _), _), ((x165, _, _, x166, x167, x168, _), m169, m170, (_, _, x171, x172, x173, _), m174, _))) => (
                                                        if !(errNil x164) then
                                                          some ((false, ()), ())
                                                        else
                                                          if !((!(errNil x128)) == x151) then
                                                            some ((false, ()), ())
                                                          else
                                                            match jour_Store_Keys n (((), ()), (((), (), x171, x172, x173, ()), (x165, (), (), x166, x167, x168, ()), m174, m169, m170, ())) with
                                                            | some ((_, _), ((_, _, x182, x183, x184, _), (x185, _, _, x186, x187, x188, _), m189, m190, m191, l192, _)) => (
                                                              match law4_JourWhole_c35 n ((x104, x151, (), (), ()), (((), (), x182, x183, x184, ()), l192, (x185, (), (), x186, x187, x188, ()), m189, m190, m191, ())) with
                                                              | some (.inl ((_, _, _), ((_, _, x193, x194, x195, _), l196, (x197, _, _, x198, x199, x200, _), m201, m202, m203, _))) => (
                                                                match law4_JourWhole_l36 n n (((), (), 0, ()), (((), (), x193, x194, x195, ()), l196, (x197, (), (), x198, x199, x200, ()), m201, m202, m203, ())) with
                                                                | some (.inl (_, _)) => (
                                                                  some ((true, ()), ()))
                                                                | some (.inr (.inl ((x205, _), _))) => (
                                                                  some ((x205, ()), ()))
                                                                | some (.inr (.inr (_))) => none
                                                                | none => none)
                                                              | some (.inr (.inl ((x204, _), _))) => (
                                                                some ((x204, ()), ()))
                                                              | some (.inr (.inr (_))) => none
                                                              | none => none)
                                                            | none => none)
                                                      | some (.inr (((((_, _), (x175, _), _), _), ((x176, _, _, x177, x178, x179, _), m180, m181, _)))) => (
                                                        some ((false, ()), ()))
                                                      | none => none)
                                                    | none => none)
                                                  | none => none)
                                                | some (.inr (((x139, _), ((_, _, x140, x141, x142, _), (x143, _, _, x144, x145, x146, _), m147, m148, m149, m150, _)))) => (
                                                  match disk_Disk_Down n (((), ()), ((x143, (), (), x144, x145, x146, ()), m148, m149, ())) with
                                                  | some ((x206, _), ((x207, _, _, x208, x209, x210, _), m211, m212, _)) => (
                                                    match disk_Disk_Crash n (((), x103, ()), ((x207, (), (), x208, x209, x210, ()), m211, m212, ())) with
                                                    | some ((_, _), ((x213, _, _, x214, x215, x216, _), m217, m218, _)) => (
                                                      match jour_Open n (((), ()), ((x213, (), (), x214, x215, x216, ()), m217, m218, ())) with
                                                      | some (.inl ((((_, _), (x219, _), _), _), ((x220, _, _, x221, x222, x223, _), m224, m225, (_, _, x226, x227, x228, _), m229, _))) => (
                                                        if !(errNil x219) then
                                                          some ((false, ()), ())
                                                        else
                                                          if !((!(errNil x139)) == x206) then
                                                            some ((false, ()), ())
                                                          else
                                                            match jour_Store_Keys n (((), ()), (((), (), x226, x227, x228, ()), (x220, (), (), x221, x222, x223, ()), m229, m224, m225, ())) with
                                                            | some ((_, _), ((_, _, x237, x238, x239, _), (x240, _, _, x241, x242, x243, _), m244, m245, m246, l247, _)) => (
                                                              match law4_JourWhole_c35 n ((x104, x206, (), (), ()), (((), (), x237, x238, x239, ()), l247, (x240, (), (), x241, x242, x243, ()), m244, m245, m246, ())) with
                                                              | some (.inl ((_, _, _), ((_, _, x248, x249, x250, _), l251, (x252, _, _, x253, x254, x255, _), m256, m257, m258, _))) => (
                                                                match law4_JourWhole_l36 n n (((), (), 0, ()), (((), (), x248, x249, x250, ()), l251, (x252, (), (), x253, x254, x255, ()), m256, m257, m258, ())) with
                                                                | some (.inl (_, _)) => (
                                                                  some ((true, ()), ()))
                                                                | some (.inr (.inl ((x260, _), _))) => (
                                                                  some ((x260, ()), ()))
                                                                | some (.inr (.inr (_))) => none
                                                                | none => none)
                                                              | some (.inr (.inl ((x259, _), _))) => (
                                                                some ((x259, ()), ()))
                                                              | some (.inr (.inr (_))) => none
                                                              | none => none)
                                                            | none => none)
                                                      | some (.inr (((((_, _), (x230, _), _), _), ((x231, _, _, x232, x233, x234, _), m235, m236, _)))) => (
                                                        some ((false, ()), ()))
                                                      | none => none)
                                                    | none => none)
                                                  | none => none)
                                                | none => none)
                                              | none => none)
                                            | none => none)
                                        | some (.inr (.inl ((x118, _), _))) => (
                                          some ((x118, ()), ()))
                                        | some (.inr (.inr (_))) => none
                                        | none => none)
                                      | none => none)
                                | some (.inr (((((_, _), (x83, _), _), _), ((x84, _, _, x85, x86, x87, _), m88, m89, _)))) => (
                                  some ((false, ()), ()))
                                | none => none)
                              | none => none)
                            | none => none)
                          | some (.inr (((x47, _), ((_, _, x48, x49, x50, _), (x51, _, _, x52, x53, x54, _), m55, m56, m57, m58, _)))) => (
                            match disk_Disk_Down n (((), ()), ((x51, (), (), x52, x53, x54, ()), m56, m57, ())) with
                            | some ((x261, _), ((x262, _, _, x263, x264, x265, _), m266, m267, _)) => (
                              match disk_Disk_Crash n (((), x3, ()), ((x262, (), (), x263, x264, x265, ()), m266, m267, ())) with
                              | some ((_, _), ((x268, _, _, x269, x270, x271, _), m272, m273, _)) => (
                                match jour_Open n (((), ()), ((x268, (), (), x269, x270, x271, ()), m272, m273, ())) with
                                | some (.inl ((((_, _), (x274, _), _), _), ((x275, _, _, x276, x277, x278, _), m279, m280, (_, _, x281, x282, x283, _), m284, _))) => (
                                  if !(errNil x274) then
                                    some ((false, ()), ())
                                  else
                                    if !((!(errNil x47)) == x261) then
                                      some ((false, ()), ())
                                    else
                                      match jour_Store_Keys n (((), ()), (((), (), x281, x282, x283, ()), (x275, (), (), x276, x277, x278, ()), m284, m279, m280, ())) with
                                      | some ((_, _), ((_, _, x292, x293, x294, _), (x295, _, _, x296, x297, x298, _), m299, m300, m301, l302, _)) => (
                                        match law4_JourWhole_c23 n ((v7, x2, x3, v9, x5, (), (), x261, (), (l302.length : Int), ()), ((x295, (), (), x296, x297, x298, ()), l27, ((), (), x292, x293, x294, ()), m300, m301, m299, ())) with
                                        | some (.inl ((x303, x304, x305, x306, x307, _, _, _, x308, _), ((x309, _, _, x310, x311, x312, _), l313, (_, _, x314, x315, x316, _), m317, m318, m319, _))) => (
                                          if x308 == x303 then
                                            some ((x307, ()), ())
                                          else
                                            let v321 : Int := IntKind.i64.wrap (Int.tdiv x304 40)
                                            match world_Number n ((v321, 40, ()), ()) with
                                            | some ((x322, _), _) => (
                                              let v323 : Int := IntKind.i64.wrap (x322 + 1)
                                              match disk_Disk_Arm n (((), v323, ()), ((x309, (), (), x310, x311, x312, ()), m317, m318, ())) with
                                              | some ((_, _), ((x324, _, _, x325, x326, x327, _), m328, m329, _)) => (
                                                match jour_Store_Commit n (((), l313, ()), (((), (), x314, x315, x316, ()), (x324, (), (), x325, x326, x327, ()), m319, m328, m329, ())) with
                                                | some (.inl ((x330, _), ((_, _, x331, x332, x333, _), (x334, _, _, x335, x336, x337, _), m338, m339, m340, _))) => (
                                                  match disk_Disk_Down n (((), ()), ((x334, (), (), x335, x336, x337, ()), m339, m340, ())) with
                                                  | some ((x353, _), ((x354, _, _, x355, x356, x357, _), m358, m359, _)) => (
                                                    match disk_Disk_Crash n (((), x305, ()), ((x354, (), (), x355, x356, x357, ()), m358, m359, ())) with
                                                    | some ((_, _), ((x360, _, _, x361, x362, x363, _), m364, m365, _)) => (
                                                      match jour_Open n (((), ()), ((x360, (), (), x361, x362, x363, ()), m364, m365, ())) with
                                                      | some (.inl ((((_, _), (x366, _), _), _), ((x367, _, _, x368, x369, x370, _), m371, m372, (_, _, x373, x374, x375, _), m376, _))) => (
                                                        if !(errNil x366) then
                                                          some ((false, ()), ())
                                                        else
                                                          if !((!(errNil x330)) == x353) then
                                                            some ((false, ()), ())
                                                          else
                                                            match jour_Store_Keys n (((), ()), (((), (), x373, x374, x375, ()), (x367, (), (), x368, x369, x370, ()), m376, m371, m372, ())) with
                                                            | some ((_, _), ((_, _, x384, x385, x386, _), (x387, _, _, x388, x389, x390, _), m391, m392, m393, l394, _)) => (
                                                              match law4_JourWhole_c35 n ((x306, x353, (), (), ()), (((), (), x384, x385, x386, ()), l394, (x387, (), (), x388, x389, x390, ()), m391, m392, m393, ())) with
                                                              | some (.inl ((_, _, _), ((_, _, x395, x396, x397, _), l398, (x399, _, _, x400, x401, x402, _), m403, m404, m405, _))) => (
                                                                match law4_JourWhole_l36 n n (((), (), 0, ()), (((), (), x395, x396, x397, ()), l398, (x399, (), (), x400, x401, x402, ()), m403, m404, m405, ())) with
                                                                | some (.inl (_, _)) => (
                                                                  some ((true, ()), ()))
                                                                | some (.inr (.inl ((x407, _), _))) => (
                                                                  some ((x407, ()), ()))
                                                                | some (.inr (.inr (_))) => none
                                                                | none => none)
                                                              | some (.inr (.inl ((x406, _), _))) => (
                                                                some ((x406, ()), ()))
                                                              | some (.inr (.inr (_))) => none
                                                              | none => none)
                                                            | none => none)
                                                      | some (.inr (((((_, _), (x377, _), _), _), ((x378, _, _, x379, x380, x381, _), m382, m383, _)))) => (
                                                        some ((false, ()), ()))
                                                      | none => none)
                                                    | none => none)
                                                  | none => none)
                                                | some (.inr (((x341, _), ((_, _, x342, x343, x344, _), (x345, _, _, x346, x347, x348, _), m349, m350, m351, m352, _)))) => (
                                                  match disk_Disk_Down n (((), ()), ((x345, (), (), x346, x347, x348, ()), m350, m351, ())) with
                                                  | some ((x408, _), ((x409, _, _, x410, x411, x412, _), m413, m414, _)) => (
                                                    match disk_Disk_Crash n (((), x305, ()), ((x409, (), (), x410, x411, x412, ()), m413, m414, ())) with
                                                    | some ((_, _), ((x415, _, _, x416, x417, x418, _), m419, m420, _)) => (
                                                      match jour_Open n (((), ()), ((x415, (), (), x416, x417, x418, ()), m419, m420, ())) with
                                                      | some (.inl ((((_, _), (x421, _), _), _), ((x422, _, _, x423, x424, x425, _), m426, m427, (_, _, x428, x429, x430, _), m431, _))) => (
                                                        if !(errNil x421) then
                                                          some ((false, ()), ())
                                                        else
                                                          if !((!(errNil x341)) == x408) then
                                                            some ((false, ()), ())
                                                          else
                                                            match jour_Store_Keys n (((), ()), (((), (), x428, x429, x430, ()), (x422, (), (), x423, x424, x425, ()), m431, m426, m427, ())) with
                                                            | some ((_, _), ((_, _, x439, x440, x441, _), (x442, _, _, x443, x444, x445, _), m446, m447, m448, l449, _)) => (
                                                              match law4_JourWhole_c35 n ((x306, x408, (), (), ()), (((), (), x439, x440, x441, ()), l449, (x442, (), (), x443, x444, x445, ()), m446, m447, m448, ())) with
                                                              | some (.inl ((_, _, _), ((_, _, x450, x451, x452, _), l453, (x454, _, _, x455, x456, x457, _), m458, m459, m460, _))) => (
                                                                match law4_JourWhole_l36 n n (((), (), 0, ()), (((), (), x450, x451, x452, ()), l453, (x454, (), (), x455, x456, x457, ()), m458, m459, m460, ())) with
                                                                | some (.inl (_, _)) => (
                                                                  some ((true, ()), ()))
                                                                | some (.inr (.inl ((x462, _), _))) => (
                                                                  some ((x462, ()), ()))
                                                                | some (.inr (.inr (_))) => none
                                                                | none => none)
                                                              | some (.inr (.inl ((x461, _), _))) => (
                                                                some ((x461, ()), ()))
                                                              | some (.inr (.inr (_))) => none
                                                              | none => none)
                                                            | none => none)
                                                      | some (.inr (((((_, _), (x432, _), _), _), ((x433, _, _, x434, x435, x436, _), m437, m438, _)))) => (
                                                        some ((false, ()), ()))
                                                      | none => none)
                                                    | none => none)
                                                  | none => none)
                                                | none => none)
                                              | none => none)
                                            | none => none)
                                        | some (.inr (.inl ((x320, _), _))) => (
                                          some ((x320, ()), ()))
                                        | some (.inr (.inr (_))) => none
                                        | none => none)
                                      | none => none)
                                | some (.inr (((((_, _), (x285, _), _), _), ((x286, _, _, x287, x288, x289, _), m290, m291, _)))) => (
                                  some ((false, ()), ()))
                                | none => none)
                              | none => none)
                            | none => none)
                          | none => none)
                        | none => none)
                      | none => none)
                    | none => none)
                  | none => none)
                | some (.inr (.inl ((((_, _), (_, _), _), _), ((x20, _, _, x21, x22, x23, _), m24, m25, _)))) => (
                  some ((false, ()), ()))
                | some (.inr (.inr (((((_, _), (_, _), _), _), _)))) => (
                  some ((false, ()), ()))
                | none => none)
          | none => none)
        | none => none)
    | none => none
def law4_JourWhole_H (n : Nat) : Hints := ⟨[], fun _ => [], fun k => match k with | 36 => some ⟨[19, 21, 22], law4_JourWhole_l36_h, law4_JourWhole_l36_o, law4_JourWhole_l36 n⟩ | _ => none, fun k => match k with | 23 => some ⟨[0, 1, 2, 3, 9, 11, 13, 15, 16, 18], law4_JourWhole_c23_h, law4_JourWhole_c23_o, fun n => law4_JourWhole_c23 n⟩ | 35 => some ⟨[3, 15, 19, 21], law4_JourWhole_c35_h, law4_JourWhole_c35_o, fun n => law4_JourWhole_c35 n⟩ | _ => none, fun _ => none, fun _ => 0⟩
def law4_JourWhole_O (n : Nat) : FuncId → List FSpec := asc [(5, ⟨law4_first_ins, law4_first_outs, law4_first n⟩), (7, ⟨law4_opened_ins, law4_opened_outs, law4_opened n⟩), (8, ⟨disk_Disk_Arm_ins, disk_Disk_Arm_outs, disk_Disk_Arm n⟩), (9, ⟨world_Number_ins, world_Number_outs, world_Number n⟩), (11, ⟨jour_Store_Commit_ins, jour_Store_Commit_outs, jour_Store_Commit n⟩), (12, ⟨disk_Disk_Down_ins, disk_Disk_Down_outs, disk_Disk_Down n⟩), (16, ⟨disk_Disk_Crash_ins, disk_Disk_Crash_outs, disk_Disk_Crash n⟩), (17, ⟨jour_Open_ins, jour_Open_outs, jour_Open n⟩), (18, ⟨law4_changes_ins, law4_changes_outs, law4_changes n⟩), (19, ⟨jour_Store_Keys_ins, jour_Store_Keys_outs, jour_Store_Keys n⟩), (20, ⟨jour_Store_Get_ins, jour_Store_Get_outs, jour_Store_Get n⟩)]
def b4 : Code := bodyOf Tryz.f4
theorem law4_JourWhole_l36_k0 (n : Nat) : LoopOk P CC (law4_JourWhole_O n) n 0 169 (law4_JourWhole_H n) ⟨[19, 21, 22], law4_JourWhole_l36_h, law4_JourWhole_l36_o, law4_JourWhole_l36 n⟩ ((loopsOf b4).getD 0 .skip) := by
  refine ⟨fun _ => by kernel_rfl, ?_⟩
  rintro k ⟨⟨⟨⟩, ⟨⟩, x1, ⟨⟩⟩, ⟨⟨⟨⟩, ⟨⟩, x2, x3, x4, ⟨⟩⟩, x5, ⟨x6, ⟨⟩, ⟨⟩, x7, x8, x9, ⟨⟩⟩, x10, x11, x12, ⟨⟩⟩⟩
  kernel_rfl
theorem law4_JourWhole_c23_k25 (n : Nat) : CutOk P CC (law4_JourWhole_O n) n 0 169 (law4_JourWhole_H n) ⟨[0, 1, 2, 3, 9, 11, 13, 15, 16, 18], law4_JourWhole_c23_h, law4_JourWhole_c23_o, fun n => law4_JourWhole_c23 n⟩ ((cutsOf b4).getD 25 (0, .skip)).2 := by
  rintro ⟨⟨x1, x2, x3, x4, x5, ⟨⟩, ⟨⟩, x6, ⟨⟩, x7, ⟨⟩⟩, ⟨⟨x8, ⟨⟩, ⟨⟩, x9, x10, x11, ⟨⟩⟩, x12, ⟨⟨⟩, ⟨⟩, x13, x14, x15, ⟨⟩⟩, x16, x17, x18, ⟨⟩⟩⟩
  kernel_rfl
theorem law4_JourWhole_c35_k40 (n : Nat) : CutOk P CC (law4_JourWhole_O n) n 0 169 (law4_JourWhole_H n) ⟨[3, 15, 19, 21], law4_JourWhole_c35_h, law4_JourWhole_c35_o, fun n => law4_JourWhole_c35 n⟩ ((cutsOf b4).getD 40 (0, .skip)).2 := by
  rintro ⟨⟨x1, x2, ⟨⟩, ⟨⟩, ⟨⟩⟩, ⟨⟨⟨⟩, ⟨⟩, x3, x4, x5, ⟨⟩⟩, x6, ⟨x7, ⟨⟩, ⟨⟩, x8, x9, x10, ⟨⟩⟩, x11, x12, x13, ⟨⟩⟩⟩
  kernel_rfl
theorem law4_JourWhole_ok {S : Nat → Addr} (ok : CfgOk P CC S) : ∀ n, SpecOk P CC S 4 ⟨law4_JourWhole_ins, law4_JourWhole_outs, law4_JourWhole n⟩ :=
  fn_all ok (O := law4_JourWhole_O) (H := law4_JourWhole_H) (fn := Tryz.f4) (body := b4) (by kernel_rfl) (by kernel_rfl) (by kernel_rfl) (by decide) (by kernel_rfl)
    (fun x => by kernel_rfl) (fun n => by
      rintro ⟨⟨x1, x2, x3, x4, ⟨⟩⟩, ⟨⟩⟩
      kernel_rfl)
    (fun n => obl_of (by kernel_rfl) (by kernel_rfl) (ls (lz) (by kernel_rfl) (law4_JourWhole_l36_k0 n)) (cn (cn (cn (cn (cn (cn (cn (cn (cn (cn (cn (cs (cn (cn (cn (cn (cn (cn (cn (cn (cn (cn (cn (cn (cn (cn (cs (cn (cn (cn (cn (cn (cn (cn (cn (cn (cn (cn (cn (cn (cn (cn (cn (cn (cn (cn (cn (cn (cn (cn (cn (cn (cz) (by kernel_rfl)) (by kernel_rfl)) (by kernel_rfl)) (by kernel_rfl)) (by kernel_rfl)) (by kernel_rfl)) (by kernel_rfl)) (by kernel_rfl)) (by kernel_rfl)) (by kernel_rfl)) (by kernel_rfl)) (by kernel_rfl)) (by kernel_rfl)) (by kernel_rfl)) (by kernel_rfl)) (by kernel_rfl)) (by kernel_rfl)) (by kernel_rfl)) (by kernel_rfl)) (by kernel_rfl)) (by kernel_rfl)) (by kernel_rfl)) (by kernel_rfl)) (by kernel_rfl)) (by kernel_rfl)) (by kernel_rfl) (law4_JourWhole_c23_k25 n)) (by kernel_rfl)) (by kernel_rfl)) (by kernel_rfl)) (by kernel_rfl)) (by kernel_rfl)) (by kernel_rfl)) (by kernel_rfl)) (by kernel_rfl)) (by kernel_rfl)) (by kernel_rfl)) (by kernel_rfl)) (by kernel_rfl)) (by kernel_rfl)) (by kernel_rfl)) (by kernel_rfl) (law4_JourWhole_c35_k40 n)) (by kernel_rfl)) (by kernel_rfl)) (by kernel_rfl)) (by kernel_rfl)) (by kernel_rfl)) (by kernel_rfl)) (by kernel_rfl)) (by kernel_rfl)) (by kernel_rfl)) (by kernel_rfl)) (by kernel_rfl)) (hn fun _ => rfl))
    (fun n ih => asc_cons (law4_first_ok ok n) <| asc_cons (law4_opened_ok ok n) <| asc_cons (disk_Disk_Arm_ok ok n) <| asc_cons (world_Number_ok ok n) <| asc_cons (jour_Store_Commit_ok ok n) <| asc_cons (disk_Disk_Down_ok ok n) <| asc_cons (disk_Disk_Crash_ok ok n) <| asc_cons (jour_Open_ok ok n) <| asc_cons (law4_changes_ok ok n) <| asc_cons (jour_Store_Keys_ok ok n) <| asc_cons (jour_Store_Get_ok ok n) <| asc_nil)
end
end Go.Proofs.YthbbokndogjopaaGreatDoor.Cm

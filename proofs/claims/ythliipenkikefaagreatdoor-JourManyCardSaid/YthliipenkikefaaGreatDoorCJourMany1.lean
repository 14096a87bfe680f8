/- Printed by cmtext.py: the code as plain functions. -/
import Derived.Test.YthliipenkikefaaGreatDoorCJourMany0
namespace Go.Proofs.YthliipenkikefaaGreatDoor.Cm
open Go
noncomputable section
set_option linter.unusedVariables false
set_option maxRecDepth 100000
/-! ### (*pendulum/jour.Store).Commit -/
abbrev jour_Store_Commit_ins : Sh := ⟨[(.one (.ptr 0 0)), (.one (.arr 1))], [(.obj 56 [(.ptr 2 0), (.map 3), (.val (.int .i64)), (.val (.int .i64)), (.val (.int .i64))]), (.arr 31 ty0), (.obj 65 [(.val (.int .i64)), (.map 4), (.map 5), (.val (.int .i64)), (.val (.int .i64)), (.val .bool)]), (.map .str .str false), (.map (.int .i64) ty2 false), (.map (.int .i64) ty2 false)]⟩
abbrev jour_Store_Commit_outs : List Sh := [⟨[(.one (.val .err))], [(.obj 56 [(.ptr 2 0), (.map 3), (.val (.int .i64)), (.val (.int .i64)), (.val (.int .i64))]), (.arr 31 ty0), (.obj 65 [(.val (.int .i64)), (.map 4), (.map 5), (.val (.int .i64)), (.val (.int .i64)), (.val .bool)]), (.map .str .str false), (.map (.int .i64) ty2 false), (.map (.int .i64) ty2 false)]⟩, ⟨[(.one (.val .err))], [(.obj 56 [(.ptr 2 0), (.map 6), (.val (.int .i64)), (.val (.int .i64)), (.val (.int .i64))]), (.arr 31 ty0), (.obj 65 [(.val (.int .i64)), (.map 4), (.map 5), (.val (.int .i64)), (.val (.int .i64)), (.val .bool)]), (.map .str .str false), (.map (.int .i64) ty2 false), (.map (.int .i64) ty2 false), (.map .str .str false)]⟩]
def jour_Store_Commit : Nat → jour_Store_Commit_ins.T → Option (OutsT jour_Store_Commit_outs)
  | 0, _ => none
  | n + 1, ((_, _, _), ((_, _, x1, x2, x3, _), l4, (x5, _, _, x6, x7, x8, _), m9, m10, m11, _)) =>
    match jour_Store_fits n (((), (), ()), (((), (), x1, x2, x3, ()), l4, (x5, (), (), x6, x7, x8, ()), m9, m10, m11, ())) with
    | some (.inl ((((_, _), (x12, _), _), _), ((_, _, x13, x14, x15, _), l16, (x17, _, _, x18, x19, x20, _), m21, m22, m23, m24, _))) => (
      if !(errNil x12) then
        some (.inl ((x12, ()), (((), (), x13, x14, x15, ()), l16, (x17, (), (), x18, x19, x20, ()), m21, m22, m23, ())))
      else
        match maps_Equal_19 n (((), (), ()), (m24, m21, ())) with
        | some ((x37, _), (m38, m39, _)) => (
          if x37 then
            some (.inl ((ErrV.nil, ()), (((), (), x13, x14, x15, ()), l16, (x17, (), (), x18, x19, x20, ()), m39, m22, m23, ())))
          else
            match jour_bytes n ((1, (), ()), (l16, ())) with
            | some ((_, _), (l40, l41, _)) => (
              if decide (x13 ≥ 0) then
                match jour_bounds n (((), x13, ()), ((x17, (), (), x18, x19, x20, ()), m22, m23, ())) with
                | some ((((x42, _), (x43, _), _), _), ((x44, _, _, x45, x46, x47, _), m48, m49, _)) => (
                  match jour_sectors n (((), ()), (l41, ())) with
                  | some ((x50, _), (l51, _)) => (
                    let v52 : Int := IntKind.i64.wrap (x43 - x14)
                    if decide (x50 ≤ v52) then
                      match jour_Store_write n (((), x14, l51, ()), (((), (), x13, x14, x15, ()), (x44, (), (), x45, x46, x47, ()), m39, m48, m49, ())) with
                      | some ((x53, _), ((_, _, x54, x55, x56, _), (x57, _, _, x58, x59, x60, _), m61, m62, m63, _)) => (
                        if !(errNil x53) then
                          some (.inl ((x53, ()), (((), (), x54, x55, x56, ()), l40, (x57, (), (), x58, x59, x60, ()), m61, m62, m63, ())))
                        else
                          match jour_sectors_2 n ((l51, ()), ()) with
                          | some ((x64, _), _) => (
                            let v65 : Int := IntKind.i64.wrap (x55 + x64)
                            some (.inr (((ErrV.nil, ()), (((), (), x54, v65, x56, ()), l40, (x57, (), (), x58, x59, x60, ()), m61, m62, m63, m38, ())))))
                          | none => none)
                      | none => none
                    else
                      match jour_Store_all n (((), (), ()), (((), (), x13, x14, x15, ()), m38, (x44, (), (), x45, x46, x47, ()), m39, m48, m49, ())) with
                      | some (.inl ((x66, _), ((_, _, x67, x68, x69, _), m70, (x71, _, _, x72, x73, x74, _), m75, m76, m77, _))) => (
                        some (.inl ((x66, ()), (((), (), x67, x68, x69, ()), l40, (x71, (), (), x72, x73, x74, ()), m75, m76, m77, ()))))
                      | some (.inr (((x78, _), ((_, _, x79, x80, x81, _), m82, (x83, _, _, x84, x85, x86, _), m87, m88, m89, _)))) => (
                        some (.inr (((x78, ()), (((), (), x79, x80, x81, ()), l40, (x83, (), (), x84, x85, x86, ()), m87, m88, m89, m82, ())))))
                      | none => none)
                  | none => none)
                | none => none
              else
                match jour_Store_all n (((), (), ()), (((), (), x13, x14, x15, ()), m38, (x17, (), (), x18, x19, x20, ()), m39, m22, m23, ())) with
                | some (.inl ((x90, _), ((_, _, x91, x92, x93, _), m94, (x95, _, _, x96, x97, x98, _), m99, m100, m101, _))) => (
                  some (.inl ((x90, ()), (((), (), x91, x92, x93, ()), l40, (x95, (), (), x96, x97, x98, ()), m99, m100, m101, ()))))
                | some (.inr (((x102, _), ((_, _, x103, x104, x105, _), m106, (x107, _, _, x108, x109, x110, _), m111, m112, m113, _)))) => (
                  some (.inr (((x102, ()), (((), (), x103, x104, x105, ()), l40, (x107, (), (), x108, x109, x110, ()), m111, m112, m113, m106, ())))))
                | none => none)
            | none => none)
        | none => none)
    | some (.inr (((((_, _), (x25, _), _), _), ((_, _, x26, x27, x28, _), l29, (x30, _, _, x31, x32, x33, _), m34, m35, m36, _)))) => (
      if !(errNil x25) then (
        some (.inl ((x25, ()), (((), (), x26, x27, x28, ()), l29, (x30, (), (), x31, x32, x33, ()), m34, m35, m36, ())))) else none)
    | none => none
def jour_Store_Commit_H (n : Nat) : Hints := ⟨[], fun _ => [], fun _ => none, fun _ => none, fun _ => none, fun _ => 0⟩
def jour_Store_Commit_O (n : Nat) : FuncId → List FSpec := asc [(18, ⟨jour_Store_fits_ins, jour_Store_fits_outs, jour_Store_fits n⟩), (19, ⟨maps_Equal_19_ins, maps_Equal_19_outs, maps_Equal_19 n⟩), (20, ⟨jour_bytes_ins, jour_bytes_outs, jour_bytes n⟩), (21, ⟨jour_bounds_ins, jour_bounds_outs, jour_bounds n⟩), (22, ⟨jour_sectors_ins, jour_sectors_outs, jour_sectors n⟩), (22, ⟨jour_sectors_2_ins, jour_sectors_2_outs, jour_sectors_2 n⟩), (23, ⟨jour_Store_write_ins, jour_Store_write_outs, jour_Store_write n⟩), (24, ⟨jour_Store_all_ins, jour_Store_all_outs, jour_Store_all n⟩)]
def b8 : Code := bodyOf Tryz.f8
theorem jour_Store_Commit_ok {S : Nat → Addr} (ok : CfgOk P CC S) : ∀ n, SpecOk P CC S 8 ⟨jour_Store_Commit_ins, jour_Store_Commit_outs, jour_Store_Commit n⟩ :=
  fn_all ok (O := jour_Store_Commit_O) (H := jour_Store_Commit_H) (fn := Tryz.f8) (body := b8) (by kernel_rfl) (by kernel_rfl) (by kernel_rfl) (by decide) (by kernel_rfl)
    (fun x => by kernel_rfl) (fun n => by
      rintro ⟨⟨⟨⟩, ⟨⟩, ⟨⟩⟩, ⟨⟨⟨⟩, ⟨⟩, x1, x2, x3, ⟨⟩⟩, x4, ⟨x5, ⟨⟩, ⟨⟩, x6, x7, x8, ⟨⟩⟩, x9, x10, x11, ⟨⟩⟩⟩
      kernel_rfl)
    (fun n => obl_of (by kernel_rfl) (by kernel_rfl) (lz) (cn (cn (cn (cn (cn (cn (cn (cn (cn (cn (cn (cn (cn (cn (cn (cn (cn (cn (cn (cn (cz) (by kernel_rfl)) (by kernel_rfl)) (by kernel_rfl)) (by kernel_rfl)) (by kernel_rfl)) (by kernel_rfl)) (by kernel_rfl)) (by kernel_rfl)) (by kernel_rfl)) (by kernel_rfl)) (by kernel_rfl)) (by kernel_rfl)) (by kernel_rfl)) (by kernel_rfl)) (by kernel_rfl)) (by kernel_rfl)) (by kernel_rfl)) (by kernel_rfl)) (by kernel_rfl)) (by kernel_rfl)) (hn fun _ => rfl))
    (fun n ih => asc_cons (jour_Store_fits_ok ok n) <| asc_cons (maps_Equal_19_ok ok n) <| asc_cons (jour_bytes_ok ok n) <| asc_cons (jour_bounds_ok ok n) <| asc_cons (jour_sectors_ok ok n) <| asc_cons (jour_sectors_2_ok ok n) <| asc_cons (jour_Store_write_ok ok n) <| asc_cons (jour_Store_all_ok ok n) <| asc_nil)
/-! ### (*pendulum/jour.Store).Get -/
abbrev jour_Store_Get_ins : Sh := ⟨[(.one (.ptr 0 0)), (.one (.val .str))], [(.obj 56 [(.ptr 1 0), (.map 2), (.val (.int .i64)), (.val (.int .i64)), (.val (.int .i64))]), (.obj 65 [(.val (.int .i64)), (.map 3), (.map 4), (.val (.int .i64)), (.val (.int .i64)), (.val .bool)]), (.map .str .str false), (.map (.int .i64) ty2 false), (.map (.int .i64) ty2 false)]⟩
abbrev jour_Store_Get_outs : List Sh := [⟨[(.tup [(false, [(.val .str)]), (false, [(.val .bool)])])], [(.obj 56 [(.ptr 1 0), (.map 2), (.val (.int .i64)), (.val (.int .i64)), (.val (.int .i64))]), (.obj 65 [(.val (.int .i64)), (.map 3), (.map 4), (.val (.int .i64)), (.val (.int .i64)), (.val .bool)]), (.map .str .str false), (.map (.int .i64) ty2 false), (.map (.int .i64) ty2 false)]⟩]
def jour_Store_Get : Nat → jour_Store_Get_ins.T → Option (OutsT jour_Store_Get_outs)
  | 0, _ => none
  | n + 1, ((_, x1, _), ((_, _, x2, x3, x4, _), (x5, _, _, x6, x7, x8, _), m9, m10, m11, _)) =>
    let v12 : ByteArray := (mfind (keyEq (.str : Ty)) x1 m9).getD (⟨#[]⟩ : ByteArray)
    some ((((v12, ()), ((mfind (keyEq (.str : Ty)) x1 m9).isSome, ()), ()), ()), (((), (), x2, x3, x4, ()), (x5, (), (), x6, x7, x8, ()), m9, m10, m11, ()))
def jour_Store_Get_H (n : Nat) : Hints := ⟨[], fun _ => [], fun _ => none, fun _ => none, fun _ => none, fun _ => 0⟩
def jour_Store_Get_O (n : Nat) : FuncId → List FSpec := asc []
def b11 : Code := bodyOf Tryz.f11
theorem jour_Store_Get_ok {S : Nat → Addr} (ok : CfgOk P CC S) : ∀ n, SpecOk P CC S 11 ⟨jour_Store_Get_ins, jour_Store_Get_outs, jour_Store_Get n⟩ :=
  fn_all ok (O := jour_Store_Get_O) (H := jour_Store_Get_H) (fn := Tryz.f11) (body := b11) (by kernel_rfl) (by kernel_rfl) (by kernel_rfl) (by decide) (by kernel_rfl)
    (fun x => by kernel_rfl) (fun n => by
      rintro ⟨⟨⟨⟩, x1, ⟨⟩⟩, ⟨⟨⟨⟩, ⟨⟩, x2, x3, x4, ⟨⟩⟩, ⟨x5, ⟨⟩, ⟨⟩, x6, x7, x8, ⟨⟩⟩, x9, x10, x11, ⟨⟩⟩⟩
      kernel_rfl)
    (fun n => obl_of (by kernel_rfl) (by kernel_rfl) (lz) (cn (cn (cn (cz) (by kernel_rfl)) (by kernel_rfl)) (by kernel_rfl)) (hn fun _ => rfl))
    (fun n ih => asc_nil)
/-! ### (*pendulum/jour.Store).Keys -/
abbrev jour_Store_Keys_ins : Sh := ⟨[(.one (.ptr 0 0))], [(.obj 56 [(.ptr 1 0), (.map 2), (.val (.int .i64)), (.val (.int .i64)), (.val (.int .i64))]), (.obj 65 [(.val (.int .i64)), (.map 3), (.map 4), (.val (.int .i64)), (.val (.int .i64)), (.val .bool)]), (.map .str .str false), (.map (.int .i64) ty2 false), (.map (.int .i64) ty2 false)]⟩
abbrev jour_Store_Keys_outs : List Sh := [⟨[(.one (.arr 5))], [(.obj 56 [(.ptr 1 0), (.map 2), (.val (.int .i64)), (.val (.int .i64)), (.val (.int .i64))]), (.obj 65 [(.val (.int .i64)), (.map 3), (.map 4), (.val (.int .i64)), (.val (.int .i64)), (.val .bool)]), (.map .str .str false), (.map (.int .i64) ty2 false), (.map (.int .i64) ty2 false), (.arr 9 .str)]⟩]
def jour_Store_Keys : Nat → jour_Store_Keys_ins.T → Option (OutsT jour_Store_Keys_outs)
  | 0, _ => none
  | n + 1, ((_, _), ((_, _, x1, x2, x3, _), (x4, _, _, x5, x6, x7, _), m8, m9, m10, _)) =>
    match maps_Keys_map_string_string_string_string n (((), ()), (m8, ())) with
    | some ((_, _), (m11, (_, _), _)) => (
      match slices_Sorted_45 n (((), ()), (((), ()), m11, ())) with
      | some ((_, _), ((_, _), m12, l13, _)) => (
        some (((), ()), (((), (), x1, x2, x3, ()), (x4, (), (), x5, x6, x7, ()), m12, m9, m10, l13, ())))
      | none => none)
    | none => none
def jour_Store_Keys_H (n : Nat) : Hints := ⟨[], fun _ => [], fun _ => none, fun _ => none, fun _ => none, fun _ => 0⟩
def jour_Store_Keys_O (n : Nat) : FuncId → List FSpec := asc [(27, ⟨slices_Sorted_45_ins, slices_Sorted_45_outs, slices_Sorted_45 n⟩), (28, ⟨maps_Keys_map_string_string_string_string_ins, maps_Keys_map_string_string_string_string_outs, maps_Keys_map_string_string_string_string n⟩)]
def b13 : Code := bodyOf Tryz.f13
theorem jour_Store_Keys_ok {S : Nat → Addr} (ok : CfgOk P CC S) : ∀ n, SpecOk P CC S 13 ⟨jour_Store_Keys_ins, jour_Store_Keys_outs, jour_Store_Keys n⟩ :=
  fn_all ok (O := jour_Store_Keys_O) (H := jour_Store_Keys_H) (fn := Tryz.f13) (body := b13) (by kernel_rfl) (by kernel_rfl) (by kernel_rfl) (by decide) (by kernel_rfl)
    (fun x => by kernel_rfl) (fun n => by
      rintro ⟨⟨⟨⟩, ⟨⟩⟩, ⟨⟨⟨⟩, ⟨⟩, x1, x2, x3, ⟨⟩⟩, ⟨x4, ⟨⟩, ⟨⟩, x5, x6, x7, ⟨⟩⟩, x8, x9, x10, ⟨⟩⟩⟩
      kernel_rfl)
    (fun n => obl_of (by kernel_rfl) (by kernel_rfl) (lz) (cn (cn (cz) (by kernel_rfl)) (by kernel_rfl)) (hn fun _ => rfl))
    (fun n ih => asc_cons (slices_Sorted_45_ok ok n) <| asc_cons (maps_Keys_map_string_string_string_string_ok ok n) <| asc_nil)
/-! ### pendulum/pendulumref.SameTexts -/
abbrev ref_SameTexts_ins : Sh := ⟨[(.one (.val ty3)), (.one (.val ty3))], []⟩
abbrev ref_SameTexts_outs : List Sh := [⟨[(.one (.val .bool))], []⟩]
abbrev ref_SameTexts_l4_h : Sh := ⟨[(.one (.val ty3)), (.one (.val ty3)), (.one (.val (.int .i64)))], []⟩
abbrev ref_SameTexts_l4_o : List Out := [⟨(.exit 0), [], ⟨[], []⟩⟩, ⟨.ret, [4], ⟨[(.one (.val .bool))], []⟩⟩]
def ref_SameTexts_l4 (n : Nat) : Nat → ref_SameTexts_l4_h.T → Option (OutT ref_SameTexts_l4_o)
  | 0, _ => none
  | k + 1, ((x1, x2, x3, _), _) =>
    if decide (x3 < (x1.length : Int)) then
      if 0 ≤ x3 ∧ x3 < (x1.length : Int) then (
        if 0 ≤ x3 ∧ x3 < (x2.length : Int) then (
          if !(strEq (rdT (.str : Ty) x1 x3) (rdT (.str : Ty) x2 x3)) then
            some (.inr (.inl ((false, ()), ())))
          else
            let v4 : Int := IntKind.i64.wrap (x3 + 1)
            ref_SameTexts_l4 n k ((x1, x2, v4, ()), ())) else none) else none
    else
      some (.inl ((), ()))
def ref_SameTexts : Nat → ref_SameTexts_ins.T → Option (OutsT ref_SameTexts_outs)
  | 0, _ => none
  | n + 1, ((x1, x2, _), _) =>
    if (x1.length : Int) != (x2.length : Int) then
      some ((false, ()), ())
    else
      match ref_SameTexts_l4 n n ((x1, x2, 0, ()), ()) with
      | some (.inl (_, _)) => (
        some ((true, ()), ()))
      | some (.inr (.inl ((x3, _), _))) => (
        some ((x3, ()), ()))
      | some (.inr (.inr (_))) => none
      | none => none
def ref_SameTexts_H (n : Nat) : Hints := ⟨[], fun _ => [], fun k => match k with | 4 => some ⟨[0, 1, 5], ref_SameTexts_l4_h, ref_SameTexts_l4_o, ref_SameTexts_l4 n⟩ | _ => none, fun _ => none, fun _ => none, fun _ => 0⟩
def ref_SameTexts_O (n : Nat) : FuncId → List FSpec := asc []
def b15 : Code := bodyOf Tryz.f15
theorem ref_SameTexts_l4_k0 (n : Nat) : LoopOk P CC (ref_SameTexts_O n) n 0 29 (ref_SameTexts_H n) ⟨[0, 1, 5], ref_SameTexts_l4_h, ref_SameTexts_l4_o, ref_SameTexts_l4 n⟩ ((loopsOf b15).getD 0 .skip) := by
  refine ⟨fun _ => by kernel_rfl, ?_⟩
  rintro k ⟨⟨x1, x2, x3, ⟨⟩⟩, ⟨⟩⟩
  kernel_rfl
theorem ref_SameTexts_ok {S : Nat → Addr} (ok : CfgOk P CC S) : ∀ n, SpecOk P CC S 15 ⟨ref_SameTexts_ins, ref_SameTexts_outs, ref_SameTexts n⟩ :=
  fn_all ok (O := ref_SameTexts_O) (H := ref_SameTexts_H) (fn := Tryz.f15) (body := b15) (by kernel_rfl) (by kernel_rfl) (by kernel_rfl) (by decide) (by kernel_rfl)
    (fun x => by kernel_rfl) (fun n => by
      rintro ⟨⟨x1, x2, ⟨⟩⟩, ⟨⟩⟩
      kernel_rfl)
    (fun n => obl_of (by kernel_rfl) (by kernel_rfl) (ls (lz) (by kernel_rfl) (ref_SameTexts_l4_k0 n)) (cn (cn (cn (cn (cn (cn (cn (cn (cn (cn (cn (cn (cn (cz) (by kernel_rfl)) (by kernel_rfl)) (by kernel_rfl)) (by kernel_rfl)) (by kernel_rfl)) (by kernel_rfl)) (by kernel_rfl)) (by kernel_rfl)) (by kernel_rfl)) (by kernel_rfl)) (by kernel_rfl)) (by kernel_rfl)) (by kernel_rfl)) (hn fun _ => rfl))
    (fun n ih => asc_nil)
/-! ### pendulum/pendulumlaw4.first -/
abbrev law4_first_ins : Sh := ⟨[], []⟩
abbrev law4_first_outs : List Sh := [⟨[(.one (.val .bool))], []⟩]
abbrev law4_first_c4_h : Sh := ⟨[(.one (.ptr 0 0))], [(.obj 56 [(.ptr 1 0), (.map 2), (.val (.int .i64)), (.val (.int .i64)), (.val (.int .i64))]), (.obj 65 [(.val (.int .i64)), (.map 3), (.map 4), (.val (.int .i64)), (.val (.int .i64)), (.val .bool)]), (.map .str .str false), (.map (.int .i64) ty2 false), (.map (.int .i64) ty2 false)]⟩
abbrev law4_first_c4_o : List Out := [⟨.normal, [1], ⟨[(.one (.ptr 0 0))], [(.obj 56 [(.ptr 1 0), (.map 2), (.val (.int .i64)), (.val (.int .i64)), (.val (.int .i64))]), (.obj 65 [(.val (.int .i64)), (.map 3), (.map 4), (.val (.int .i64)), (.val (.int .i64)), (.val .bool)]), (.map .str .str false), (.map (.int .i64) ty2 false), (.map (.int .i64) ty2 false)]⟩⟩, ⟨.ret, [0], ⟨[(.one (.val .bool))], []⟩⟩]
def law4_first_c4 (n : Nat) : law4_first_c4_h.T → Option (OutT law4_first_c4_o)
  | ((_, _), ((_, _, x1, x2, x3, _), (x4, _, _, x5, x6, x7, _), m8, m9, m10, _)) =>
    match jour_Store_Commit n (((), (), ()), (((), (), x1, x2, x3, ()), [((⟨#[97]⟩ : ByteArray), ((⟨#[49]⟩ : ByteArray), false))], (x4, (), (), x5, x6, x7, ()), m8, m9, m10, ())) with
    | some (.inl ((x11, _), ((_, _, x12, x13, x14, _), l15, (x16, _, _, x17, x18, x19, _), m20, m21, m22, _))) => (
      if !(errNil x11) then
        some (.inr (.inl ((false, ()), ())))
      else
        match jour_Store_Commit n (((), (), ()), (((), (), x12, x13, x14, ()), [((⟨#[97]⟩ : ByteArray), ((⟨#[50]⟩ : ByteArray), false)), ((⟨#[98]⟩ : ByteArray), ((⟨#[51]⟩ : ByteArray), false))], (x16, (), (), x17, x18, x19, ()), m20, m21, m22, ())) with
        | some (.inl ((x36, _), ((_, _, x37, x38, x39, _), l40, (x41, _, _, x42, x43, x44, _), m45, m46, m47, _))) => (
          if !(errNil x36) then
            some (.inr (.inl ((false, ()), ())))
          else
            some (.inl (((), ()), (((), (), x37, x38, x39, ()), (x41, (), (), x42, x43, x44, ()), m45, m46, m47, ()))))
        | some (.inr (((x48, _), ((_, _, x49, x50, x51, _), l52, (x53, _, _, x54, x55, x56, _), m57, m58, m59, m60, _)))) => (
          if !(errNil x48) then
            some (.inr (.inl ((false, ()), ())))
          else
            some (.inl (((), ()), (((), (), x49, x50, x51, ()), (x53, (), (), x54, x55, x56, ()), m60, m58, m59, ()))))
        | none => none)
    | some (.inr (((x23, _), ((_, _, x24, x25, x26, _), l27, (x28, _, _, x29, x30, x31, _), m32, m33, m34, m35, _)))) => (
      if !(errNil x23) then
        some (.inr (.inl ((false, ()), ())))
      else
        match jour_Store_Commit n (((), (), ()), (((), (), x24, x25, x26, ()), [((⟨#[97]⟩ : ByteArray), ((⟨#[50]⟩ : ByteArray), false)), ((⟨#[98]⟩ : ByteArray), ((⟨#[51]⟩ : ByteArray), false))], (x28, (), (), x29, x30, x31, ()), m35, m33, m34, ())) with
        | some (.inl ((x61, _), ((_, _, x62, x63, x64, _), l65, (x66, _, _, x67, x68, x69, _), m70, m71, m72, _))) => (
          if !(errNil x61) then
            some (.inr (.inl ((false, ()), ())))
          else
            some (.inl (((), ()), (((), (), x62, x63, x64, ()), (x66, (), (), x67, x68, x69, ()), m70, m71, m72, ()))))
        | some (.inr (((x73, _), ((_, _, x74, x75, x76, _), l77, (x78, _, _, x79, x80, x81, _), m82, m83, m84, m85, _)))) => (
          if !(errNil x73) then
            some (.inr (.inl ((false, ()), ())))
          else
            some (.inl (((), ()), (((), (), x74, x75, x76, ()), (x78, (), (), x79, x80, x81, ()), m85, m83, m84, ()))))
        | none => none)
    | none => none
def law4_first : Nat → law4_first_ins.T → Option (OutsT law4_first_outs)
  | 0, _ => none
  | n + 1, (_, _) =>
    match law4_opened n ((64, ()), ()) with
    | some (.inl ((((_, _), (_, _), _), _), ((_, _, x1, x2, x3, _), (x4, _, _, x5, x6, x7, _), m8, m9, m10, _))) => (
      match law4_first_c4 n (((), ()), (((), (), x1, x2, x3, ()), (x4, (), (), x5, x6, x7, ()), m8, m9, m10, ())) with
      | some (.inl ((_, _), ((_, _, x17, x18, x19, _), (x20, _, _, x21, x22, x23, _), m24, m25, m26, _))) => (
        match jour_Store_Get n (((), (⟨#[97]⟩ : ByteArray), ()), (((), (), x17, x18, x19, ()), (x20, (), (), x21, x22, x23, ()), m24, m25, m26, ())) with
        | some ((((x28, _), (x29, _), _), _), ((_, _, x30, x31, x32, _), (x33, _, _, x34, x35, x36, _), m37, m38, m39, _)) => (
          if x29 then
            if strEq x28 (⟨#[50]⟩ : ByteArray) then
              match jour_Store_Keys n (((), ()), (((), (), x30, x31, x32, ()), (x33, (), (), x34, x35, x36, ()), m37, m38, m39, ())) with
              | some ((_, _), ((_, _, x40, x41, x42, _), (x43, _, _, x44, x45, x46, _), m47, m48, m49, l50, _)) => (
                match ref_SameTexts n ((l50, [(⟨#[97]⟩ : ByteArray), (⟨#[98]⟩ : ByteArray)], ()), ()) with
                | some ((x51, _), _) => (
                  some ((x51, ()), ()))
                | none => none)
              | none => none
            else
              some ((false, ()), ())
          else
            some ((false, ()), ()))
        | none => none)
      | some (.inr (.inl ((x27, _), _))) => (
        some ((x27, ()), ()))
      | some (.inr (.inr (_))) => none
      | none => none)
    | some (.inr (.inl ((((_, _), (_, _), _), _), ((x11, _, _, x12, x13, x14, _), m15, m16, _)))) => (
      none)
    | some (.inr (.inr (((((_, _), (_, _), _), _), _)))) => (
      none)
    | none => none
def law4_first_H (n : Nat) : Hints := ⟨[], fun _ => [], fun _ => none, fun k => match k with | 4 => some ⟨[1], law4_first_c4_h, law4_first_c4_o, fun n => law4_first_c4 n⟩ | _ => none, fun _ => none, fun _ => 0⟩
def law4_first_O (n : Nat) : FuncId → List FSpec := asc [(7, ⟨law4_opened_ins, law4_opened_outs, law4_opened n⟩), (8, ⟨jour_Store_Commit_ins, jour_Store_Commit_outs, jour_Store_Commit n⟩), (11, ⟨jour_Store_Get_ins, jour_Store_Get_outs, jour_Store_Get n⟩), (13, ⟨jour_Store_Keys_ins, jour_Store_Keys_outs, jour_Store_Keys n⟩), (15, ⟨ref_SameTexts_ins, ref_SameTexts_outs, ref_SameTexts n⟩)]
def b6 : Code := bodyOf Tryz.f6
theorem law4_first_c4_k2 (n : Nat) : CutOk P CC (law4_first_O n) n 0 42 (law4_first_H n) ⟨[1], law4_first_c4_h, law4_first_c4_o, fun n => law4_first_c4 n⟩ ((cutsOf b6).getD 2 (0, .skip)).2 := by
  rintro ⟨⟨⟨⟩, ⟨⟩⟩, ⟨⟨⟨⟩, ⟨⟩, x1, x2, x3, ⟨⟩⟩, ⟨x4, ⟨⟩, ⟨⟩, x5, x6, x7, ⟨⟩⟩, x8, x9, x10, ⟨⟩⟩⟩
  kernel_rfl
theorem law4_first_ok {S : Nat → Addr} (ok : CfgOk P CC S) : ∀ n, SpecOk P CC S 6 ⟨law4_first_ins, law4_first_outs, law4_first n⟩ :=
  fn_all ok (O := law4_first_O) (H := law4_first_H) (fn := Tryz.f6) (body := b6) (by kernel_rfl) (by kernel_rfl) (by kernel_rfl) (by decide) (by kernel_rfl)
    (fun x => by kernel_rfl) (fun n => by
      rintro ⟨⟨⟩, ⟨⟩⟩
      kernel_rfl)
    (fun n => obl_of (by kernel_rfl) (by kernel_rfl) (lz) (cn (cn (cn (cn (cs (cn (cn (cz) (by kernel_rfl)) (by kernel_rfl)) (by kernel_rfl) (law4_first_c4_k2 n)) (by kernel_rfl)) (by kernel_rfl)) (by kernel_rfl)) (by kernel_rfl)) (hn fun _ => rfl))
    (fun n ih => asc_cons (law4_opened_ok ok n) <| asc_cons (jour_Store_Commit_ok ok n) <| asc_cons (jour_Store_Get_ok ok n) <| asc_cons (jour_Store_Keys_ok ok n) <| asc_cons (ref_SameTexts_ok ok n) <| asc_nil)
/-! ### pendulum/pendulumworld.Number -/
abbrev world_Number_ins : Sh := ⟨[(.one (.val (.int .i64))), (.one (.val (.int .i64)))], []⟩
abbrev world_Number_outs : List Sh := [⟨[(.one (.val (.int .i64)))], []⟩]
def world_Number : Nat → world_Number_ins.T → Option (OutsT world_Number_outs)
  | 0, _ => none
  | n + 1, ((x1, x2, _), _) =>
    if x2 = 0 then
      none
    else
      if decide (Int.tmod x1 x2 < 0) then
        let v3 : Int := IntKind.i64.wrap ((Int.tmod x1 x2) + x2)
        some ((v3, ()), ())
      else
        some ((Int.tmod x1 x2, ()), ())
def world_Number_H (n : Nat) : Hints := ⟨[], fun _ => [], fun _ => none, fun _ => none, fun _ => none, fun _ => 0⟩
def world_Number_O (n : Nat) : FuncId → List FSpec := asc []
def b10 : Code := bodyOf Tryz.f10
theorem world_Number_ok {S : Nat → Addr} (ok : CfgOk P CC S) : ∀ n, SpecOk P CC S 10 ⟨world_Number_ins, world_Number_outs, world_Number n⟩ :=
  fn_all ok (O := world_Number_O) (H := world_Number_H) (fn := Tryz.f10) (body := b10) (by kernel_rfl) (by kernel_rfl) (by kernel_rfl) (by decide) (by kernel_rfl)
    (fun x => by kernel_rfl) (fun n => by
      rintro ⟨⟨x1, x2, ⟨⟩⟩, ⟨⟩⟩
      kernel_rfl)
    (fun n => obl_of (by kernel_rfl) (by kernel_rfl) (lz) (cn (cn (cn (cn (cn (cz) (by kernel_rfl)) (by kernel_rfl)) (by kernel_rfl)) (by kernel_rfl)) (by kernel_rfl)) (hn fun _ => rfl))
    (fun n ih => asc_nil)
/-! ### strconv.Itoa (by hand) -/
abbrev strconv_Itoa_ins : Sh := ⟨[(.one (.val (.int .i64)))], []⟩
abbrev strconv_Itoa_outs : List Sh := [⟨[(.one (.val .str))], []⟩]
def strconv_Itoa : Nat → strconv_Itoa_ins.T → Option (OutsT strconv_Itoa_outs) := fun _ => itoaSem
theorem strconv_Itoa_ok {S : Nat → Addr} (ok : CfgOk P CC S) : ∀ n, SpecOk P CC S 29 ⟨strconv_Itoa_ins, strconv_Itoa_outs, strconv_Itoa n⟩ := fun n => itoa_spec ⟨Tryz.f29, by kernel_rfl, by kernel_rfl, by kernel_rfl⟩ (.head _) (by kernel_rfl) Tryz.strconv_Itoa
/-! ### pendulum/pendulumworld.Num -/
abbrev world_Num_ins : Sh := ⟨[(.one (.val (.int .i64)))], []⟩
abbrev world_Num_outs : List Sh := [⟨[(.one (.val .str))], []⟩]
def world_Num : Nat → world_Num_ins.T → Option (OutsT world_Num_outs)
  | 0, _ => none
  | n + 1, ((x1, _), _) =>
    match strconv_Itoa n ((x1, ()), ()) with
    | some ((x2, _), _) => (
      some ((x2, ()), ()))
    | none => none
def world_Num_H (n : Nat) : Hints := ⟨[], fun _ => [], fun _ => none, fun _ => none, fun _ => none, fun _ => 0⟩
def world_Num_O (n : Nat) : FuncId → List FSpec := asc [(29, ⟨strconv_Itoa_ins, strconv_Itoa_outs, strconv_Itoa n⟩)]
def b14 : Code := bodyOf Tryz.f14
theorem world_Num_ok {S : Nat → Addr} (ok : CfgOk P CC S) : ∀ n, SpecOk P CC S 14 ⟨world_Num_ins, world_Num_outs, world_Num n⟩ :=
  fn_all ok (O := world_Num_O) (H := world_Num_H) (fn := Tryz.f14) (body := b14) (by kernel_rfl) (by kernel_rfl) (by kernel_rfl) (by decide) (by kernel_rfl)
    (fun x => by kernel_rfl) (fun n => by
      rintro ⟨⟨x1, ⟨⟩⟩, ⟨⟩⟩
      kernel_rfl)
    (fun n => obl_of (by kernel_rfl) (by kernel_rfl) (lz) (cn (cn (cz) (by kernel_rfl)) (by kernel_rfl)) (hn fun _ => rfl))
    (fun n ih => asc_cons (strconv_Itoa_ok ok n) <| asc_nil)
/-! ### pendulum/pendulumref.Bare -/
abbrev ref_Bare_ins : Sh := ⟨[(.one (.val (.int .i64)))], []⟩
abbrev ref_Bare_outs : List Sh := [⟨[(.agg [(.val (.int .i64)), (.val .bool), (.val .bool), (.val (.int .i64)), (.val (.int .i64))])], []⟩]
def ref_Bare : Nat → ref_Bare_ins.T → Option (OutsT ref_Bare_outs)
  | 0, _ => none
  | n + 1, ((x1, _), _) =>
    some (((x1, false, false, 0, 0, ()), ()), ())
def ref_Bare_H (n : Nat) : Hints := ⟨[], fun _ => [], fun _ => none, fun _ => none, fun _ => none, fun _ => 0⟩
def ref_Bare_O (n : Nat) : FuncId → List FSpec := asc []
def b26 : Code := bodyOf Tryz.f26
theorem ref_Bare_ok {S : Nat → Addr} (ok : CfgOk P CC S) : ∀ n, SpecOk P CC S 26 ⟨ref_Bare_ins, ref_Bare_outs, ref_Bare n⟩ :=
  fn_all ok (O := ref_Bare_O) (H := ref_Bare_H) (fn := Tryz.f26) (body := b26) (by kernel_rfl) (by kernel_rfl) (by kernel_rfl) (by decide) (by kernel_rfl)
    (fun x => by kernel_rfl) (fun n => by
      rintro ⟨⟨x1, ⟨⟩⟩, ⟨⟩⟩
      kernel_rfl)
    (fun n => obl_of (by kernel_rfl) (by kernel_rfl) (lz) (cn (cn (cz) (by kernel_rfl)) (by kernel_rfl)) (hn fun _ => rfl))
    (fun n ih => asc_nil)
/-! ### pendulum/pendulumref.None -/
abbrev ref_None_ins : Sh := ⟨[], []⟩
abbrev ref_None_outs : List Sh := [⟨[(.agg [(.val (.int .i64)), (.val .bool), (.val .bool), (.val (.int .i64)), (.val (.int .i64))])], []⟩]
def ref_None : Nat → ref_None_ins.T → Option (OutsT ref_None_outs)
  | 0, _ => none
  | n + 1, (_, _) =>
    some (((0, false, false, 0, 0, ()), ()), ())
def ref_None_H (n : Nat) : Hints := ⟨[], fun _ => [], fun _ => none, fun _ => none, fun _ => none, fun _ => 0⟩
def ref_None_O (n : Nat) : FuncId → List FSpec := asc []
def b57 : Code := bodyOf Tryz.f57
theorem ref_None_ok {S : Nat → Addr} (ok : CfgOk P CC S) : ∀ n, SpecOk P CC S 57 ⟨ref_None_ins, ref_None_outs, ref_None n⟩ :=
  fn_all ok (O := ref_None_O) (H := ref_None_H) (fn := Tryz.f57) (body := b57) (by kernel_rfl) (by kernel_rfl) (by kernel_rfl) (by decide) (by kernel_rfl)
    (fun x => by kernel_rfl) (fun n => by
      rintro ⟨⟨⟩, ⟨⟩⟩
      kernel_rfl)
    (fun n => obl_of (by kernel_rfl) (by kernel_rfl) (lz) (cn (cn (cz) (by kernel_rfl)) (by kernel_rfl)) (hn fun _ => rfl))
    (fun n ih => asc_nil)
/-! ### pendulum/pendulumsee.sentinels -/
abbrev pendulumsee_sentinels_ins : Sh := ⟨[], []⟩
abbrev pendulumsee_sentinels_outs : List Sh := [⟨[(.one (.arr 0))], [(.arr 28 .err)]⟩]
def pendulumsee_sentinels : Nat → pendulumsee_sentinels_ins.T → Option (OutsT pendulumsee_sentinels_outs)
  | 0, _ => none
  | n + 1, (_, _) =>
    some (((), ()), ([ErrV.sent 101, ErrV.sent 102, ErrV.sent 103, ErrV.sent 104, ErrV.sent 105, ErrV.sent 106, ErrV.sent 107, ErrV.sent 108, ErrV.sent 109, ErrV.sent 110, ErrV.sent 111, ErrV.sent 112, ErrV.sent 113, ErrV.sent 114, ErrV.sent 115, ErrV.sent 116, ErrV.sent 117, ErrV.sent 118, ErrV.sent 119, ErrV.sent 120, ErrV.sent 121], ()))
def pendulumsee_sentinels_H (n : Nat) : Hints := ⟨[], fun _ => [], fun _ => none, fun _ => none, fun _ => none, fun _ => 0⟩
def pendulumsee_sentinels_O (n : Nat) : FuncId → List FSpec := asc []
def b72 : Code := bodyOf Tryz.f72
theorem pendulumsee_sentinels_ok {S : Nat → Addr} (ok : CfgOk P CC S) : ∀ n, SpecOk P CC S 72 ⟨pendulumsee_sentinels_ins, pendulumsee_sentinels_outs, pendulumsee_sentinels n⟩ :=
  fn_all ok (O := pendulumsee_sentinels_O) (H := pendulumsee_sentinels_H) (fn := Tryz.f72) (body := b72) (by kernel_rfl) (by kernel_rfl) (by kernel_rfl) (by decide) (by kernel_rfl)
    (fun x => by kernel_rfl) (fun n => by
      rintro ⟨⟨⟩, ⟨⟩⟩
      kernel_rfl)
    (fun n => obl_of (by kernel_rfl) (by kernel_rfl) (lz) (cn (cn (cz) (by kernel_rfl)) (by kernel_rfl)) (hn fun _ => rfl))
    (fun n ih => asc_nil)
/-! ### pendulum/pendulumsee.Alike -/
abbrev pendulumsee_Alike_ins : Sh := ⟨[(.one (.val .err)), (.one (.val .err))], []⟩
abbrev pendulumsee_Alike_outs : List Sh := [⟨[(.one (.val .bool))], []⟩]
def pendulumsee_Alike : Nat → pendulumsee_Alike_ins.T → Option (OutsT pendulumsee_Alike_outs)
  | 0, _ => none
  | n + 1, ((x1, x2, _), _) =>
    if errNil x1 then
      if errNil x1 then
        some ((errNil x2, ()), ())
      else
        some ((false, ()), ())
    else
      if errNil x2 then
        if errNil x1 then
          some ((errNil x2, ()), ())
        else
          some ((false, ()), ())
      else
        match errEq x1 x2 with
        | some b3 => (
          some ((b3, ()), ()))
        | none => none
def pendulumsee_Alike_H (n : Nat) : Hints := ⟨[], fun _ => [], fun _ => none, fun _ => none, fun _ => none, fun _ => 0⟩
def pendulumsee_Alike_O (n : Nat) : FuncId → List FSpec := asc []
def b73 : Code := bodyOf Tryz.f73
theorem pendulumsee_Alike_ok {S : Nat → Addr} (ok : CfgOk P CC S) : ∀ n, SpecOk P CC S 73 ⟨pendulumsee_Alike_ins, pendulumsee_Alike_outs, pendulumsee_Alike n⟩ :=
  fn_all ok (O := pendulumsee_Alike_O) (H := pendulumsee_Alike_H) (fn := Tryz.f73) (body := b73) (by kernel_rfl) (by kernel_rfl) (by kernel_rfl) (by decide) (by kernel_rfl)
    (fun x => by kernel_rfl) (fun n => by
      rintro ⟨⟨x1, x2, ⟨⟩⟩, ⟨⟩⟩
      kernel_rfl)
    (fun n => obl_of (by kernel_rfl) (by kernel_rfl) (lz) (cn (cn (cn (cn (cn (cz) (by kernel_rfl)) (by kernel_rfl)) (by kernel_rfl)) (by kernel_rfl)) (by kernel_rfl)) (hn fun _ => rfl))
    (fun n ih => asc_nil)
/-! ### pendulum/pendulumsee.sentinel -/
abbrev pendulumsee_sentinel_ins : Sh := ⟨[(.one (.val .err))], []⟩
abbrev pendulumsee_sentinel_outs : List Sh := [⟨[(.one (.val (.int .i64)))], []⟩]
abbrev pendulumsee_sentinel_l3_h : Sh := ⟨[(.one (.val .err)), (.one (.arr 0)), (.one (.val (.int .i64)))], [(.arr 28 .err)]⟩
abbrev pendulumsee_sentinel_l3_o : List Out := [⟨(.exit 0), [], ⟨[], []⟩⟩, ⟨.ret, [2], ⟨[(.one (.val (.int .i64)))], []⟩⟩]
def pendulumsee_sentinel_l3 (n : Nat) : Nat → pendulumsee_sentinel_l3_h.T → Option (OutT pendulumsee_sentinel_l3_o)
  | 0, _ => none
  | k + 1, ((x1, _, x2, _), (l3, _)) =>
    if decide (x2 < (l3.length : Int)) then
      if 0 ≤ x2 ∧ x2 < (l3.length : Int) then (
        match pendulumsee_Alike n ((x1, rdT (.err : Ty) l3 x2, ()), ()) with
        | some ((x4, _), _) => (
          if x4 then
            let v5 : Int := IntKind.i64.wrap (101 + x2)
            some (.inr (.inl ((v5, ()), ())))
          else
            let v6 : Int := IntKind.i64.wrap (x2 + 1)
            pendulumsee_sentinel_l3 n k ((x1, (), v6, ()), (l3, ())))
        | none => none) else none
    else
      some (.inl ((), ()))
def pendulumsee_sentinel : Nat → pendulumsee_sentinel_ins.T → Option (OutsT pendulumsee_sentinel_outs)
  | 0, _ => none
  | n + 1, ((x1, _), _) =>
    match pendulumsee_sentinels n ((), ()) with
    | some ((_, _), (l2, _)) => (
      match pendulumsee_sentinel_l3 n n ((x1, (), 0, ()), (l2, ())) with
      | some (.inl (_, _)) => (
        some (((-1), ()), ()))
      | some (.inr (.inl ((x3, _), _))) => (
        some ((x3, ()), ()))
      | some (.inr (.inr (_))) => none
      | none => none)
    | none => none
def pendulumsee_sentinel_H (n : Nat) : Hints := ⟨[], fun _ => [], fun k => match k with | 3 => some ⟨[0, 3, 4], pendulumsee_sentinel_l3_h, pendulumsee_sentinel_l3_o, pendulumsee_sentinel_l3 n⟩ | _ => none, fun _ => none, fun _ => none, fun _ => 0⟩
def pendulumsee_sentinel_O (n : Nat) : FuncId → List FSpec := asc [(72, ⟨pendulumsee_sentinels_ins, pendulumsee_sentinels_outs, pendulumsee_sentinels n⟩), (73, ⟨pendulumsee_Alike_ins, pendulumsee_Alike_outs, pendulumsee_Alike n⟩)]
def b58 : Code := bodyOf Tryz.f58
theorem pendulumsee_sentinel_l3_k0 (n : Nat) : LoopOk P CC (pendulumsee_sentinel_O n) n 0 20 (pendulumsee_sentinel_H n) ⟨[0, 3, 4], pendulumsee_sentinel_l3_h, pendulumsee_sentinel_l3_o, pendulumsee_sentinel_l3 n⟩ ((loopsOf b58).getD 0 .skip) := by
  refine ⟨fun _ => by kernel_rfl, ?_⟩
  rintro k ⟨⟨x1, ⟨⟩, x2, ⟨⟩⟩, ⟨x3, ⟨⟩⟩⟩
  kernel_rfl
theorem pendulumsee_sentinel_ok {S : Nat → Addr} (ok : CfgOk P CC S) : ∀ n, SpecOk P CC S 58 ⟨pendulumsee_sentinel_ins, pendulumsee_sentinel_outs, pendulumsee_sentinel n⟩ :=
  fn_all ok (O := pendulumsee_sentinel_O) (H := pendulumsee_sentinel_H) (fn := Tryz.f58) (body := b58) (by kernel_rfl) (by kernel_rfl) (by kernel_rfl) (by decide) (by kernel_rfl)
    (fun x => by kernel_rfl) (fun n => by
      rintro ⟨⟨x1, ⟨⟩⟩, ⟨⟩⟩
      kernel_rfl)
    (fun n => obl_of (by kernel_rfl) (by kernel_rfl) (ls (lz) (by kernel_rfl) (pendulumsee_sentinel_l3_k0 n)) (cn (cn (cn (cn (cn (cn (cn (cn (cn (cn (cz) (by kernel_rfl)) (by kernel_rfl)) (by kernel_rfl)) (by kernel_rfl)) (by kernel_rfl)) (by kernel_rfl)) (by kernel_rfl)) (by kernel_rfl)) (by kernel_rfl)) (by kernel_rfl)) (hn fun _ => rfl))
    (fun n ih => asc_cons (pendulumsee_sentinels_ok ok n) <| asc_cons (pendulumsee_Alike_ok ok n) <| asc_nil)
/-! ### pendulum/pendulumref.Placed -/
abbrev ref_Placed_ins : Sh := ⟨[(.one (.val (.int .i64))), (.one (.val (.int .i64)))], []⟩
abbrev ref_Placed_outs : List Sh := [⟨[(.agg [(.val (.int .i64)), (.val .bool), (.val .bool), (.val (.int .i64)), (.val (.int .i64))])], []⟩]
def ref_Placed : Nat → ref_Placed_ins.T → Option (OutsT ref_Placed_outs)
  | 0, _ => none
  | n + 1, ((x1, x2, _), _) =>
    if x1 == 0 then
      match ref_None n ((), ()) with
      | some (((x3, x4, x5, x6, x7, _), _), _) => (
        some (((x3, x4, x5, x6, x7, ()), ()), ()))
      | none => none
    else
      some (((x1, true, false, x2, 0, ()), ()), ())
def ref_Placed_H (n : Nat) : Hints := ⟨[], fun _ => [], fun _ => none, fun _ => none, fun _ => none, fun _ => 0⟩
def ref_Placed_O (n : Nat) : FuncId → List FSpec := asc [(57, ⟨ref_None_ins, ref_None_outs, ref_None n⟩)]
def b60 : Code := bodyOf Tryz.f60
theorem ref_Placed_ok {S : Nat → Addr} (ok : CfgOk P CC S) : ∀ n, SpecOk P CC S 60 ⟨ref_Placed_ins, ref_Placed_outs, ref_Placed n⟩ :=
  fn_all ok (O := ref_Placed_O) (H := ref_Placed_H) (fn := Tryz.f60) (body := b60) (by kernel_rfl) (by kernel_rfl) (by kernel_rfl) (by decide) (by kernel_rfl)
    (fun x => by kernel_rfl) (fun n => by
      rintro ⟨⟨x1, x2, ⟨⟩⟩, ⟨⟩⟩
      kernel_rfl)
    (fun n => obl_of (by kernel_rfl) (by kernel_rfl) (lz) (cn (cn (cn (cn (cn (cz) (by kernel_rfl)) (by kernel_rfl)) (by kernel_rfl)) (by kernel_rfl)) (by kernel_rfl)) (hn fun _ => rfl))
    (fun n ih => asc_cons (ref_None_ok ok n) <| asc_nil)
/-! ### pendulum/pendulumref.Around -/
abbrev ref_Around_ins : Sh := ⟨[(.agg [(.val (.int .i64)), (.val .bool), (.val .bool), (.val (.int .i64)), (.val (.int .i64))]), (.one (.val (.int .i64)))], []⟩
abbrev ref_Around_outs : List Sh := [⟨[(.agg [(.val (.int .i64)), (.val .bool), (.val .bool), (.val (.int .i64)), (.val (.int .i64))])], []⟩]
def ref_Around : Nat → ref_Around_ins.T → Option (OutsT ref_Around_outs)
  | 0, _ => none
  | n + 1, (((x1, x2, x3, x4, x5, _), x6, _), _) =>
    if x1 == 0 then
      match ref_None n ((), ()) with
      | some (((x7, x8, x9, x10, x11, _), _), _) => (
        some (((x7, x8, x9, x10, x11, ()), ()), ()))
      | none => none
    else
      if x2 then
        some (((x1, true, true, x6, x4, ()), ()), ())
      else
        some (((x1, true, false, x6, 0, ()), ()), ())
def ref_Around_H (n : Nat) : Hints := ⟨[], fun _ => [], fun _ => none, fun _ => none, fun _ => none, fun _ => 0⟩
def ref_Around_O (n : Nat) : FuncId → List FSpec := asc [(57, ⟨ref_None_ins, ref_None_outs, ref_None n⟩)]
def b59 : Code := bodyOf Tryz.f59
theorem ref_Around_ok {S : Nat → Addr} (ok : CfgOk P CC S) : ∀ n, SpecOk P CC S 59 ⟨ref_Around_ins, ref_Around_outs, ref_Around n⟩ :=
  fn_all ok (O := ref_Around_O) (H := ref_Around_H) (fn := Tryz.f59) (body := b59) (by kernel_rfl) (by kernel_rfl) (by kernel_rfl) (by decide) (by kernel_rfl)
    (fun x => by kernel_rfl) (fun n => by
      rintro ⟨⟨⟨x1, x2, x3, x4, x5, ⟨⟩⟩, x6, ⟨⟩⟩, ⟨⟩⟩
      kernel_rfl)
    (fun n => obl_of (by kernel_rfl) (by kernel_rfl) (lz) (cn (cn (cn (cn (cn (cn (cn (cn (cz) (by kernel_rfl)) (by kernel_rfl)) (by kernel_rfl)) (by kernel_rfl)) (by kernel_rfl)) (by kernel_rfl)) (by kernel_rfl)) (by kernel_rfl)) (hn fun _ => rfl))
    (fun n ih => asc_cons (ref_None_ok ok n) <| asc_nil)
/-! ### pendulum/pendulumsee.Fault -/
abbrev pendulumsee_Fault_ins : Sh := ⟨[(.one (.val .err))], []⟩
abbrev pendulumsee_Fault_outs : List Sh := [⟨[(.agg [(.val (.int .i64)), (.val .bool), (.val .bool), (.val (.int .i64)), (.val (.int .i64))])], []⟩]
def pendulumsee_Fault : Nat → pendulumsee_Fault_ins.T → Option (OutsT pendulumsee_Fault_outs)
  | 0, _ => none
  | n + 1, ((x1, _), _) =>
    if errNil x1 then
      match ref_None n ((), ()) with
      | some (((x2, x3, x4, x5, x6, _), _), _) => (
        some (((x2, x3, x4, x5, x6, ()), ()), ()))
      | none => none
    else
      if !(errIsAt x1) then
        match pendulumsee_sentinel n ((x1, ()), ()) with
        | some ((x7, _), _) => (
          match ref_Bare n ((x7, ()), ()) with
          | some (((x8, x9, x10, x11, x12, _), _), _) => (
            some (((x8, x9, x10, x11, x12, ()), ()), ()))
          | none => none)
        | none => none
      else
        if Option.isNone (errAt x1) then
          match ref_Bare n (((-1), ()), ()) with
          | some (((x14, x15, x16, x17, x18, _), _), _) => (
            some (((x14, x15, x16, x17, x18, ()), ()), ()))
          | none => none
        else
          match errAt x1 with
          | some x13 => (
            if errNil x13.2 then
              match ref_Bare n (((-1), ()), ()) with
              | some (((x19, x20, x21, x22, x23, _), _), _) => (
                some (((x19, x20, x21, x22, x23, ()), ()), ()))
              | none => none
            else
              match errAt x1 with
              | some x24 => (
                if errIsAt x24.2 then
                  if Option.isNone (errAt x24.2) then
                    match ref_Bare n (((-1), ()), ()) with
                    | some (((x26, x27, x28, x29, x30, _), _), _) => (
                      some (((x26, x27, x28, x29, x30, ()), ()), ()))
                    | none => none
                  else
                    match errAt x24.2 with
                    | some x25 => (
                      if errNil x25.2 then
                        match ref_Bare n (((-1), ()), ()) with
                        | some (((x31, x32, x33, x34, x35, _), _), _) => (
                          some (((x31, x32, x33, x34, x35, ()), ()), ()))
                        | none => none
                      else
                        match errAt x24.2 with
                        | some x36 => (
                          match pendulumsee_sentinel n ((x36.2, ()), ()) with
                          | some ((x37, _), _) => (
                            match errAt x24.2 with
                            | some x38 => (
                              match ref_Placed n ((x37, x38.1, ()), ()) with
                              | some (((x39, x40, x41, x42, x43, _), _), _) => (
                                match errAt x1 with
                                | some x44 => (
                                  match ref_Around n (((x39, x40, x41, x42, x43, ()), x44.1, ()), ()) with
                                  | some (((x45, x46, x47, x48, x49, _), _), _) => (
                                    some (((x45, x46, x47, x48, x49, ()), ()), ()))
                                  | none => none)
                                | none => none)
                              | none => none)
                            | none => none)
                          | none => none)
                        | none => none)
                    | none => none
                else
                  match errAt x1 with
                  | some x50 => (
                    match pendulumsee_sentinel n ((x50.2, ()), ()) with
                    | some ((x51, _), _) => (
                      match errAt x1 with
                      | some x52 => (
                        match ref_Placed n ((x51, x52.1, ()), ()) with
                        | some (((x53, x54, x55, x56, x57, _), _), _) => (
                          some (((x53, x54, x55, x56, x57, ()), ()), ()))
                        | none => none)
                      | none => none)
                    | none => none)
                  | none => none)
              | none => none)
          | none => none
def pendulumsee_Fault_H (n : Nat) : Hints := ⟨[], fun _ => [], fun _ => none, fun _ => none, fun _ => none, fun _ => 0⟩
def pendulumsee_Fault_O (n : Nat) : FuncId → List FSpec := asc [(26, ⟨ref_Bare_ins, ref_Bare_outs, ref_Bare n⟩), (57, ⟨ref_None_ins, ref_None_outs, ref_None n⟩), (58, ⟨pendulumsee_sentinel_ins, pendulumsee_sentinel_outs, pendulumsee_sentinel n⟩), (59, ⟨ref_Around_ins, ref_Around_outs, ref_Around n⟩), (60, ⟨ref_Placed_ins, ref_Placed_outs, ref_Placed n⟩)]
def b42 : Code := bodyOf Tryz.f42
theorem pendulumsee_Fault_ok {S : Nat → Addr} (ok : CfgOk P CC S) : ∀ n, SpecOk P CC S 42 ⟨pendulumsee_Fault_ins, pendulumsee_Fault_outs, pendulumsee_Fault n⟩ :=
  fn_all ok (O := pendulumsee_Fault_O) (H := pendulumsee_Fault_H) (fn := Tryz.f42) (body := b42) (by kernel_rfl) (by kernel_rfl) (by kernel_rfl) (by decide) (by kernel_rfl)
    (fun x => by kernel_rfl) (fun n => by
      rintro ⟨⟨x1, ⟨⟩⟩, ⟨⟩⟩
      kernel_rfl)
    (fun n => obl_of (by kernel_rfl) (by kernel_rfl) (lz) (cn (cn (cn (cn (cn (cn (cn (cn (cn (cn (cn (cn (cn (cn (cn (cn (cn (cn (cn (cz) (by kernel_rfl)) (by kernel_rfl)) (by kernel_rfl)) (by kernel_rfl)) (by kernel_rfl)) (by kernel_rfl)) (by kernel_rfl)) (by kernel_rfl)) (by kernel_rfl)) (by kernel_rfl)) (by kernel_rfl)) (by kernel_rfl)) (by kernel_rfl)) (by kernel_rfl)) (by kernel_rfl)) (by kernel_rfl)) (by kernel_rfl)) (by kernel_rfl)) (by kernel_rfl)) (hn fun _ => rfl))
    (fun n ih => asc_cons (ref_Bare_ok ok n) <| asc_cons (ref_None_ok ok n) <| asc_cons (pendulumsee_sentinel_ok ok n) <| asc_cons (ref_Around_ok ok n) <| asc_cons (ref_Placed_ok ok n) <| asc_nil)
/-! ### pendulum/pendulumref.SameFault -/
abbrev ref_SameFault_ins : Sh := ⟨[(.agg [(.val (.int .i64)), (.val .bool), (.val .bool), (.val (.int .i64)), (.val (.int .i64))]), (.agg [(.val (.int .i64)), (.val .bool), (.val .bool), (.val (.int .i64)), (.val (.int .i64))])], []⟩
abbrev ref_SameFault_outs : List Sh := [⟨[(.one (.val .bool))], []⟩]
def ref_SameFault : Nat → ref_SameFault_ins.T → Option (OutsT ref_SameFault_outs)
  | 0, _ => none
  | n + 1, (((x1, x2, x3, x4, x5, _), (x6, x7, x8, x9, x10, _), _), _) =>
    if x1 == x6 then
      if x2 == x7 then
        if x4 == x9 then
          if x3 == x8 then
            some ((x5 == x10, ()), ())
          else
            some ((false, ()), ())
        else
          some ((false, ()), ())
      else
        some ((false, ()), ())
    else
      some ((false, ()), ())
def ref_SameFault_H (n : Nat) : Hints := ⟨[], fun _ => [], fun _ => none, fun _ => none, fun _ => none, fun _ => 0⟩
def ref_SameFault_O (n : Nat) : FuncId → List FSpec := asc []
def b41 : Code := bodyOf Tryz.f41
theorem ref_SameFault_ok {S : Nat → Addr} (ok : CfgOk P CC S) : ∀ n, SpecOk P CC S 41 ⟨ref_SameFault_ins, ref_SameFault_outs, ref_SameFault n⟩ :=
  fn_all ok (O := ref_SameFault_O) (H := ref_SameFault_H) (fn := Tryz.f41) (body := b41) (by kernel_rfl) (by kernel_rfl) (by kernel_rfl) (by decide) (by kernel_rfl)
    (fun x => by kernel_rfl) (fun n => by
      rintro ⟨⟨⟨x1, x2, x3, x4, x5, ⟨⟩⟩, ⟨x6, x7, x8, x9, x10, ⟨⟩⟩, ⟨⟩⟩, ⟨⟩⟩
      kernel_rfl)
    (fun n => obl_of (by kernel_rfl) (by kernel_rfl) (lz) (cn (cn (cz) (by kernel_rfl)) (by kernel_rfl)) (hn fun _ => rfl))
    (fun n ih => asc_nil)
/-! ### pendulum/pendulumsee.Same -/
abbrev pendulumsee_Same_ins : Sh := ⟨[(.one (.val .err)), (.agg [(.val (.int .i64)), (.val .bool), (.val .bool), (.val (.int .i64)), (.val (.int .i64))])], []⟩
abbrev pendulumsee_Same_outs : List Sh := [⟨[(.one (.val .bool))], []⟩]
def pendulumsee_Same : Nat → pendulumsee_Same_ins.T → Option (OutsT pendulumsee_Same_outs)
  | 0, _ => none
  | n + 1, ((x1, (x2, x3, x4, x5, x6, _), _), _) =>
    match pendulumsee_Fault n ((x1, ()), ()) with
    | some (((x7, x8, x9, x10, x11, _), _), _) => (
      match ref_SameFault n (((x7, x8, x9, x10, x11, ()), (x2, x3, x4, x5, x6, ()), ()), ()) with
      | some ((x12, _), _) => (
        some ((x12, ()), ()))
      | none => none)
    | none => none
def pendulumsee_Same_H (n : Nat) : Hints := ⟨[], fun _ => [], fun _ => none, fun _ => none, fun _ => none, fun _ => 0⟩
def pendulumsee_Same_O (n : Nat) : FuncId → List FSpec := asc [(41, ⟨ref_SameFault_ins, ref_SameFault_outs, ref_SameFault n⟩), (42, ⟨pendulumsee_Fault_ins, pendulumsee_Fault_outs, pendulumsee_Fault n⟩)]
def b25 : Code := bodyOf Tryz.f25
theorem pendulumsee_Same_ok {S : Nat → Addr} (ok : CfgOk P CC S) : ∀ n, SpecOk P CC S 25 ⟨pendulumsee_Same_ins, pendulumsee_Same_outs, pendulumsee_Same n⟩ :=
  fn_all ok (O := pendulumsee_Same_O) (H := pendulumsee_Same_H) (fn := Tryz.f25) (body := b25) (by kernel_rfl) (by kernel_rfl) (by kernel_rfl) (by decide) (by kernel_rfl)
    (fun x => by kernel_rfl) (fun n => by
      rintro ⟨⟨x1, ⟨x2, x3, x4, x5, x6, ⟨⟩⟩, ⟨⟩⟩, ⟨⟩⟩
      kernel_rfl)
    (fun n => obl_of (by kernel_rfl) (by kernel_rfl) (lz) (cn (cn (cz) (by kernel_rfl)) (by kernel_rfl)) (hn fun _ => rfl))
    (fun n ih => asc_cons (ref_SameFault_ok ok n) <| asc_cons (pendulumsee_Fault_ok ok n) <| asc_nil)
/-! ### pendulum/pendulumsee.Is -/
abbrev pendulumsee_Is_ins : Sh := ⟨[(.one (.val .err)), (.one (.val (.int .i64)))], []⟩
abbrev pendulumsee_Is_outs : List Sh := [⟨[(.one (.val .bool))], []⟩]
def pendulumsee_Is : Nat → pendulumsee_Is_ins.T → Option (OutsT pendulumsee_Is_outs)
  | 0, _ => none
  | n + 1, ((x1, x2, _), _) =>
    match ref_Bare n ((x2, ()), ()) with
    | some (((x3, x4, x5, x6, x7, _), _), _) => (
      match pendulumsee_Same n ((x1, (x3, x4, x5, x6, x7, ()), ()), ()) with
      | some ((x8, _), _) => (
        some ((x8, ()), ()))
      | none => none)
    | none => none
def pendulumsee_Is_H (n : Nat) : Hints := ⟨[], fun _ => [], fun _ => none, fun _ => none, fun _ => none, fun _ => 0⟩
def pendulumsee_Is_O (n : Nat) : FuncId → List FSpec := asc [(25, ⟨pendulumsee_Same_ins, pendulumsee_Same_outs, pendulumsee_Same n⟩), (26, ⟨ref_Bare_ins, ref_Bare_outs, ref_Bare n⟩)]
def b12 : Code := bodyOf Tryz.f12
theorem pendulumsee_Is_ok {S : Nat → Addr} (ok : CfgOk P CC S) : ∀ n, SpecOk P CC S 12 ⟨pendulumsee_Is_ins, pendulumsee_Is_outs, pendulumsee_Is n⟩ :=
  fn_all ok (O := pendulumsee_Is_O) (H := pendulumsee_Is_H) (fn := Tryz.f12) (body := b12) (by kernel_rfl) (by kernel_rfl) (by kernel_rfl) (by decide) (by kernel_rfl)
    (fun x => by kernel_rfl) (fun n => by
      rintro ⟨⟨x1, x2, ⟨⟩⟩, ⟨⟩⟩
      kernel_rfl)
    (fun n => obl_of (by kernel_rfl) (by kernel_rfl) (lz) (cn (cn (cz) (by kernel_rfl)) (by kernel_rfl)) (hn fun _ => rfl))
    (fun n ih => asc_cons (pendulumsee_Same_ok ok n) <| asc_cons (ref_Bare_ok ok n) <| asc_nil)
/-! ### pendulum/pendulumlaw4.JourMany -/
abbrev law4_JourMany_ins : Sh := ⟨[(.one (.val (.int .i64)))], []⟩
abbrev law4_JourMany_outs : List Sh := [⟨[(.one (.val .bool))], []⟩]
abbrev law4_JourMany_l10_h : Sh := ⟨[(.one (.val (.int .i64))), (.one (.val .bool)), (.one (.ptr 0 0)), (.one (.arr 1)), (.one (.val (.int .i64)))], [(.obj 56 [(.ptr 2 0), (.map 3), (.val (.int .i64)), (.val (.int .i64)), (.val (.int .i64))]), (.arr 31 ty0), (.obj 65 [(.val (.int .i64)), (.map 4), (.map 5), (.val (.int .i64)), (.val (.int .i64)), (.val .bool)]), (.map .str .str false), (.map (.int .i64) ty2 false), (.map (.int .i64) ty2 false)]⟩
abbrev law4_JourMany_l10_o : List Out := [⟨(.exit 0), [0, 3, 4, 6], ⟨[(.one (.val (.int .i64))), (.one (.val .bool)), (.one (.ptr 0 0)), (.one (.arr 1))], [(.obj 56 [(.ptr 2 0), (.map 3), (.val (.int .i64)), (.val (.int .i64)), (.val (.int .i64))]), (.arr 31 ty0), (.obj 65 [(.val (.int .i64)), (.map 4), (.map 5), (.val (.int .i64)), (.val (.int .i64)), (.val .bool)]), (.map .str .str false), (.map (.int .i64) ty2 false), (.map (.int .i64) ty2 false)]⟩⟩]
def law4_JourMany_l10 (n : Nat) : Nat → law4_JourMany_l10_h.T → Option (OutT law4_JourMany_l10_o)
  | 0, _ => none
  | k + 1, ((x1, x2, _, _, x3, _), ((_, _, x4, x5, x6, _), l7, (x8, _, _, x9, x10, x11, _), m12, m13, m14, _)) =>
    if decide (x3 < x1) then
      match world_Num n ((x3, ()), ()) with
      | some ((x15, _), _) => (
        if (⟨#[107, 101, 121]⟩ : ByteArray).size + x15.size ≤ 9223372036854775807 then (
          if (l7.length + ([((⟨#[107, 101, 121]⟩ : ByteArray) ++ x15, ((⟨#[118]⟩ : ByteArray), false))] : List ty0.T).length) * 40 ≤ 140737488355328 then (
            let v16 : Int := IntKind.i64.wrap (x3 + 1)
            law4_JourMany_l10 n k ((x1, x2, (), (), v16, ()), (((), (), x4, x5, x6, ()), l7 ++ [((⟨#[107, 101, 121]⟩ : ByteArray) ++ x15, ((⟨#[118]⟩ : ByteArray), false))], (x8, (), (), x9, x10, x11, ()), m12, m13, m14, ()))) else none) else none)
      | none => none
    else
      some (.inl ((x1, x2, (), (), ()), (((), (), x4, x5, x6, ()), l7, (x8, (), (), x9, x10, x11, ()), m12, m13, m14, ())))
def law4_JourMany : Nat → law4_JourMany_ins.T → Option (OutsT law4_JourMany_outs)
  | 0, _ => none
  | n + 1, ((x1, _), _) =>
    match law4_first n ((), ()) with
    | some ((x2, _), _) => (
      if !x2 then
        some ((false, ()), ())
      else
        match world_Number n ((x1, 300, ()), ()) with
        | some ((x3, _), _) => (
          let v4 : Int := IntKind.i64.wrap (x3 + 1)
          match law4_opened n ((8192, ()), ()) with
          | some (.inl ((((_, _), (_, _), _), _), ((_, _, x5, x6, x7, _), (x8, _, _, x9, x10, x11, _), m12, m13, m14, _))) => (
            match law4_JourMany_l10 n n ((v4, x2, (), (), 0, ()), (((), (), x5, x6, x7, ()), [], (x8, (), (), x9, x10, x11, ()), m12, m13, m14, ())) with
            | some (.inl ((x21, x22, _, _, _), ((_, _, x23, x24, x25, _), l26, (x27, _, _, x28, x29, x30, _), m31, m32, m33, _))) => (
              match jour_Store_Commit n (((), (), ()), (((), (), x23, x24, x25, ()), l26, (x27, (), (), x28, x29, x30, ()), m31, m32, m33, ())) with
              | some (.inl ((x34, _), ((_, _, x35, x36, x37, _), l38, (x39, _, _, x40, x41, x42, _), m43, m44, m45, _))) => (
                if decide (x21 > 256) then
                  if x22 then
                    match pendulumsee_Is n ((x34, 103, ()), ()) with
                    | some ((x59, _), _) => (
                      if x59 then
                        match jour_Store_Keys n (((), ()), (((), (), x35, x36, x37, ()), (x39, (), (), x40, x41, x42, ()), m43, m44, m45, ())) with
                        | some ((_, _), ((_, _, x60, x61, x62, _), (x63, _, _, x64, x65, x66, _), m67, m68, m69, l70, _)) => (
                          some (((l70.length : Int) == 0, ()), ()))
                        | none => none
                      else
                        some ((false, ()), ()))
                    | none => none
                  else
                    some ((false, ()), ())
                else
                  match jour_Store_Commit n (((), (), ()), (((), (), x35, x36, x37, ()), [((⟨#[109, 111, 114, 101]⟩ : ByteArray), ((⟨#[]⟩ : ByteArray), false))], (x39, (), (), x40, x41, x42, ()), m43, m44, m45, ())) with
                  | some (.inl ((x71, _), ((_, _, x72, x73, x74, _), l75, (x76, _, _, x77, x78, x79, _), m80, m81, m82, _))) => (
                    if !(errNil x34) then
                      some ((false, ()), ())
                    else
                      if !((errNil x71) == (decide (x21 < 256))) then
                        some ((false, ()), ())
                      else
                        if x22 then
                          match jour_Store_Commit n (((), (), ()), (((), (), x72, x73, x74, ()), [((⟨#[107, 101, 121, 48]⟩ : ByteArray), ((⟨#[]⟩ : ByteArray), true)), ((⟨#[109, 111, 114, 101]⟩ : ByteArray), ((⟨#[119]⟩ : ByteArray), false))], (x76, (), (), x77, x78, x79, ()), m80, m81, m82, ())) with
                          | some (.inl ((x96, _), ((_, _, x97, x98, x99, _), l100, (x101, _, _, x102, x103, x104, _), m105, m106, m107, _))) => (
                            some ((errNil x96, ()), ()))
                          | some (.inr (((x108, _), ((_, _, x109, x110, x111, _), l112, (x113, _, _, x114, x115, x116, _), m117, m118, m119, m120, _)))) => (
                            some ((errNil x108, ()), ()))
                          | none => none
                        else
                          some ((false, ()), ()))
                  | some (.inr (((x83, _), ((_, _, x84, x85, x86, _), l87, (x88, _, _, x89, x90, x91, _), m92, m93, m94, m95, _)))) => (
                    if !(errNil x34) then
                      some ((false, ()), ())
                    else
                      if !((errNil x83) == (decide (x21 < 256))) then
                        some ((false, ()), ())
                      else
                        if x22 then
                          match jour_Store_Commit n (((), (), ()), (((), (), x84, x85, x86, ()), [((⟨#[107, 101, 121, 48]⟩ : ByteArray), ((⟨#[]⟩ : ByteArray), true)), ((⟨#[109, 111, 114, 101]⟩ : ByteArray), ((⟨#[119]⟩ : ByteArray), false))], (x88, (), (), x89, x90, x91, ()), m95, m93, m94, ())) with
                          | some (.inl ((x121, _), ((_, _, x122, x123, x124, _), l125, (x126, _, _, x127, x128, x129, _), m130, m131, m132, _))) => (
                            some ((errNil x121, ()), ()))
                          | some (.inr (((x133, _), ((_, _, x134, x135, x136, _), l137, (x138, _, _, x139, x140, x141, _), m142, m143, m144, m145, _)))) => (
                            some ((errNil x133, ()), ()))
                          | none => none
                        else
                          some ((false, ()), ()))
                  | none => none)
              | some (.inr (((x46, _), ((_, _, x47, x48, x49, _), l50, (x51, _, _, x52, x53, x54, _), m55, m56, m57, m58, _)))) => (
                if decide (x21 > 256) then
                  if x22 then
                    match pendulumsee_Is n ((x46, 103, ()), ()) with
                    | some ((x146, _), _) => (
                      if x146 then
                        match jour_Store_Keys n (((), ()), (((), (), x47, x48, x49, ()), (x51, (), (), x52, x53, x54, ()), m58, m56, m57, ())) with
                        | some ((_, _), ((_, _, x147, x148, x149, _), (x150, _, _, x151, x152, x153, _), m154, m155, m156, l157, _)) => (
                          some (((l157.length : Int) == 0, ()), ()))
                        | none => none
                      else
                        some ((false, ()), ()))
                    | none => none
                  else
                    some ((false, ()), ())
                else
                  match jour_Store_Commit n (((), (), ()), (((), (), x47, x48, x49, ()), [((⟨#[109, 111, 114, 101]⟩ : ByteArray), ((⟨#[]⟩ : ByteArray), false))], (x51, (), (), x52, x53, x54, ()), m58, m56, m57, ())) with
                  | some (.inl ((x158, _), ((_, _, x159, x160, x161, _), l162, (x163, _, _, x164, x165, x166, _), m167, m168, m169, _))) => (
                    if !(errNil x46) then
                      some ((false, ()), ())
                    else
                      if !((errNil x158) == (decide (x21 < 256))) then
                        some ((false, ()), ())
                      else
                        if x22 then
                          match jour_Store_Commit n (((), (), ()), (((), (), x159, x160, x161, ()), [((⟨#[107, 101, 121, 48]⟩ : ByteArray), ((⟨#[]⟩ : ByteArray), true)), ((⟨#[109, 111, 114, 101]⟩ : ByteArray), ((⟨#[119]⟩ : ByteArray), false))], (x163, (), (), x164, x165, x166, ()), m167, m168, m169, ())) with
                          | some (.inl ((x183, _), ((_, _, x184, x185, x186, _), l187, (x188, _, _, x189, x190, x191, _), m192, m193, m194, _))) => (
                            some ((errNil x183, ()), ()))
                          | some (.inr (((x195, _), ((_, _, x196, x197, x198, _), l199, (x200, _, _, x201, x202, x203, _), m204, m205, m206, m207, _)))) => (
                            some ((errNil x195, ()), ()))
                          | none => none
                        else
                          some ((false, ()), ()))
                  | some (.inr (((x170, _), ((_, _, x171, x172, x173, _), l174, (x175, _, _, x176, x177, x178, _), m179, m180, m181, m182, _)))) => (
                    if !(errNil x46) then
                      some ((false, ()), ())
                    else
                      if !((errNil x170) == (decide (x21 < 256))) then
                        some ((false, ()), ())
                      else
                        if x22 then
                          match jour_Store_Commit n (((), (), ()), (((), (), x171, x172, x173, ()), [((⟨#[107, 101, 121, 48]⟩ : ByteArray), ((⟨#[]⟩ : ByteArray), true)), ((⟨#[109, 111, 114, 101]⟩ : ByteArray), ((⟨#[119]⟩ : ByteArray), false))], (x175, (), (), x176, x177, x178, ()), m182, m180, m181, ())) with
                          | some (.inl ((x208, _), ((_, _, x209, x210, x211, _), l212, (x213, _, _, x214, x215, x216, _), m217, m218, m219, _))) => (
                            some ((errNil x208, ()), ()))
                          | some (.inr (((x220, _), ((_, _, x221, x222, x223, _), l224, (x225, _, _, x226, x227, x228, _), m229, m230, m231, m232, _)))) => (
                            some ((errNil x220, ()), ()))
                          | none => none
                        else
                          some ((false, ()), ()))
                  | none => none)
              | none => none)
            | some (.inr (_)) => none
            | none => none)
          | some (.inr (.inl ((((_, _), (_, _), _), _), ((x15, _, _, x16, x17, x18, _), m19, m20, _)))) => (
            some ((false, ()), ()))
          | some (.inr (.inr (((((_, _), (_, _), _), _), _)))) => (
            some ((false, ()), ()))
          | none => none)
        | none => none)
    | none => none
def law4_JourMany_H (n : Nat) : Hints := ⟨[], fun _ => [], fun k => match k with | 10 => some ⟨[0, 3, 4, 6, 7], law4_JourMany_l10_h, law4_JourMany_l10_o, law4_JourMany_l10 n⟩ | _ => none, fun _ => none, fun _ => none, fun _ => 0⟩
def law4_JourMany_O (n : Nat) : FuncId → List FSpec := asc [(6, ⟨law4_first_ins, law4_first_outs, law4_first n⟩), (7, ⟨law4_opened_ins, law4_opened_outs, law4_opened n⟩), (8, ⟨jour_Store_Commit_ins, jour_Store_Commit_outs, jour_Store_Commit n⟩), (10, ⟨world_Number_ins, world_Number_outs, world_Number n⟩), (12, ⟨pendulumsee_Is_ins, pendulumsee_Is_outs, pendulumsee_Is n⟩), (13, ⟨jour_Store_Keys_ins, jour_Store_Keys_outs, jour_Store_Keys n⟩), (14, ⟨world_Num_ins, world_Num_outs, world_Num n⟩)]
def b4 : Code := bodyOf Tryz.f4
theorem law4_JourMany_l10_k0 (n : Nat) : LoopOk P CC (law4_JourMany_O n) n 0 72 (law4_JourMany_H n) ⟨[0, 3, 4, 6, 7], law4_JourMany_l10_h, law4_JourMany_l10_o, law4_JourMany_l10 n⟩ ((loopsOf b4).getD 0 .skip) := by
  refine ⟨fun _ => by kernel_rfl, ?_⟩
  rintro k ⟨⟨x1, x2, ⟨⟩, ⟨⟩, x3, ⟨⟩⟩, ⟨⟨⟨⟩, ⟨⟩, x4, x5, x6, ⟨⟩⟩, x7, ⟨x8, ⟨⟩, ⟨⟩, x9, x10, x11, ⟨⟩⟩, x12, x13, x14, ⟨⟩⟩⟩
  kernel_rfl
theorem law4_JourMany_ok {S : Nat → Addr} (ok : CfgOk P CC S) : ∀ n, SpecOk P CC S 4 ⟨law4_JourMany_ins, law4_JourMany_outs, law4_JourMany n⟩ :=
  fn_all ok (O := law4_JourMany_O) (H := law4_JourMany_H) (fn := Tryz.f4) (body := b4) (by kernel_rfl) (by kernel_rfl) (by kernel_rfl) (by decide) (by kernel_rfl)
    (fun x => by kernel_rfl) (fun n => by
      rintro ⟨⟨x1, ⟨⟩⟩, ⟨⟩⟩
      kernel_rfl)
    (fun n => obl_of (by kernel_rfl) (by kernel_rfl) (ls (lz) (by kernel_rfl) (law4_JourMany_l10_k0 n)) (cn (cn (cn (cn (cn (cn (cn (cn (cn (cn (cn (cn (cn (cn (cn (cn (cn (cn (cn (cn (cn (cn (cn (cn (cn (cz) (by kernel_rfl)) (by kernel_rfl)) (by kernel_rfl)) (by kernel_rfl)) (by kernel_rfl)) (by kernel_rfl)) (by kernel_rfl)) (by kernel_rfl)) (by kernel_rfl)) (by kernel_rfl)) (by kernel_rfl)) (by kernel_rfl)) (by kernel_rfl)) (by kernel_rfl)) (by kernel_rfl)) (by kernel_rfl)) (by kernel_rfl)) (by kernel_rfl)) (by kernel_rfl)) (by kernel_rfl)) (by kernel_rfl)) (by kernel_rfl)) (by kernel_rfl)) (by kernel_rfl)) (by kernel_rfl)) (hn fun _ => rfl))
    (fun n ih => asc_cons (law4_first_ok ok n) <| asc_cons (law4_opened_ok ok n) <| asc_cons (jour_Store_Commit_ok ok n) <| asc_cons (world_Number_ok ok n) <| asc_cons (pendulumsee_Is_ok ok n) <| asc_cons (jour_Store_Keys_ok ok n) <| asc_cons (world_Num_ok ok n) <| asc_nil)
end
end Go.Proofs.YthliipenkikefaaGreatDoor.Cm

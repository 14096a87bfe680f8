/- Printed by cmtext.py: the code as plain functions. -/
import Derived.Test.YthliipenkikefaaGreatDoorCJourLast0
namespace Go.Proofs.YthliipenkikefaaGreatDoor.Cm
open Go
noncomputable section
set_option linter.unusedVariables false
set_option maxRecDepth 100000
/-! ### (*pendulum/jour.Store).Commit -/
abbrev jour_Store_Commit_ins : Sh := ⟨[(.one (.ptr 0 0)), (.one (.arr 1))], [(.obj 56 [(.ptr 2 0), (.map 3), (.val (.int .i64)), (.val (.int .i64)), (.val (.int .i64))]), (.arr 31 ty0), (.obj 65 [(.val (.int .i64)), (.map 4), (.map 5), (.val (.int .i64)), (.val (.int .i64)), (.val .bool)]), (.map .str .str false), (.map (.int .i64) ty2 false), (.map (.int .i64) ty2 false)]⟩
abbrev jour_Store_Commit_outs : List Sh := [⟨[(.one (.val .err))], [(.obj 56 [(.ptr 2 0), (.map 3), (.val (.int .i64)), (.val (.int .i64)), (.val (.int .i64))]), (.arr 31 ty0), (.obj 65 [(.val (.int .i64)), (.map 4), (.map 5), (.val (.int .i64)), (.val (.int .i64)), (.val .bool)]), (.map .str .str false), (.map (.int .i64) ty2 false), (.map (.int .i64) ty2 false)]⟩, ⟨[(.one (.val .err))], [(.obj 56 [(.ptr 2 0), (.map 6), (.val (.int .i64)), (.val (.int .i64)), (.val (.int .i64))]), (.arr 31 ty0), (.obj 65 [(.val (.int .i64)), (.map 4), (.map 5), (.val (.int .i64)), (.val (.int .i64)), (.val .bool)]), (.map .str .str false), (.map (.int .i64) ty2 false), (.map (.int .i64) ty2 false), (.map .str .str false)]⟩]
def jour_Store_Commit : Nat → jour_Store_Commit_ins.T → Option (OutsT jour_Store_Commit_outs)
  | 0, _ => none
  | n + 1, ((_, _, _), ((_, _, x1, x2, x3, _), l4, (x5, _, _, x6, x7, x8, _), m9, m10, m11, _)) =>
    match jour_Store_fits n (((), (), ()), (((), (), x1, x2, x3, ()), l4, (x5, (), (), x6, x7, x8, ()), m9, m10, m11, ())) with
    | some (.inl ((((_, _), (x12, _), _), _), ((_, _, x13, x14, x15, _), l16, (x17, _, _, x18, x19, x20, _), m21, m22, m23, m24, _))) => (
      if !(errNil x12) then
        some (.inl ((x12, ()), (((), (), x13, x14, x15, ()), l16, (x17, (), (), x18, x19, x20, ()), m21, m22, m23, ())))
      else
        match maps_Equal_19 n (((), (), ()), (m24, m21, ())) with
        | some ((x37, _), (m38, m39, _)) => (
          if x37 then
            some (.inl ((ErrV.nil, ()), (((), (), x13, x14, x15, ()), l16, (x17, (), (), x18, x19, x20, ()), m39, m22, m23, ())))
          else
            match jour_bytes n ((1, (), ()), (l16, ())) with
            | some ((_, _), (l40, l41, _)) => (
              if decide (x13 ≥ 0) then
                match jour_bounds n (((), x13, ()), ((x17, (), (), x18, x19, x20, ()), m22, m23, ())) with
                | some ((((x42, _), (x43, _), _), _), ((x44, _, _, x45, x46, x47, _), m48, m49, _)) => (
                  match jour_sectors n (((), ()), (l41, ())) with
                  | some ((x50, _), (l51, _)) => (
                    let v52 : Int := IntKind.i64.wrap (x43 - x14)
                    if decide (x50 ≤ v52) then
                      match jour_Store_write n (((), x14, l51, ()), (((), (), x13, x14, x15, ()), (x44, (), (), x45, x46, x47, ()), m39, m48, m49, ())) with
                      | some ((x53, _), ((_, _, x54, x55, x56, _), (x57, _, _, x58, x59, x60, _), m61, m62, m63, _)) => (
                        if !(errNil x53) then
                          some (.inl ((x53, ()), (((), (), x54, x55, x56, ()), l40, (x57, (), (), x58, x59, x60, ()), m61, m62, m63, ())))
                        else
                          match jour_sectors_2 n ((l51, ()), ()) with
                          | some ((x64, _), _) => (
                            let v65 : Int := IntKind.i64.wrap (x55 + x64)
                            some (.inr (((ErrV.nil, ()), (((), (), x54, v65, x56, ()), l40, (x57, (), (), x58, x59, x60, ()), m61, m62, m63, m38, ())))))
                          | none => none)
                      | none => none
                    else
                      match jour_Store_all n (((), (), ()), (((), (), x13, x14, x15, ()), m38, (x44, (), (), x45, x46, x47, ()), m39, m48, m49, ())) with
                      | some (.inl ((x66, _), ((_, _, x67, x68, x69, _), m70, (x71, _, _, x72, x73, x74, _), m75, m76, m77, _))) => (
                        some (.inl ((x66, ()), (((), (), x67, x68, x69, ()), l40, (x71, (), (), x72, x73, x74, ()), m75, m76, m77, ()))))
                      | some (.inr (((x78, _), ((_, _, x79, x80, x81, _), m82, (x83, _, _, x84, x85, x86, _), m87, m88, m89, _)))) => (
                        some (.inr (((x78, ()), (((), (), x79, x80, x81, ()), l40, (x83, (), (), x84, x85, x86, ()), m87, m88, m89, m82, ())))))
                      | none => none)
                  | none => none)
                | none => none
              else
                match jour_Store_all n (((), (), ()), (((), (), x13, x14, x15, ()), m38, (x17, (), (), x18, x19, x20, ()), m39, m22, m23, ())) with
                | some (.inl ((x90, _), ((_, _, x91, x92, x93, _), m94, (x95, _, _, x96, x97, x98, _), m99, m100, m101, _))) => (
                  some (.inl ((x90, ()), (((), (), x91, x92, x93, ()), l40, (x95, (), (), x96, x97, x98, ()), m99, m100, m101, ()))))
                | some (.inr (((x102, _), ((_, _, x103, x104, x105, _), m106, (x107, _, _, x108, x109, x110, _), m111, m112, m113, _)))) => (
                  some (.inr (((x102, ()), (((), (), x103, x104, x105, ()), l40, (x107, (), (), x108, x109, x110, ()), m111, m112, m113, m106, ())))))
                | none => none)
            | none => none)
        | none => none)
    | some (.inr (((((_, _), (x25, _), _), _), ((_, _, x26, x27, x28, _), l29, (x30, _, _, x31, x32, x33, _), m34, m35, m36, _)))) => (
      if !(errNil x25) then (
        some (.inl ((x25, ()), (((), (), x26, x27, x28, ()), l29, (x30, (), (), x31, x32, x33, ()), m34, m35, m36, ())))) else none)
    | none => none
def jour_Store_Commit_H (n : Nat) : Hints := ⟨[], fun _ => [], fun _ => none, fun _ => none, fun _ => none, fun _ => 0⟩
def jour_Store_Commit_O (n : Nat) : FuncId → List FSpec := asc [(18, ⟨jour_Store_fits_ins, jour_Store_fits_outs, jour_Store_fits n⟩), (19, ⟨maps_Equal_19_ins, maps_Equal_19_outs, maps_Equal_19 n⟩), (20, ⟨jour_bytes_ins, jour_bytes_outs, jour_bytes n⟩), (21, ⟨jour_bounds_ins, jour_bounds_outs, jour_bounds n⟩), (22, ⟨jour_sectors_ins, jour_sectors_outs, jour_sectors n⟩), (22, ⟨jour_sectors_2_ins, jour_sectors_2_outs, jour_sectors_2 n⟩), (23, ⟨jour_Store_write_ins, jour_Store_write_outs, jour_Store_write n⟩), (24, ⟨jour_Store_all_ins, jour_Store_all_outs, jour_Store_all n⟩)]
def b8 : Code := bodyOf Tryz.f8
theorem jour_Store_Commit_ok {S : Nat → Addr} (ok : CfgOk P CC S) : ∀ n, SpecOk P CC S 8 ⟨jour_Store_Commit_ins, jour_Store_Commit_outs, jour_Store_Commit n⟩ :=
  fn_all ok (O := jour_Store_Commit_O) (H := jour_Store_Commit_H) (fn := Tryz.f8) (body := b8) (by kernel_rfl) (by kernel_rfl) (by kernel_rfl) (by decide) (by kernel_rfl)
    (fun x => by kernel_rfl) (fun n => by
      rintro ⟨⟨⟨⟩, ⟨⟩, ⟨⟩⟩, ⟨⟨⟨⟩, ⟨⟩, x1, x2, x3, ⟨⟩⟩, x4, ⟨x5, ⟨⟩, ⟨⟩, x6, x7, x8, ⟨⟩⟩, x9, x10, x11, ⟨⟩⟩⟩
      kernel_rfl)
    (fun n => obl_of (by kernel_rfl) (by kernel_rfl) (lz) (cn (cn (cn (cn (cn (cn (cn (cn (cn (cn (cn (cn (cn (cn (cn (cn (cn (cn (cn (cn (cz) (by kernel_rfl)) (by kernel_rfl)) (by kernel_rfl)) (by kernel_rfl)) (by kernel_rfl)) (by kernel_rfl)) (by kernel_rfl)) (by kernel_rfl)) (by kernel_rfl)) (by kernel_rfl)) (by kernel_rfl)) (by kernel_rfl)) (by kernel_rfl)) (by kernel_rfl)) (by kernel_rfl)) (by kernel_rfl)) (by kernel_rfl)) (by kernel_rfl)) (by kernel_rfl)) (by kernel_rfl)) (hn fun _ => rfl))
    (fun n ih => asc_cons (jour_Store_fits_ok ok n) <| asc_cons (maps_Equal_19_ok ok n) <| asc_cons (jour_bytes_ok ok n) <| asc_cons (jour_bounds_ok ok n) <| asc_cons (jour_sectors_ok ok n) <| asc_cons (jour_sectors_2_ok ok n) <| asc_cons (jour_Store_write_ok ok n) <| asc_cons (jour_Store_all_ok ok n) <| asc_nil)
/-! ### (*pendulum/jour.Store).Get -/
abbrev jour_Store_Get_ins : Sh := ⟨[(.one (.ptr 0 0)), (.one (.val .str))], [(.obj 56 [(.ptr 1 0), (.map 2), (.val (.int .i64)), (.val (.int .i64)), (.val (.int .i64))]), (.obj 65 [(.val (.int .i64)), (.map 3), (.map 4), (.val (.int .i64)), (.val (.int .i64)), (.val .bool)]), (.map .str .str false), (.map (.int .i64) ty2 false), (.map (.int .i64) ty2 false)]⟩
abbrev jour_Store_Get_outs : List Sh := [⟨[(.tup [(false, [(.val .str)]), (false, [(.val .bool)])])], [(.obj 56 [(.ptr 1 0), (.map 2), (.val (.int .i64)), (.val (.int .i64)), (.val (.int .i64))]), (.obj 65 [(.val (.int .i64)), (.map 3), (.map 4), (.val (.int .i64)), (.val (.int .i64)), (.val .bool)]), (.map .str .str false), (.map (.int .i64) ty2 false), (.map (.int .i64) ty2 false)]⟩]
def jour_Store_Get : Nat → jour_Store_Get_ins.T → Option (OutsT jour_Store_Get_outs)
  | 0, _ => none
  | n + 1, ((_, x1, _), ((_, _, x2, x3, x4, _), (x5, _, _, x6, x7, x8, _), m9, m10, m11, _)) =>
    let v12 : ByteArray := (mfind (keyEq (.str : Ty)) x1 m9).getD (⟨#[]⟩ : ByteArray)
    some ((((v12, ()), ((mfind (keyEq (.str : Ty)) x1 m9).isSome, ()), ()), ()), (((), (), x2, x3, x4, ()), (x5, (), (), x6, x7, x8, ()), m9, m10, m11, ()))
def jour_Store_Get_H (n : Nat) : Hints := ⟨[], fun _ => [], fun _ => none, fun _ => none, fun _ => none, fun _ => 0⟩
def jour_Store_Get_O (n : Nat) : FuncId → List FSpec := asc []
def b11 : Code := bodyOf Tryz.f11
theorem jour_Store_Get_ok {S : Nat → Addr} (ok : CfgOk P CC S) : ∀ n, SpecOk P CC S 11 ⟨jour_Store_Get_ins, jour_Store_Get_outs, jour_Store_Get n⟩ :=
  fn_all ok (O := jour_Store_Get_O) (H := jour_Store_Get_H) (fn := Tryz.f11) (body := b11) (by kernel_rfl) (by kernel_rfl) (by kernel_rfl) (by decide) (by kernel_rfl)
    (fun x => by kernel_rfl) (fun n => by
      rintro ⟨⟨⟨⟩, x1, ⟨⟩⟩, ⟨⟨⟨⟩, ⟨⟩, x2, x3, x4, ⟨⟩⟩, ⟨x5, ⟨⟩, ⟨⟩, x6, x7, x8, ⟨⟩⟩, x9, x10, x11, ⟨⟩⟩⟩
      kernel_rfl)
    (fun n => obl_of (by kernel_rfl) (by kernel_rfl) (lz) (cn (cn (cn (cz) (by kernel_rfl)) (by kernel_rfl)) (by kernel_rfl)) (hn fun _ => rfl))
    (fun n ih => asc_nil)
/-! ### (*pendulum/jour.Store).Keys -/
abbrev jour_Store_Keys_ins : Sh := ⟨[(.one (.ptr 0 0))], [(.obj 56 [(.ptr 1 0), (.map 2), (.val (.int .i64)), (.val (.int .i64)), (.val (.int .i64))]), (.obj 65 [(.val (.int .i64)), (.map 3), (.map 4), (.val (.int .i64)), (.val (.int .i64)), (.val .bool)]), (.map .str .str false), (.map (.int .i64) ty2 false), (.map (.int .i64) ty2 false)]⟩
abbrev jour_Store_Keys_outs : List Sh := [⟨[(.one (.arr 5))], [(.obj 56 [(.ptr 1 0), (.map 2), (.val (.int .i64)), (.val (.int .i64)), (.val (.int .i64))]), (.obj 65 [(.val (.int .i64)), (.map 3), (.map 4), (.val (.int .i64)), (.val (.int .i64)), (.val .bool)]), (.map .str .str false), (.map (.int .i64) ty2 false), (.map (.int .i64) ty2 false), (.arr 9 .str)]⟩]
def jour_Store_Keys : Nat → jour_Store_Keys_ins.T → Option (OutsT jour_Store_Keys_outs)
  | 0, _ => none
  | n + 1, ((_, _), ((_, _, x1, x2, x3, _), (x4, _, _, x5, x6, x7, _), m8, m9, m10, _)) =>
    match maps_Keys_map_string_string_string_string n (((), ()), (m8, ())) with
    | some ((_, _), (m11, (_, _), _)) => (
      match slices_Sorted_45 n (((), ()), (((), ()), m11, ())) with
      | some ((_, _), ((_, _), m12, l13, _)) => (
        some (((), ()), (((), (), x1, x2, x3, ()), (x4, (), (), x5, x6, x7, ()), m12, m9, m10, l13, ())))
      | none => none)
    | none => none
def jour_Store_Keys_H (n : Nat) : Hints := ⟨[], fun _ => [], fun _ => none, fun _ => none, fun _ => none, fun _ => 0⟩
def jour_Store_Keys_O (n : Nat) : FuncId → List FSpec := asc [(27, ⟨slices_Sorted_45_ins, slices_Sorted_45_outs, slices_Sorted_45 n⟩), (28, ⟨maps_Keys_map_string_string_string_string_ins, maps_Keys_map_string_string_string_string_outs, maps_Keys_map_string_string_string_string n⟩)]
def b13 : Code := bodyOf Tryz.f13
theorem jour_Store_Keys_ok {S : Nat → Addr} (ok : CfgOk P CC S) : ∀ n, SpecOk P CC S 13 ⟨jour_Store_Keys_ins, jour_Store_Keys_outs, jour_Store_Keys n⟩ :=
  fn_all ok (O := jour_Store_Keys_O) (H := jour_Store_Keys_H) (fn := Tryz.f13) (body := b13) (by kernel_rfl) (by kernel_rfl) (by kernel_rfl) (by decide) (by kernel_rfl)
    (fun x => by kernel_rfl) (fun n => by
      rintro ⟨⟨⟨⟩, ⟨⟩⟩, ⟨⟨⟨⟩, ⟨⟩, x1, x2, x3, ⟨⟩⟩, ⟨x4, ⟨⟩, ⟨⟩, x5, x6, x7, ⟨⟩⟩, x8, x9, x10, ⟨⟩⟩⟩
      kernel_rfl)
    (fun n => obl_of (by kernel_rfl) (by kernel_rfl) (lz) (cn (cn (cz) (by kernel_rfl)) (by kernel_rfl)) (hn fun _ => rfl))
    (fun n ih => asc_cons (slices_Sorted_45_ok ok n) <| asc_cons (maps_Keys_map_string_string_string_string_ok ok n) <| asc_nil)
/-! ### pendulum/pendulumref.SameTexts -/
abbrev ref_SameTexts_ins : Sh := ⟨[(.one (.val ty3)), (.one (.val ty3))], []⟩
abbrev ref_SameTexts_outs : List Sh := [⟨[(.one (.val .bool))], []⟩]
abbrev ref_SameTexts_l4_h : Sh := ⟨[(.one (.val ty3)), (.one (.val ty3)), (.one (.val (.int .i64)))], []⟩
abbrev ref_SameTexts_l4_o : List Out := [⟨(.exit 0), [], ⟨[], []⟩⟩, ⟨.ret, [4], ⟨[(.one (.val .bool))], []⟩⟩]
def ref_SameTexts_l4 (n : Nat) : Nat → ref_SameTexts_l4_h.T → Option (OutT ref_SameTexts_l4_o)
  | 0, _ => none
  | k + 1, ((x1, x2, x3, _), _) =>
    if decide (x3 < (x1.length : Int)) then
      if 0 ≤ x3 ∧ x3 < (x1.length : Int) then (
        if 0 ≤ x3 ∧ x3 < (x2.length : Int) then (
          if !(strEq (rdT (.str : Ty) x1 x3) (rdT (.str : Ty) x2 x3)) then
            some (.inr (.inl ((false, ()), ())))
          else
            let v4 : Int := IntKind.i64.wrap (x3 + 1)
            ref_SameTexts_l4 n k ((x1, x2, v4, ()), ())) else none) else none
    else
      some (.inl ((), ()))
def ref_SameTexts : Nat → ref_SameTexts_ins.T → Option (OutsT ref_SameTexts_outs)
  | 0, _ => none
  | n + 1, ((x1, x2, _), _) =>
    if (x1.length : Int) != (x2.length : Int) then
      some ((false, ()), ())
    else
      match ref_SameTexts_l4 n n ((x1, x2, 0, ()), ()) with
      | some (.inl (_, _)) => (
        some ((true, ()), ()))
      | some (.inr (.inl ((x3, _), _))) => (
        some ((x3, ()), ()))
      | some (.inr (.inr (_))) => none
      | none => none
def ref_SameTexts_H (n : Nat) : Hints := ⟨[], fun _ => [], fun k => match k with | 4 => some ⟨[0, 1, 5], ref_SameTexts_l4_h, ref_SameTexts_l4_o, ref_SameTexts_l4 n⟩ | _ => none, fun _ => none, fun _ => none, fun _ => 0⟩
def ref_SameTexts_O (n : Nat) : FuncId → List FSpec := asc []
def b15 : Code := bodyOf Tryz.f15
theorem ref_SameTexts_l4_k0 (n : Nat) : LoopOk P CC (ref_SameTexts_O n) n 0 29 (ref_SameTexts_H n) ⟨[0, 1, 5], ref_SameTexts_l4_h, ref_SameTexts_l4_o, ref_SameTexts_l4 n⟩ ((loopsOf b15).getD 0 .skip) := by
  refine ⟨fun _ => by kernel_rfl, ?_⟩
  rintro k ⟨⟨x1, x2, x3, ⟨⟩⟩, ⟨⟩⟩
  kernel_rfl
theorem ref_SameTexts_ok {S : Nat → Addr} (ok : CfgOk P CC S) : ∀ n, SpecOk P CC S 15 ⟨ref_SameTexts_ins, ref_SameTexts_outs, ref_SameTexts n⟩ :=
  fn_all ok (O := ref_SameTexts_O) (H := ref_SameTexts_H) (fn := Tryz.f15) (body := b15) (by kernel_rfl) (by kernel_rfl) (by kernel_rfl) (by decide) (by kernel_rfl)
    (fun x => by kernel_rfl) (fun n => by
      rintro ⟨⟨x1, x2, ⟨⟩⟩, ⟨⟩⟩
      kernel_rfl)
    (fun n => obl_of (by kernel_rfl) (by kernel_rfl) (ls (lz) (by kernel_rfl) (ref_SameTexts_l4_k0 n)) (cn (cn (cn (cn (cn (cn (cn (cn (cn (cn (cn (cn (cn (cz) (by kernel_rfl)) (by kernel_rfl)) (by kernel_rfl)) (by kernel_rfl)) (by kernel_rfl)) (by kernel_rfl)) (by kernel_rfl)) (by kernel_rfl)) (by kernel_rfl)) (by kernel_rfl)) (by kernel_rfl)) (by kernel_rfl)) (by kernel_rfl)) (hn fun _ => rfl))
    (fun n ih => asc_nil)
/-! ### pendulum/pendulumlaw4.first -/
abbrev law4_first_ins : Sh := ⟨[], []⟩
abbrev law4_first_outs : List Sh := [⟨[(.one (.val .bool))], []⟩]
abbrev law4_first_c4_h : Sh := ⟨[(.one (.ptr 0 0))], [(.obj 56 [(.ptr 1 0), (.map 2), (.val (.int .i64)), (.val (.int .i64)), (.val (.int .i64))]), (.obj 65 [(.val (.int .i64)), (.map 3), (.map 4), (.val (.int .i64)), (.val (.int .i64)), (.val .bool)]), (.map .str .str false), (.map (.int .i64) ty2 false), (.map (.int .i64) ty2 false)]⟩
abbrev law4_first_c4_o : List Out := [⟨.normal, [1], ⟨[(.one (.ptr 0 0))], [(.obj 56 [(.ptr 1 0), (.map 2), (.val (.int .i64)), (.val (.int .i64)), (.val (.int .i64))]), (.obj 65 [(.val (.int .i64)), (.map 3), (.map 4), (.val (.int .i64)), (.val (.int .i64)), (.val .bool)]), (.map .str .str false), (.map (.int .i64) ty2 false), (.map (.int .i64) ty2 false)]⟩⟩, ⟨.ret, [0], ⟨[(.one (.val .bool))], []⟩⟩]
def law4_first_c4 (n : Nat) : law4_first_c4_h.T → Option (OutT law4_first_c4_o)
  | ((_, _), ((_, _, x1, x2, x3, _), (x4, _, _, x5, x6, x7, _), m8, m9, m10, _)) =>
    match jour_Store_Commit n (((), (), ()), (((), (), x1, x2, x3, ()), [((⟨#[97]⟩ : ByteArray), ((⟨#[49]⟩ : ByteArray), false))], (x4, (), (), x5, x6, x7, ()), m8, m9, m10, ())) with
    | some (.inl ((x11, _), ((_, _, x12, x13, x14, _), l15, (x16, _, _, x17, x18, x19, _), m20, m21, m22, _))) => (
      if !(errNil x11) then
        some (.inr (.inl ((false, ()), ())))
      else
        match jour_Store_Commit n (((), (), ()), (((), (), x12, x13, x14, ()), [((⟨#[97]⟩ : ByteArray), ((⟨#[50]⟩ : ByteArray), false)), ((⟨#[98]⟩ : ByteArray), ((⟨#[51]⟩ : ByteArray), false))], (x16, (), (), x17, x18, x19, ()), m20, m21, m22, ())) with
        | some (.inl ((x36, _), ((_, _, x37, x38, x39, _), l40, (x41, _, _, x42, x43, x44, _), m45, m46, m47, _))) => (
          if !(errNil x36) then
            some (.inr (.inl ((false, ()), ())))
          else
            some (.inl (((), ()), (((), (), x37, x38, x39, ()), (x41, (), (), x42, x43, x44, ()), m45, m46, m47, ()))))
        | some (.inr (((x48, _), ((_, _, x49, x50, x51, _), l52, (x53, _, _, x54, x55, x56, _), m57, m58, m59, m60, _)))) => (
          if !(errNil x48) then
            some (.inr (.inl ((false, ()), ())))
          else
            some (.inl (((), ()), (((), (), x49, x50, x51, ()), (x53, (), (), x54, x55, x56, ()), m60, m58, m59, ()))))
        | none => none)
    | some (.inr (((x23, _), ((_, _, x24, x25, x26, _), l27, (x28, _, _, x29, x30, x31, _), m32, m33, m34, m35, _)))) => (
      if !(errNil x23) then
        some (.inr (.inl ((false, ()), ())))
      else
        match jour_Store_Commit n (((), (), ()), (((), (), x24, x25, x26, ()), [((⟨#[97]⟩ : ByteArray), ((⟨#[50]⟩ : ByteArray), false)), ((⟨#[98]⟩ : ByteArray), ((⟨#[51]⟩ : ByteArray), false))], (x28, (), (), x29, x30, x31, ()), m35, m33, m34, ())) with
        | some (.inl ((x61, _), ((_, _, x62, x63, x64, _), l65, (x66, _, _, x67, x68, x69, _), m70, m71, m72, _))) => (
          if !(errNil x61) then
            some (.inr (.inl ((false, ()), ())))
          else
            some (.inl (((), ()), (((), (), x62, x63, x64, ()), (x66, (), (), x67, x68, x69, ()), m70, m71, m72, ()))))
        | some (.inr (((x73, _), ((_, _, x74, x75, x76, _), l77, (x78, _, _, x79, x80, x81, _), m82, m83, m84, m85, _)))) => (
          if !(errNil x73) then
            some (.inr (.inl ((false, ()), ())))
          else
            some (.inl (((), ()), (((), (), x74, x75, x76, ()), (x78, (), (), x79, x80, x81, ()), m85, m83, m84, ()))))
        | none => none)
    | none => none
def law4_first : Nat → law4_first_ins.T → Option (OutsT law4_first_outs)
  | 0, _ => none
  | n + 1, (_, _) =>
    match law4_opened n ((64, ()), ()) with
    | some (.inl ((((_, _), (_, _), _), _), ((_, _, x1, x2, x3, _), (x4, _, _, x5, x6, x7, _), m8, m9, m10, _))) => (
      match law4_first_c4 n (((), ()), (((), (), x1, x2, x3, ()), (x4, (), (), x5, x6, x7, ()), m8, m9, m10, ())) with
      | some (.inl ((_, _), ((_, _, x17, x18, x19, _), (x20, _, _, x21, x22, x23, _), m24, m25, m26, _))) => (
        match jour_Store_Get n (((), (⟨#[97]⟩ : ByteArray), ()), (((), (), x17, x18, x19, ()), (x20, (), (), x21, x22, x23, ()), m24, m25, m26, ())) with
        | some ((((x28, _), (x29, _), _), _), ((_, _, x30, x31, x32, _), (x33, _, _, x34, x35, x36, _), m37, m38, m39, _)) => (
          if x29 then
            if strEq x28 (⟨#[50]⟩ : ByteArray) then
              match jour_Store_Keys n (((), ()), (((), (), x30, x31, x32, ()), (x33, (), (), x34, x35, x36, ()), m37, m38, m39, ())) with
              | some ((_, _), ((_, _, x40, x41, x42, _), (x43, _, _, x44, x45, x46, _), m47, m48, m49, l50, _)) => (
                match ref_SameTexts n ((l50, [(⟨#[97]⟩ : ByteArray), (⟨#[98]⟩ : ByteArray)], ()), ()) with
                | some ((x51, _), _) => (
                  some ((x51, ()), ()))
                | none => none)
              | none => none
            else
              some ((false, ()), ())
          else
            some ((false, ()), ()))
        | none => none)
      | some (.inr (.inl ((x27, _), _))) => (
        some ((x27, ()), ()))
      | some (.inr (.inr (_))) => none
      | none => none)
    | some (.inr (.inl ((((_, _), (_, _), _), _), ((x11, _, _, x12, x13, x14, _), m15, m16, _)))) => (
      none)
    | some (.inr (.inr (((((_, _), (_, _), _), _), _)))) => (
      none)
    | none => none
def law4_first_H (n : Nat) : Hints := ⟨[], fun _ => [], fun _ => none, fun k => match k with | 4 => some ⟨[1], law4_first_c4_h, law4_first_c4_o, fun n => law4_first_c4 n⟩ | _ => none, fun _ => none, fun _ => 0⟩
def law4_first_O (n : Nat) : FuncId → List FSpec := asc [(7, ⟨law4_opened_ins, law4_opened_outs, law4_opened n⟩), (8, ⟨jour_Store_Commit_ins, jour_Store_Commit_outs, jour_Store_Commit n⟩), (11, ⟨jour_Store_Get_ins, jour_Store_Get_outs, jour_Store_Get n⟩), (13, ⟨jour_Store_Keys_ins, jour_Store_Keys_outs, jour_Store_Keys n⟩), (15, ⟨ref_SameTexts_ins, ref_SameTexts_outs, ref_SameTexts n⟩)]
def b6 : Code := bodyOf Tryz.f6
theorem law4_first_c4_k2 (n : Nat) : CutOk P CC (law4_first_O n) n 0 42 (law4_first_H n) ⟨[1], law4_first_c4_h, law4_first_c4_o, fun n => law4_first_c4 n⟩ ((cutsOf b6).getD 2 (0, .skip)).2 := by
  rintro ⟨⟨⟨⟩, ⟨⟩⟩, ⟨⟨⟨⟩, ⟨⟩, x1, x2, x3, ⟨⟩⟩, ⟨x4, ⟨⟩, ⟨⟩, x5, x6, x7, ⟨⟩⟩, x8, x9, x10, ⟨⟩⟩⟩
  kernel_rfl
theorem law4_first_ok {S : Nat → Addr} (ok : CfgOk P CC S) : ∀ n, SpecOk P CC S 6 ⟨law4_first_ins, law4_first_outs, law4_first n⟩ :=
  fn_all ok (O := law4_first_O) (H := law4_first_H) (fn := Tryz.f6) (body := b6) (by kernel_rfl) (by kernel_rfl) (by kernel_rfl) (by decide) (by kernel_rfl)
    (fun x => by kernel_rfl) (fun n => by
      rintro ⟨⟨⟩, ⟨⟩⟩
      kernel_rfl)
    (fun n => obl_of (by kernel_rfl) (by kernel_rfl) (lz) (cn (cn (cn (cn (cs (cn (cn (cz) (by kernel_rfl)) (by kernel_rfl)) (by kernel_rfl) (law4_first_c4_k2 n)) (by kernel_rfl)) (by kernel_rfl)) (by kernel_rfl)) (by kernel_rfl)) (hn fun _ => rfl))
    (fun n ih => asc_cons (law4_opened_ok ok n) <| asc_cons (jour_Store_Commit_ok ok n) <| asc_cons (jour_Store_Get_ok ok n) <| asc_cons (jour_Store_Keys_ok ok n) <| asc_cons (ref_SameTexts_ok ok n) <| asc_nil)
/-! ### pendulum/pendulumworld.Number -/
abbrev world_Number_ins : Sh := ⟨[(.one (.val (.int .i64))), (.one (.val (.int .i64)))], []⟩
abbrev world_Number_outs : List Sh := [⟨[(.one (.val (.int .i64)))], []⟩]
def world_Number : Nat → world_Number_ins.T → Option (OutsT world_Number_outs)
  | 0, _ => none
  | n + 1, ((x1, x2, _), _) =>
    if x2 = 0 then
      none
    else
      if decide (Int.tmod x1 x2 < 0) then
        let v3 : Int := IntKind.i64.wrap ((Int.tmod x1 x2) + x2)
        some ((v3, ()), ())
      else
        some ((Int.tmod x1 x2, ()), ())
def world_Number_H (n : Nat) : Hints := ⟨[], fun _ => [], fun _ => none, fun _ => none, fun _ => none, fun _ => 0⟩
def world_Number_O (n : Nat) : FuncId → List FSpec := asc []
def b10 : Code := bodyOf Tryz.f10
theorem world_Number_ok {S : Nat → Addr} (ok : CfgOk P CC S) : ∀ n, SpecOk P CC S 10 ⟨world_Number_ins, world_Number_outs, world_Number n⟩ :=
  fn_all ok (O := world_Number_O) (H := world_Number_H) (fn := Tryz.f10) (body := b10) (by kernel_rfl) (by kernel_rfl) (by kernel_rfl) (by decide) (by kernel_rfl)
    (fun x => by kernel_rfl) (fun n => by
      rintro ⟨⟨x1, x2, ⟨⟩⟩, ⟨⟩⟩
      kernel_rfl)
    (fun n => obl_of (by kernel_rfl) (by kernel_rfl) (lz) (cn (cn (cn (cn (cn (cz) (by kernel_rfl)) (by kernel_rfl)) (by kernel_rfl)) (by kernel_rfl)) (by kernel_rfl)) (hn fun _ => rfl))
    (fun n ih => asc_nil)
/-! ### strconv.Itoa (by hand) -/
abbrev strconv_Itoa_ins : Sh := ⟨[(.one (.val (.int .i64)))], []⟩
abbrev strconv_Itoa_outs : List Sh := [⟨[(.one (.val .str))], []⟩]
def strconv_Itoa : Nat → strconv_Itoa_ins.T → Option (OutsT strconv_Itoa_outs) := fun _ => itoaSem
theorem strconv_Itoa_ok {S : Nat → Addr} (ok : CfgOk P CC S) : ∀ n, SpecOk P CC S 29 ⟨strconv_Itoa_ins, strconv_Itoa_outs, strconv_Itoa n⟩ := fun n => itoa_spec ⟨Tryz.f29, by kernel_rfl, by kernel_rfl, by kernel_rfl⟩ (.head _) (by kernel_rfl) Tryz.strconv_Itoa
/-! ### pendulum/pendulumworld.Num -/
abbrev world_Num_ins : Sh := ⟨[(.one (.val (.int .i64)))], []⟩
abbrev world_Num_outs : List Sh := [⟨[(.one (.val .str))], []⟩]
def world_Num : Nat → world_Num_ins.T → Option (OutsT world_Num_outs)
  | 0, _ => none
  | n + 1, ((x1, _), _) =>
    match strconv_Itoa n ((x1, ()), ()) with
    | some ((x2, _), _) => (
      some ((x2, ()), ()))
    | none => none
def world_Num_H (n : Nat) : Hints := ⟨[], fun _ => [], fun _ => none, fun _ => none, fun _ => none, fun _ => 0⟩
def world_Num_O (n : Nat) : FuncId → List FSpec := asc [(29, ⟨strconv_Itoa_ins, strconv_Itoa_outs, strconv_Itoa n⟩)]
def b14 : Code := bodyOf Tryz.f14
theorem world_Num_ok {S : Nat → Addr} (ok : CfgOk P CC S) : ∀ n, SpecOk P CC S 14 ⟨world_Num_ins, world_Num_outs, world_Num n⟩ :=
  fn_all ok (O := world_Num_O) (H := world_Num_H) (fn := Tryz.f14) (body := b14) (by kernel_rfl) (by kernel_rfl) (by kernel_rfl) (by decide) (by kernel_rfl)
    (fun x => by kernel_rfl) (fun n => by
      rintro ⟨⟨x1, ⟨⟩⟩, ⟨⟩⟩
      kernel_rfl)
    (fun n => obl_of (by kernel_rfl) (by kernel_rfl) (lz) (cn (cn (cz) (by kernel_rfl)) (by kernel_rfl)) (hn fun _ => rfl))
    (fun n ih => asc_cons (strconv_Itoa_ok ok n) <| asc_nil)
/-! ### pendulum/pendulumlaw4.JourLast -/
abbrev law4_JourLast_ins : Sh := ⟨[(.one (.val ty4))], []⟩
abbrev law4_JourLast_outs : List Sh := [⟨[(.one (.val .bool))], []⟩]
abbrev law4_JourLast_l12_h : Sh := ⟨[(.one (.val ty4)), (.one (.ptr 0 0)), (.one (.arr 1)), (.one (.arr 2)), (.one (.val (.int .i64)))], [(.obj 56 [(.ptr 3 0), (.map 4), (.val (.int .i64)), (.val (.int .i64)), (.val (.int .i64))]), (.arr 3 (.int .i64)), (.arr 31 ty0), (.obj 65 [(.val (.int .i64)), (.map 5), (.map 6), (.val (.int .i64)), (.val (.int .i64)), (.val .bool)]), (.map .str .str false), (.map (.int .i64) ty2 false), (.map (.int .i64) ty2 false)]⟩
abbrev law4_JourLast_l12_o : List Out := [⟨(.exit 0), [4, 6, 7], ⟨[(.one (.ptr 0 0)), (.one (.arr 1)), (.one (.arr 2))], [(.obj 56 [(.ptr 3 0), (.map 4), (.val (.int .i64)), (.val (.int .i64)), (.val (.int .i64))]), (.arr 3 (.int .i64)), (.arr 31 ty0), (.obj 65 [(.val (.int .i64)), (.map 5), (.map 6), (.val (.int .i64)), (.val (.int .i64)), (.val .bool)]), (.map .str .str false), (.map (.int .i64) ty2 false), (.map (.int .i64) ty2 false)]⟩⟩]
def law4_JourLast_l12 (n : Nat) : Nat → law4_JourLast_l12_h.T → Option (OutT law4_JourLast_l12_o)
  | 0, _ => none
  | k + 1, ((x1, _, _, _, x2, _), ((_, _, x3, x4, x5, _), l6, l7, (x8, _, _, x9, x10, x11, _), m12, m13, m14, _)) =>
    if decide (x2 < (x1.length : Int)) then
      if 0 ≤ x2 ∧ x2 < (x1.length : Int) then (
        let v15 : Int := rdT ((.int .i64) : Ty) x1 x2
        match world_Number n ((v15, 5, ()), ()) with
        | some ((x16, _), _) => (
          if 0 ≤ x2 ∧ x2 < (x1.length : Int) then (
            let v17 : Int := rdT ((.int .i64) : Ty) x1 x2
            match world_Num n ((x16, ()), ()) with
            | some ((x18, _), _) => (
              if (⟨#[107]⟩ : ByteArray).size + x18.size ≤ 9223372036854775807 then (
                match world_Num n ((x2, ()), ()) with
                | some ((x19, _), _) => (
                  if (l7.length + ([((⟨#[107]⟩ : ByteArray) ++ x18, (x19, Int.tmod v17 3 == 0))] : List ty0.T).length) * 40 ≤ 140737488355328 then (
                    let v20 : Int := IntKind.i64.wrap (x2 + 1)
                    if 0 ≤ x16 ∧ x16 < (l6.length : Int) then (
                      if Int.tmod v17 3 == 0 then
                        if 0 ≤ x16 ∧ x16 < ((List.set l6 (x16 : Int).toNat v20).length : Int) then (
                          let v21 : Int := IntKind.i64.wrap (x2 + 1)
                          law4_JourLast_l12 n k ((x1, (), (), (), v21, ()), (((), (), x3, x4, x5, ()), List.set (List.set l6 (x16 : Int).toNat v20) (x16 : Int).toNat 0, l7 ++ [((⟨#[107]⟩ : ByteArray) ++ x18, (x19, Int.tmod v17 3 == 0))], (x8, (), (), x9, x10, x11, ()), m12, m13, m14, ()))) else none
                      else
                        let v22 : Int := IntKind.i64.wrap (x2 + 1)
                        law4_JourLast_l12 n k ((x1, (), (), (), v22, ()), (((), (), x3, x4, x5, ()), List.set l6 (x16 : Int).toNat v20, l7 ++ [((⟨#[107]⟩ : ByteArray) ++ x18, (x19, Int.tmod v17 3 == 0))], (x8, (), (), x9, x10, x11, ()), m12, m13, m14, ()))) else none) else none)
                | none => none) else none)
            | none => none) else none)
        | none => none) else none
    else
      some (.inl (((), (), (), ()), (((), (), x3, x4, x5, ()), l6, l7, (x8, (), (), x9, x10, x11, ()), m12, m13, m14, ())))
abbrev law4_JourLast_c22_h : Sh := ⟨[(.one (.ptr 0 0)), (.one (.arr 1)), (.one (.arr 2))], [(.obj 56 [(.ptr 3 0), (.map 4), (.val (.int .i64)), (.val (.int .i64)), (.val (.int .i64))]), (.arr 3 (.int .i64)), (.arr 31 ty0), (.obj 65 [(.val (.int .i64)), (.map 5), (.map 6), (.val (.int .i64)), (.val (.int .i64)), (.val .bool)]), (.map .str .str false), (.map (.int .i64) ty2 false), (.map (.int .i64) ty2 false)]⟩
abbrev law4_JourLast_c22_o : List Out := [⟨.normal, [4, 6], ⟨[(.one (.ptr 0 0)), (.one (.arr 1))], [(.obj 56 [(.ptr 2 0), (.map 3), (.val (.int .i64)), (.val (.int .i64)), (.val (.int .i64))]), (.arr 3 (.int .i64)), (.obj 65 [(.val (.int .i64)), (.map 4), (.map 5), (.val (.int .i64)), (.val (.int .i64)), (.val .bool)]), (.map .str .str false), (.map (.int .i64) ty2 false), (.map (.int .i64) ty2 false)]⟩⟩, ⟨.ret, [2], ⟨[(.one (.val .bool))], []⟩⟩]
def law4_JourLast_c22 (n : Nat) : law4_JourLast_c22_h.T → Option (OutT law4_JourLast_c22_o)
  | ((_, _, _, _), ((_, _, x1, x2, x3, _), l4, l5, (x6, _, _, x7, x8, x9, _), m10, m11, m12, _)) =>
    match jour_Store_Commit n (((), (), ()), (((), (), x1, x2, x3, ()), l5, (x6, (), (), x7, x8, x9, ()), m10, m11, m12, ())) with
    | some (.inl ((x13, _), ((_, _, x14, x15, x16, _), l17, (x18, _, _, x19, x20, x21, _), m22, m23, m24, _))) => (
      if !(errNil x13) then
        some (.inr (.inl ((false, ()), ())))
      else
        some (.inl (((), (), ()), (((), (), x14, x15, x16, ()), l4, (x18, (), (), x19, x20, x21, ()), m22, m23, m24, ()))))
    | some (.inr (((x25, _), ((_, _, x26, x27, x28, _), l29, (x30, _, _, x31, x32, x33, _), m34, m35, m36, m37, _)))) => (
      if !(errNil x25) then
        some (.inr (.inl ((false, ()), ())))
      else
        some (.inl (((), (), ()), (((), (), x26, x27, x28, ()), l4, (x30, (), (), x31, x32, x33, ()), m37, m35, m36, ()))))
    | none => none
abbrev law4_JourLast_c29_h : Sh := ⟨[(.one (.ptr 0 0)), (.one (.arr 1)), (.one (.arr 2)), (.one (.val (.int .i64))), (.one (.val .str)), (.one (.val .bool))], [(.obj 56 [(.ptr 3 0), (.map 4), (.val (.int .i64)), (.val (.int .i64)), (.val (.int .i64))]), (.arr 3 (.int .i64)), (.arr 9 .str), (.obj 65 [(.val (.int .i64)), (.map 5), (.map 6), (.val (.int .i64)), (.val (.int .i64)), (.val .bool)]), (.map .str .str false), (.map (.int .i64) ty2 false), (.map (.int .i64) ty2 false)]⟩
abbrev law4_JourLast_c29_o : List Out := [⟨.normal, [4, 6, 11, 12, 14], ⟨[(.one (.ptr 0 0)), (.one (.arr 1)), (.one (.arr 2)), (.one (.val (.int .i64))), (.one (.val .bool))], [(.obj 56 [(.ptr 3 0), (.map 4), (.val (.int .i64)), (.val (.int .i64)), (.val (.int .i64))]), (.arr 3 (.int .i64)), (.arr 9 .str), (.obj 65 [(.val (.int .i64)), (.map 5), (.map 6), (.val (.int .i64)), (.val (.int .i64)), (.val .bool)]), (.map .str .str false), (.map (.int .i64) ty2 false), (.map (.int .i64) ty2 false)]⟩⟩, ⟨.ret, [2], ⟨[(.one (.val .bool))], []⟩⟩]
def law4_JourLast_c29 (n : Nat) : law4_JourLast_c29_h.T → Option (OutT law4_JourLast_c29_o)
  | ((_, _, _, x1, x2, x3, _), ((_, _, x4, x5, x6, _), l7, l8, (x9, _, _, x10, x11, x12, _), m13, m14, m15, _)) =>
    if 0 ≤ x1 ∧ x1 < (l7.length : Int) then (
      let v16 : Int := rdT ((.int .i64) : Ty) l7 x1
      if !(x3 == (decide (v16 > 0))) then
        some (.inr (.inl ((false, ()), ())))
      else
        if x3 then
          if 0 ≤ x1 ∧ x1 < (l7.length : Int) then (
            let v17 : Int := rdT ((.int .i64) : Ty) l7 x1
            let v18 : Int := IntKind.i64.wrap (v17 - 1)
            match world_Num n ((v18, ()), ()) with
            | some ((x19, _), _) => (
              if !strEq x2 x19 then
                some (.inr (.inl ((false, ()), ())))
              else
                some (.inl (((), (), (), x1, x3, ()), (((), (), x4, x5, x6, ()), l7, l8, (x9, (), (), x10, x11, x12, ()), m13, m14, m15, ()))))
            | none => none) else none
        else
          some (.inl (((), (), (), x1, x3, ()), (((), (), x4, x5, x6, ()), l7, l8, (x9, (), (), x10, x11, x12, ()), m13, m14, m15, ())))) else none
abbrev law4_JourLast_l24_h : Sh := ⟨[(.one (.ptr 0 0)), (.one (.arr 1)), (.one (.arr 2)), (.one (.val (.int .i64)))], [(.obj 56 [(.ptr 3 0), (.map 4), (.val (.int .i64)), (.val (.int .i64)), (.val (.int .i64))]), (.arr 3 (.int .i64)), (.arr 9 .str), (.obj 65 [(.val (.int .i64)), (.map 5), (.map 6), (.val (.int .i64)), (.val (.int .i64)), (.val .bool)]), (.map .str .str false), (.map (.int .i64) ty2 false), (.map (.int .i64) ty2 false)]⟩
abbrev law4_JourLast_l24_o : List Out := [⟨(.exit 2), [4, 11], ⟨[(.one (.ptr 0 0)), (.one (.arr 1))], [(.obj 56 [(.ptr 2 0), (.map 3), (.val (.int .i64)), (.val (.int .i64)), (.val (.int .i64))]), (.arr 9 .str), (.obj 65 [(.val (.int .i64)), (.map 4), (.map 5), (.val (.int .i64)), (.val (.int .i64)), (.val .bool)]), (.map .str .str false), (.map (.int .i64) ty2 false), (.map (.int .i64) ty2 false)]⟩⟩, ⟨.ret, [2], ⟨[(.one (.val .bool))], []⟩⟩]
def law4_JourLast_l24 (n : Nat) : Nat → law4_JourLast_l24_h.T → Option (OutT law4_JourLast_l24_o)
  | 0, _ => none
  | k + 1, ((_, _, _, x1, _), ((_, _, x2, x3, x4, _), l5, l6, (x7, _, _, x8, x9, x10, _), m11, m12, m13, _)) =>
    if decide (x1 < 5) then
      match world_Num n ((x1, ()), ()) with
      | some ((x14, _), _) => (
        if (⟨#[107]⟩ : ByteArray).size + x14.size ≤ 9223372036854775807 then (
          match jour_Store_Get n (((), (⟨#[107]⟩ : ByteArray) ++ x14, ()), (((), (), x2, x3, x4, ()), (x7, (), (), x8, x9, x10, ()), m11, m12, m13, ())) with
          | some ((((x15, _), (x16, _), _), _), ((_, _, x17, x18, x19, _), (x20, _, _, x21, x22, x23, _), m24, m25, m26, _)) => (
            match law4_JourLast_c29 n (((), (), (), x1, x15, x16, ()), (((), (), x17, x18, x19, ()), l5, l6, (x20, (), (), x21, x22, x23, ()), m24, m25, m26, ())) with
            | some (.inl ((_, _, _, x27, x28, _), ((_, _, x29, x30, x31, _), l32, l33, (x34, _, _, x35, x36, x37, _), m38, m39, m40, _))) => (
              if x28 then
                match world_Num n ((x27, ()), ()) with
                | some ((x42, _), _) => (
                  if (⟨#[107]⟩ : ByteArray).size + x42.size ≤ 9223372036854775807 then (
                    if (l33.length + ([(⟨#[107]⟩ : ByteArray) ++ x42] : List (.str : Ty).T).length) * 16 ≤ 140737488355328 then (
                      let v43 : Int := IntKind.i64.wrap (x27 + 1)
                      law4_JourLast_l24 n k (((), (), (), v43, ()), (((), (), x29, x30, x31, ()), l32, l33 ++ [(⟨#[107]⟩ : ByteArray) ++ x42], (x34, (), (), x35, x36, x37, ()), m38, m39, m40, ()))) else none) else none)
                | none => none
              else
                let v44 : Int := IntKind.i64.wrap (x27 + 1)
                law4_JourLast_l24 n k (((), (), (), v44, ()), (((), (), x29, x30, x31, ()), l32, l33, (x34, (), (), x35, x36, x37, ()), m38, m39, m40, ())))
            | some (.inr (.inl ((x41, _), _))) => (
              some (.inr (.inl ((x41, ()), ()))))
            | some (.inr (.inr (_))) => none
            | none => none)
          | none => none) else none)
      | none => none
    else
      some (.inl (((), (), ()), (((), (), x2, x3, x4, ()), l6, (x7, (), (), x8, x9, x10, ()), m11, m12, m13, ())))
def law4_JourLast : Nat → law4_JourLast_ins.T → Option (OutsT law4_JourLast_outs)
  | 0, _ => none
  | n + 1, ((x1, _), _) =>
    match law4_first n ((), ()) with
    | some ((x2, _), _) => (
      if !x2 then
        some ((false, ()), ())
      else
        if decide ((x1.length : Int) > 30) then
          some ((x2, ()), ())
        else
          if !x2 then
            some ((x2, ()), ())
          else
            match law4_opened n ((400, ()), ()) with
            | some (.inl ((((_, _), (_, _), _), _), ((_, _, x3, x4, x5, _), (x6, _, _, x7, x8, x9, _), m10, m11, m12, _))) => (
              if 0 ≤ (5 : Int) ∧ (5 : Int) ≤ 5 ∧ (5 : Int) * ((8 : Nat) : Int) ≤ 140737488355328 ∧ (5 : Int) ≤ 140737488355328 then (
                match law4_JourLast_l12 n n ((x1, (), (), (), 0, ()), (((), (), x3, x4, x5, ()), List.replicate (5 : Int).toNat 0, [], (x6, (), (), x7, x8, x9, ()), m10, m11, m12, ())) with
                | some (.inl ((_, _, _, _), ((_, _, x19, x20, x21, _), l22, l23, (x24, _, _, x25, x26, x27, _), m28, m29, m30, _))) => (
                  match law4_JourLast_c22 n (((), (), (), ()), (((), (), x19, x20, x21, ()), l22, l23, (x24, (), (), x25, x26, x27, ()), m28, m29, m30, ())) with
                  | some (.inl ((_, _, _), ((_, _, x31, x32, x33, _), l34, (x35, _, _, x36, x37, x38, _), m39, m40, m41, _))) => (
                    match law4_JourLast_l24 n n (((), (), (), 0, ()), (((), (), x31, x32, x33, ()), l34, [], (x35, (), (), x36, x37, x38, ()), m39, m40, m41, ())) with
                    | some (.inl ((_, _, _), ((_, _, x43, x44, x45, _), l46, (x47, _, _, x48, x49, x50, _), m51, m52, m53, _))) => (
                      match jour_Store_Keys n (((), ()), (((), (), x43, x44, x45, ()), (x47, (), (), x48, x49, x50, ()), m51, m52, m53, ())) with
                      | some ((_, _), ((_, _, x55, x56, x57, _), (x58, _, _, x59, x60, x61, _), m62, m63, m64, l65, _)) => (
                        match ref_SameTexts n ((l65, l46, ()), ()) with
                        | some ((x66, _), _) => (
                          some ((x66, ()), ()))
                        | none => none)
                      | none => none)
                    | some (.inr (.inl ((x54, _), _))) => (
                      some ((x54, ()), ()))
                    | some (.inr (.inr (_))) => none
                    | none => none)
                  | some (.inr (.inl ((x42, _), _))) => (
                    some ((x42, ()), ()))
                  | some (.inr (.inr (_))) => none
                  | none => none)
                | some (.inr (_)) => none
                | none => none) else none)
            | some (.inr (.inl ((((_, _), (_, _), _), _), ((x13, _, _, x14, x15, x16, _), m17, m18, _)))) => (
              some ((false, ()), ()))
            | some (.inr (.inr (((((_, _), (_, _), _), _), _)))) => (
              some ((false, ()), ()))
            | none => none)
    | none => none
def law4_JourLast_H (n : Nat) : Hints := ⟨[], fun _ => [], fun k => match k with | 12 => some ⟨[0, 4, 6, 7, 8], law4_JourLast_l12_h, law4_JourLast_l12_o, law4_JourLast_l12 n⟩ | 24 => some ⟨[4, 6, 11, 12], law4_JourLast_l24_h, law4_JourLast_l24_o, law4_JourLast_l24 n⟩ | _ => none, fun k => match k with | 22 => some ⟨[4, 6, 7], law4_JourLast_c22_h, law4_JourLast_c22_o, fun n => law4_JourLast_c22 n⟩ | 29 => some ⟨[4, 6, 11, 12, 13, 14], law4_JourLast_c29_h, law4_JourLast_c29_o, fun n => law4_JourLast_c29 n⟩ | _ => none, fun _ => none, fun _ => 0⟩
def law4_JourLast_O (n : Nat) : FuncId → List FSpec := asc [(6, ⟨law4_first_ins, law4_first_outs, law4_first n⟩), (7, ⟨law4_opened_ins, law4_opened_outs, law4_opened n⟩), (8, ⟨jour_Store_Commit_ins, jour_Store_Commit_outs, jour_Store_Commit n⟩), (10, ⟨world_Number_ins, world_Number_outs, world_Number n⟩), (11, ⟨jour_Store_Get_ins, jour_Store_Get_outs, jour_Store_Get n⟩), (13, ⟨jour_Store_Keys_ins, jour_Store_Keys_outs, jour_Store_Keys n⟩), (14, ⟨world_Num_ins, world_Num_outs, world_Num n⟩), (15, ⟨ref_SameTexts_ins, ref_SameTexts_outs, ref_SameTexts n⟩)]
def b5 : Code := bodyOf Tryz.f5
theorem law4_JourLast_l12_k0 (n : Nat) : LoopOk P CC (law4_JourLast_O n) n 0 116 (law4_JourLast_H n) ⟨[0, 4, 6, 7, 8], law4_JourLast_l12_h, law4_JourLast_l12_o, law4_JourLast_l12 n⟩ ((loopsOf b5).getD 0 .skip) := by
  refine ⟨fun _ => by kernel_rfl, ?_⟩
  rintro k ⟨⟨x1, ⟨⟩, ⟨⟩, ⟨⟩, x2, ⟨⟩⟩, ⟨⟨⟨⟩, ⟨⟩, x3, x4, x5, ⟨⟩⟩, x6, x7, ⟨x8, ⟨⟩, ⟨⟩, x9, x10, x11, ⟨⟩⟩, x12, x13, x14, ⟨⟩⟩⟩
  kernel_rfl
theorem law4_JourLast_l24_k1 (n : Nat) : LoopOk P CC (law4_JourLast_O n) n 0 116 (law4_JourLast_H n) ⟨[4, 6, 11, 12], law4_JourLast_l24_h, law4_JourLast_l24_o, law4_JourLast_l24 n⟩ ((loopsOf b5).getD 1 .skip) := by
  refine ⟨fun _ => by kernel_rfl, ?_⟩
  rintro k ⟨⟨⟨⟩, ⟨⟩, ⟨⟩, x1, ⟨⟩⟩, ⟨⟨⟨⟩, ⟨⟩, x2, x3, x4, ⟨⟩⟩, x5, x6, ⟨x7, ⟨⟩, ⟨⟩, x8, x9, x10, ⟨⟩⟩, x11, x12, x13, ⟨⟩⟩⟩
  kernel_rfl
theorem law4_JourLast_c22_k24 (n : Nat) : CutOk P CC (law4_JourLast_O n) n 0 116 (law4_JourLast_H n) ⟨[4, 6, 7], law4_JourLast_c22_h, law4_JourLast_c22_o, fun n => law4_JourLast_c22 n⟩ ((cutsOf b5).getD 24 (0, .skip)).2 := by
  rintro ⟨⟨⟨⟩, ⟨⟩, ⟨⟩, ⟨⟩⟩, ⟨⟨⟨⟩, ⟨⟩, x1, x2, x3, ⟨⟩⟩, x4, x5, ⟨x6, ⟨⟩, ⟨⟩, x7, x8, x9, ⟨⟩⟩, x10, x11, x12, ⟨⟩⟩⟩
  kernel_rfl
theorem law4_JourLast_c29_k34 (n : Nat) : CutOk P CC (law4_JourLast_O n) n 0 116 (law4_JourLast_H n) ⟨[4, 6, 11, 12, 13, 14], law4_JourLast_c29_h, law4_JourLast_c29_o, fun n => law4_JourLast_c29 n⟩ ((cutsOf b5).getD 34 (0, .skip)).2 := by
  rintro ⟨⟨⟨⟩, ⟨⟩, ⟨⟩, x1, x2, x3, ⟨⟩⟩, ⟨⟨⟨⟩, ⟨⟩, x4, x5, x6, ⟨⟩⟩, x7, x8, ⟨x9, ⟨⟩, ⟨⟩, x10, x11, x12, ⟨⟩⟩, x13, x14, x15, ⟨⟩⟩⟩
  kernel_rfl
theorem law4_JourLast_ok {S : Nat → Addr} (ok : CfgOk P CC S) : ∀ n, SpecOk P CC S 5 ⟨law4_JourLast_ins, law4_JourLast_outs, law4_JourLast n⟩ :=
  fn_all ok (O := law4_JourLast_O) (H := law4_JourLast_H) (fn := Tryz.f5) (body := b5) (by kernel_rfl) (by kernel_rfl) (by kernel_rfl) (by decide) (by kernel_rfl)
    (fun x => by kernel_rfl) (fun n => by
      rintro ⟨⟨x1, ⟨⟩⟩, ⟨⟩⟩
      kernel_rfl)
    (fun n => obl_of (by kernel_rfl) (by kernel_rfl) (ls (ls (lz) (by kernel_rfl) (law4_JourLast_l12_k0 n)) (by kernel_rfl) (law4_JourLast_l24_k1 n)) (cn (cn (cn (cn (cs (cn (cn (cn (cn (cn (cn (cn (cn (cn (cs (cn (cn (cn (cn (cn (cn (cn (cn (cn (cn (cn (cn (cn (cn (cn (cn (cn (cn (cn (cn (cn (cn (cn (cn (cz) (by kernel_rfl)) (by kernel_rfl)) (by kernel_rfl)) (by kernel_rfl)) (by kernel_rfl)) (by kernel_rfl)) (by kernel_rfl)) (by kernel_rfl)) (by kernel_rfl)) (by kernel_rfl)) (by kernel_rfl)) (by kernel_rfl)) (by kernel_rfl)) (by kernel_rfl)) (by kernel_rfl)) (by kernel_rfl)) (by kernel_rfl)) (by kernel_rfl)) (by kernel_rfl)) (by kernel_rfl)) (by kernel_rfl)) (by kernel_rfl)) (by kernel_rfl)) (by kernel_rfl)) (by kernel_rfl) (law4_JourLast_c22_k24 n)) (by kernel_rfl)) (by kernel_rfl)) (by kernel_rfl)) (by kernel_rfl)) (by kernel_rfl)) (by kernel_rfl)) (by kernel_rfl)) (by kernel_rfl)) (by kernel_rfl)) (by kernel_rfl) (law4_JourLast_c29_k34 n)) (by kernel_rfl)) (by kernel_rfl)) (by kernel_rfl)) (by kernel_rfl)) (hn fun _ => rfl))
    (fun n ih => asc_cons (law4_first_ok ok n) <| asc_cons (law4_opened_ok ok n) <| asc_cons (jour_Store_Commit_ok ok n) <| asc_cons (world_Number_ok ok n) <| asc_cons (jour_Store_Get_ok ok n) <| asc_cons (jour_Store_Keys_ok ok n) <| asc_cons (world_Num_ok ok n) <| asc_cons (ref_SameTexts_ok ok n) <| asc_nil)
end
end Go.Proofs.YthliipenkikefaaGreatDoor.Cm

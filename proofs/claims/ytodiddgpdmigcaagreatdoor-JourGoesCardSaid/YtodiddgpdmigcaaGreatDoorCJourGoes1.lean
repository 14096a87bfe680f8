/- Printed by cmtext.py: the code as plain functions. -/
import Derived.Test.YtodiddgpdmigcaaGreatDoorCJourGoes0
namespace Go.Proofs.YtodiddgpdmigcaaGreatDoor.Cm
open Go
noncomputable section
set_option linter.unusedVariables false
set_option maxRecDepth 100000
/-! ### (*pendulum/jour.Store).Commit -/
abbrev jour_Store_Commit_ins : Sh := ⟨[(.one (.ptr 0 0)), (.one (.val ty3))], [(.obj 72 [(.ptr 1 0), (.map 2), (.val (.int .i64)), (.val (.int .i64)), (.val (.int .i64))]), (.obj 92 [(.val (.int .i64)), (.map 3), (.map 4), (.val (.int .i64)), (.val (.int .i64)), (.val .bool)]), (.map .str .str false), (.map (.int .i64) ty2 false), (.map (.int .i64) ty2 false)]⟩
abbrev jour_Store_Commit_outs : List Sh := [⟨[(.one (.val .err))], [(.obj 72 [(.ptr 1 0), (.map 2), (.val (.int .i64)), (.val (.int .i64)), (.val (.int .i64))]), (.obj 92 [(.val (.int .i64)), (.map 3), (.map 4), (.val (.int .i64)), (.val (.int .i64)), (.val .bool)]), (.map .str .str false), (.map (.int .i64) ty2 false), (.map (.int .i64) ty2 false)]⟩, ⟨[(.one (.val .err))], [(.obj 72 [(.ptr 1 0), (.map 5), (.val (.int .i64)), (.val (.int .i64)), (.val (.int .i64))]), (.obj 92 [(.val (.int .i64)), (.map 3), (.map 4), (.val (.int .i64)), (.val (.int .i64)), (.val .bool)]), (.map .str .str false), (.map (.int .i64) ty2 false), (.map (.int .i64) ty2 false), (.map .str .str false)]⟩]
def jour_Store_Commit : Nat → jour_Store_Commit_ins.T → Option (OutsT jour_Store_Commit_outs)
  | 0, _ => none
  | n + 1, ((_, x1, _), ((_, _, x2, x3, x4, _), (x5, _, _, x6, x7, x8, _), m9, m10, m11, _)) =>
    match jour_Store_fits n (((), x1, ()), (((), (), x2, x3, x4, ()), (x5, (), (), x6, x7, x8, ()), m9, m10, m11, ())) with
    | some (.inl ((((_, _), (x12, _), _), _), ((_, _, x13, x14, x15, _), (x16, _, _, x17, x18, x19, _), m20, m21, m22, m23, _))) => (
      if !(errNil x12) then
        some (.inl ((x12, ()), (((), (), x13, x14, x15, ()), (x16, (), (), x17, x18, x19, ()), m20, m21, m22, ())))
      else
        match maps_Equal_26 n (((), (), ()), (m23, m20, ())) with
        | some ((x35, _), (m36, m37, _)) => (
          if x35 then
            some (.inl ((ErrV.nil, ()), (((), (), x13, x14, x15, ()), (x16, (), (), x17, x18, x19, ()), m37, m21, m22, ())))
          else
            match jour_bytes n ((1, x1, ()), ()) with
            | some ((_, _), (l38, _)) => (
              if decide (x13 ≥ 0) then
                match jour_bounds n (((), x13, ()), ((x16, (), (), x17, x18, x19, ()), m21, m22, ())) with
                | some ((((x39, _), (x40, _), _), _), ((x41, _, _, x42, x43, x44, _), m45, m46, _)) => (
                  match jour_sectors n (((), ()), (l38, ())) with
                  | some ((x47, _), (l48, _)) => (
                    let v49 : Int := IntKind.i64.wrap (x40 - x14)
                    if decide (x47 ≤ v49) then
                      match jour_Store_write n (((), x14, l48, ()), (((), (), x13, x14, x15, ()), (x41, (), (), x42, x43, x44, ()), m37, m45, m46, ())) with
                      | some ((x50, _), ((_, _, x51, x52, x53, _), (x54, _, _, x55, x56, x57, _), m58, m59, m60, _)) => (
                        if !(errNil x50) then
                          some (.inl ((x50, ()), (((), (), x51, x52, x53, ()), (x54, (), (), x55, x56, x57, ()), m58, m59, m60, ())))
                        else
                          match jour_sectors_2 n ((l48, ()), ()) with
                          | some ((x61, _), _) => (
                            let v62 : Int := IntKind.i64.wrap (x52 + x61)
                            some (.inr (((ErrV.nil, ()), (((), (), x51, v62, x53, ()), (x54, (), (), x55, x56, x57, ()), m58, m59, m60, m36, ())))))
                          | none => none)
                      | none => none
                    else
                      match jour_Store_all n (((), (), ()), (((), (), x13, x14, x15, ()), m36, (x41, (), (), x42, x43, x44, ()), m37, m45, m46, ())) with
                      | some (.inl ((x63, _), ((_, _, x64, x65, x66, _), m67, (x68, _, _, x69, x70, x71, _), m72, m73, m74, _))) => (
                        some (.inl ((x63, ()), (((), (), x64, x65, x66, ()), (x68, (), (), x69, x70, x71, ()), m72, m73, m74, ()))))
                      | some (.inr (((x75, _), ((_, _, x76, x77, x78, _), m79, (x80, _, _, x81, x82, x83, _), m84, m85, m86, _)))) => (
                        some (.inr (((x75, ()), (((), (), x76, x77, x78, ()), (x80, (), (), x81, x82, x83, ()), m84, m85, m86, m79, ())))))
                      | none => none)
                  | none => none)
                | none => none
              else
                match jour_Store_all n (((), (), ()), (((), (), x13, x14, x15, ()), m36, (x16, (), (), x17, x18, x19, ()), m37, m21, m22, ())) with
                | some (.inl ((x87, _), ((_, _, x88, x89, x90, _), m91, (x92, _, _, x93, x94, x95, _), m96, m97, m98, _))) => (
                  some (.inl ((x87, ()), (((), (), x88, x89, x90, ()), (x92, (), (), x93, x94, x95, ()), m96, m97, m98, ()))))
                | some (.inr (((x99, _), ((_, _, x100, x101, x102, _), m103, (x104, _, _, x105, x106, x107, _), m108, m109, m110, _)))) => (
                  some (.inr (((x99, ()), (((), (), x100, x101, x102, ()), (x104, (), (), x105, x106, x107, ()), m108, m109, m110, m103, ())))))
                | none => none)
            | none => none)
        | none => none)
    | some (.inr (((((_, _), (x24, _), _), _), ((_, _, x25, x26, x27, _), (x28, _, _, x29, x30, x31, _), m32, m33, m34, _)))) => (
      if !(errNil x24) then (
        some (.inl ((x24, ()), (((), (), x25, x26, x27, ()), (x28, (), (), x29, x30, x31, ()), m32, m33, m34, ())))) else none)
    | none => none
def jour_Store_Commit_H (n : Nat) : Hints := ⟨[], fun _ => [], fun _ => none, fun _ => none, fun _ => none, fun _ => 0⟩
def jour_Store_Commit_O (n : Nat) : FuncId → List FSpec := asc [(25, ⟨jour_Store_fits_ins, jour_Store_fits_outs, jour_Store_fits n⟩), (26, ⟨maps_Equal_26_ins, maps_Equal_26_outs, maps_Equal_26 n⟩), (27, ⟨jour_bytes_ins, jour_bytes_outs, jour_bytes n⟩), (28, ⟨jour_bounds_ins, jour_bounds_outs, jour_bounds n⟩), (29, ⟨jour_sectors_ins, jour_sectors_outs, jour_sectors n⟩), (29, ⟨jour_sectors_2_ins, jour_sectors_2_outs, jour_sectors_2 n⟩), (30, ⟨jour_Store_write_ins, jour_Store_write_outs, jour_Store_write n⟩), (31, ⟨jour_Store_all_ins, jour_Store_all_outs, jour_Store_all n⟩)]
def b11 : Code := bodyOf Tryz.f11
theorem jour_Store_Commit_ok {S : Nat → Addr} (ok : CfgOk P CC S) : ∀ n, SpecOk P CC S 11 ⟨jour_Store_Commit_ins, jour_Store_Commit_outs, jour_Store_Commit n⟩ :=
  fn_all ok (O := jour_Store_Commit_O) (H := jour_Store_Commit_H) (fn := Tryz.f11) (body := b11) (by kernel_rfl) (by kernel_rfl) (by kernel_rfl) (by decide) (by kernel_rfl)
    (fun x => by kernel_rfl) (fun n => by
      rintro ⟨⟨⟨⟩, x1, ⟨⟩⟩, ⟨⟨⟨⟩, ⟨⟩, x2, x3, x4, ⟨⟩⟩, ⟨x5, ⟨⟩, ⟨⟩, x6, x7, x8, ⟨⟩⟩, x9, x10, x11, ⟨⟩⟩⟩
      kernel_rfl)
    (fun n => obl_of (by kernel_rfl) (by kernel_rfl) (lz) (cn (cn (cn (cn (cn (cn (cn (cn (cn (cn (cn (cn (cn (cn (cn (cn (cn (cn (cn (cn (cz) (by kernel_rfl)) (by kernel_rfl)) (by kernel_rfl)) (by kernel_rfl)) (by kernel_rfl)) (by kernel_rfl)) (by kernel_rfl)) (by kernel_rfl)) (by kernel_rfl)) (by kernel_rfl)) (by kernel_rfl)) (by kernel_rfl)) (by kernel_rfl)) (by kernel_rfl)) (by kernel_rfl)) (by kernel_rfl)) (by kernel_rfl)) (by kernel_rfl)) (by kernel_rfl)) (by kernel_rfl)) (hn fun _ => rfl))
    (fun n ih => asc_cons (jour_Store_fits_ok ok n) <| asc_cons (maps_Equal_26_ok ok n) <| asc_cons (jour_bytes_ok ok n) <| asc_cons (jour_bounds_ok ok n) <| asc_cons (jour_sectors_ok ok n) <| asc_cons (jour_sectors_2_ok ok n) <| asc_cons (jour_Store_write_ok ok n) <| asc_cons (jour_Store_all_ok ok n) <| asc_nil)
/-! ### (*pendulum/jour.Store).Get -/
abbrev jour_Store_Get_ins : Sh := ⟨[(.one (.ptr 0 0)), (.one (.val .str))], [(.obj 72 [(.ptr 1 0), (.map 2), (.val (.int .i64)), (.val (.int .i64)), (.val (.int .i64))]), (.obj 92 [(.val (.int .i64)), (.map 3), (.map 4), (.val (.int .i64)), (.val (.int .i64)), (.val .bool)]), (.map .str .str false), (.map (.int .i64) ty2 false), (.map (.int .i64) ty2 false)]⟩
abbrev jour_Store_Get_outs : List Sh := [⟨[(.tup [(false, [(.val .str)]), (false, [(.val .bool)])])], [(.obj 72 [(.ptr 1 0), (.map 2), (.val (.int .i64)), (.val (.int .i64)), (.val (.int .i64))]), (.obj 92 [(.val (.int .i64)), (.map 3), (.map 4), (.val (.int .i64)), (.val (.int .i64)), (.val .bool)]), (.map .str .str false), (.map (.int .i64) ty2 false), (.map (.int .i64) ty2 false)]⟩]
def jour_Store_Get : Nat → jour_Store_Get_ins.T → Option (OutsT jour_Store_Get_outs)
  | 0, _ => none
  | n + 1, ((_, x1, _), ((_, _, x2, x3, x4, _), (x5, _, _, x6, x7, x8, _), m9, m10, m11, _)) =>
    let v12 : ByteArray := (mfind (keyEq (.str : Ty)) x1 m9).getD (⟨#[]⟩ : ByteArray)
    some ((((v12, ()), ((mfind (keyEq (.str : Ty)) x1 m9).isSome, ()), ()), ()), (((), (), x2, x3, x4, ()), (x5, (), (), x6, x7, x8, ()), m9, m10, m11, ()))
def jour_Store_Get_H (n : Nat) : Hints := ⟨[], fun _ => [], fun _ => none, fun _ => none, fun _ => none, fun _ => 0⟩
def jour_Store_Get_O (n : Nat) : FuncId → List FSpec := asc []
def b14 : Code := bodyOf Tryz.f14
theorem jour_Store_Get_ok {S : Nat → Addr} (ok : CfgOk P CC S) : ∀ n, SpecOk P CC S 14 ⟨jour_Store_Get_ins, jour_Store_Get_outs, jour_Store_Get n⟩ :=
  fn_all ok (O := jour_Store_Get_O) (H := jour_Store_Get_H) (fn := Tryz.f14) (body := b14) (by kernel_rfl) (by kernel_rfl) (by kernel_rfl) (by decide) (by kernel_rfl)
    (fun x => by kernel_rfl) (fun n => by
      rintro ⟨⟨⟨⟩, x1, ⟨⟩⟩, ⟨⟨⟨⟩, ⟨⟩, x2, x3, x4, ⟨⟩⟩, ⟨x5, ⟨⟩, ⟨⟩, x6, x7, x8, ⟨⟩⟩, x9, x10, x11, ⟨⟩⟩⟩
      kernel_rfl)
    (fun n => obl_of (by kernel_rfl) (by kernel_rfl) (lz) (cn (cn (cn (cz) (by kernel_rfl)) (by kernel_rfl)) (by kernel_rfl)) (hn fun _ => rfl))
    (fun n ih => asc_nil)
/-! ### (*pendulum/jour.Store).Keys -/
abbrev jour_Store_Keys_ins : Sh := ⟨[(.one (.ptr 0 0))], [(.obj 72 [(.ptr 1 0), (.map 2), (.val (.int .i64)), (.val (.int .i64)), (.val (.int .i64))]), (.obj 92 [(.val (.int .i64)), (.map 3), (.map 4), (.val (.int .i64)), (.val (.int .i64)), (.val .bool)]), (.map .str .str false), (.map (.int .i64) ty2 false), (.map (.int .i64) ty2 false)]⟩
abbrev jour_Store_Keys_outs : List Sh := [⟨[(.one (.arr 5))], [(.obj 72 [(.ptr 1 0), (.map 2), (.val (.int .i64)), (.val (.int .i64)), (.val (.int .i64))]), (.obj 92 [(.val (.int .i64)), (.map 3), (.map 4), (.val (.int .i64)), (.val (.int .i64)), (.val .bool)]), (.map .str .str false), (.map (.int .i64) ty2 false), (.map (.int .i64) ty2 false), (.arr 9 .str)]⟩]
def jour_Store_Keys : Nat → jour_Store_Keys_ins.T → Option (OutsT jour_Store_Keys_outs)
  | 0, _ => none
  | n + 1, ((_, _), ((_, _, x1, x2, x3, _), (x4, _, _, x5, x6, x7, _), m8, m9, m10, _)) =>
    match maps_Keys_map_string_string_string_string n (((), ()), (m8, ())) with
    | some ((_, _), (m11, (_, _), _)) => (
      match slices_Sorted_57 n (((), ()), (((), ()), m11, ())) with
      | some ((_, _), ((_, _), m12, l13, _)) => (
        some (((), ()), (((), (), x1, x2, x3, ()), (x4, (), (), x5, x6, x7, ()), m12, m9, m10, l13, ())))
      | none => none)
    | none => none
def jour_Store_Keys_H (n : Nat) : Hints := ⟨[], fun _ => [], fun _ => none, fun _ => none, fun _ => none, fun _ => 0⟩
def jour_Store_Keys_O (n : Nat) : FuncId → List FSpec := asc [(37, ⟨slices_Sorted_57_ins, slices_Sorted_57_outs, slices_Sorted_57 n⟩), (38, ⟨maps_Keys_map_string_string_string_string_ins, maps_Keys_map_string_string_string_string_outs, maps_Keys_map_string_string_string_string n⟩)]
def b20 : Code := bodyOf Tryz.f20
theorem jour_Store_Keys_ok {S : Nat → Addr} (ok : CfgOk P CC S) : ∀ n, SpecOk P CC S 20 ⟨jour_Store_Keys_ins, jour_Store_Keys_outs, jour_Store_Keys n⟩ :=
  fn_all ok (O := jour_Store_Keys_O) (H := jour_Store_Keys_H) (fn := Tryz.f20) (body := b20) (by kernel_rfl) (by kernel_rfl) (by kernel_rfl) (by decide) (by kernel_rfl)
    (fun x => by kernel_rfl) (fun n => by
      rintro ⟨⟨⟨⟩, ⟨⟩⟩, ⟨⟨⟨⟩, ⟨⟩, x1, x2, x3, ⟨⟩⟩, ⟨x4, ⟨⟩, ⟨⟩, x5, x6, x7, ⟨⟩⟩, x8, x9, x10, ⟨⟩⟩⟩
      kernel_rfl)
    (fun n => obl_of (by kernel_rfl) (by kernel_rfl) (lz) (cn (cn (cz) (by kernel_rfl)) (by kernel_rfl)) (hn fun _ => rfl))
    (fun n ih => asc_cons (slices_Sorted_57_ok ok n) <| asc_cons (maps_Keys_map_string_string_string_string_ok ok n) <| asc_nil)
/-! ### pendulum/pendulumref.SameTexts -/
abbrev ref_SameTexts_ins : Sh := ⟨[(.one (.val ty4)), (.one (.val ty4))], []⟩
abbrev ref_SameTexts_outs : List Sh := [⟨[(.one (.val .bool))], []⟩]
abbrev ref_SameTexts_l4_h : Sh := ⟨[(.one (.val ty4)), (.one (.val ty4)), (.one (.val (.int .i64)))], []⟩
abbrev ref_SameTexts_l4_o : List Out := [⟨(.exit 0), [], ⟨[], []⟩⟩, ⟨.ret, [4], ⟨[(.one (.val .bool))], []⟩⟩]
def ref_SameTexts_l4 (n : Nat) : Nat → ref_SameTexts_l4_h.T → Option (OutT ref_SameTexts_l4_o)
  | 0, _ => none
  | k + 1, ((x1, x2, x3, _), _) =>
    if decide (x3 < (x1.length : Int)) then
      if 0 ≤ x3 ∧ x3 < (x1.length : Int) then (
        if 0 ≤ x3 ∧ x3 < (x2.length : Int) then (
          if !(strEq (rdT (.str : Ty) x1 x3) (rdT (.str : Ty) x2 x3)) then
            some (.inr (.inl ((false, ()), ())))
          else
            let v4 : Int := IntKind.i64.wrap (x3 + 1)
            ref_SameTexts_l4 n k ((x1, x2, v4, ()), ())) else none) else none
    else
      some (.inl ((), ()))
def ref_SameTexts : Nat → ref_SameTexts_ins.T → Option (OutsT ref_SameTexts_outs)
  | 0, _ => none
  | n + 1, ((x1, x2, _), _) =>
    if (x1.length : Int) != (x2.length : Int) then
      some ((false, ()), ())
    else
      match ref_SameTexts_l4 n n ((x1, x2, 0, ()), ()) with
      | some (.inl (_, _)) => (
        some ((true, ()), ()))
      | some (.inr (.inl ((x3, _), _))) => (
        some ((x3, ()), ()))
      | some (.inr (.inr (_))) => none
      | none => none
def ref_SameTexts_H (n : Nat) : Hints := ⟨[], fun _ => [], fun k => match k with | 4 => some ⟨[0, 1, 5], ref_SameTexts_l4_h, ref_SameTexts_l4_o, ref_SameTexts_l4 n⟩ | _ => none, fun _ => none, fun _ => none, fun _ => 0⟩
def ref_SameTexts_O (n : Nat) : FuncId → List FSpec := asc []
def b19 : Code := bodyOf Tryz.f19
theorem ref_SameTexts_l4_k0 (n : Nat) : LoopOk P CC (ref_SameTexts_O n) n 0 29 (ref_SameTexts_H n) ⟨[0, 1, 5], ref_SameTexts_l4_h, ref_SameTexts_l4_o, ref_SameTexts_l4 n⟩ ((loopsOf b19).getD 0 .skip) := by
  refine ⟨fun _ => by kernel_rfl, ?_⟩
  rintro k ⟨⟨x1, x2, x3, ⟨⟩⟩, ⟨⟩⟩
  kernel_rfl
theorem ref_SameTexts_ok {S : Nat → Addr} (ok : CfgOk P CC S) : ∀ n, SpecOk P CC S 19 ⟨ref_SameTexts_ins, ref_SameTexts_outs, ref_SameTexts n⟩ :=
  fn_all ok (O := ref_SameTexts_O) (H := ref_SameTexts_H) (fn := Tryz.f19) (body := b19) (by kernel_rfl) (by kernel_rfl) (by kernel_rfl) (by decide) (by kernel_rfl)
    (fun x => by kernel_rfl) (fun n => by
      rintro ⟨⟨x1, x2, ⟨⟩⟩, ⟨⟩⟩
      kernel_rfl)
    (fun n => obl_of (by kernel_rfl) (by kernel_rfl) (ls (lz) (by kernel_rfl) (ref_SameTexts_l4_k0 n)) (cn (cn (cn (cn (cn (cn (cn (cn (cn (cn (cn (cn (cn (cz) (by kernel_rfl)) (by kernel_rfl)) (by kernel_rfl)) (by kernel_rfl)) (by kernel_rfl)) (by kernel_rfl)) (by kernel_rfl)) (by kernel_rfl)) (by kernel_rfl)) (by kernel_rfl)) (by kernel_rfl)) (by kernel_rfl)) (by kernel_rfl)) (hn fun _ => rfl))
    (fun n ih => asc_nil)
/-! ### pendulum/pendulumlaw4.first -/
abbrev law4_first_ins : Sh := ⟨[], []⟩
abbrev law4_first_outs : List Sh := [⟨[(.one (.val .bool))], []⟩]
abbrev law4_first_c4_h : Sh := ⟨[(.one (.ptr 0 0))], [(.obj 72 [(.ptr 1 0), (.map 2), (.val (.int .i64)), (.val (.int .i64)), (.val (.int .i64))]), (.obj 92 [(.val (.int .i64)), (.map 3), (.map 4), (.val (.int .i64)), (.val (.int .i64)), (.val .bool)]), (.map .str .str false), (.map (.int .i64) ty2 false), (.map (.int .i64) ty2 false)]⟩
abbrev law4_first_c4_o : List Out := [⟨.normal, [1], ⟨[(.one (.ptr 0 0))], [(.obj 72 [(.ptr 1 0), (.map 2), (.val (.int .i64)), (.val (.int .i64)), (.val (.int .i64))]), (.obj 92 [(.val (.int .i64)), (.map 3), (.map 4), (.val (.int .i64)), (.val (.int .i64)), (.val .bool)]), (.map .str .str false), (.map (.int .i64) ty2 false), (.map (.int .i64) ty2 false)]⟩⟩, ⟨.ret, [0], ⟨[(.one (.val .bool))], []⟩⟩]
def law4_first_c4 (n : Nat) : law4_first_c4_h.T → Option (OutT law4_first_c4_o)
  | ((_, _), ((_, _, x1, x2, x3, _), (x4, _, _, x5, x6, x7, _), m8, m9, m10, _)) =>
    match jour_Store_Commit n (((), [((⟨#[97]⟩ : ByteArray), ((⟨#[49]⟩ : ByteArray), false))], ()), (((), (), x1, x2, x3, ()), (x4, (), (), x5, x6, x7, ()), m8, m9, m10, ())) with
    | some (.inl ((x11, _), ((_, _, x12, x13, x14, _), (x15, _, _, x16, x17, x18, _), m19, m20, m21, _))) => (
      if !(errNil x11) then
        some (.inr (.inl ((false, ()), ())))
      else
        match jour_Store_Commit n (((), [((⟨#[97]⟩ : ByteArray), ((⟨#[50]⟩ : ByteArray), false)), ((⟨#[98]⟩ : ByteArray), ((⟨#[51]⟩ : ByteArray), false))], ()), (((), (), x12, x13, x14, ()), (x15, (), (), x16, x17, x18, ()), m19, m20, m21, ())) with
        | some (.inl ((x34, _), ((_, _, x35, x36, x37, _), (x38, _, _, x39, x40, x41, _), m42, m43, m44, _))) => (
          if !(errNil x34) then
            some (.inr (.inl ((false, ()), ())))
          else
            some (.inl (((), ()), (((), (), x35, x36, x37, ()), (x38, (), (), x39, x40, x41, ()), m42, m43, m44, ()))))
        | some (.inr (((x45, _), ((_, _, x46, x47, x48, _), (x49, _, _, x50, x51, x52, _), m53, m54, m55, m56, _)))) => (
          if !(errNil x45) then
            some (.inr (.inl ((false, ()), ())))
          else
            some (.inl (((), ()), (((), (), x46, x47, x48, ()), (x49, (), (), x50, x51, x52, ()), m56, m54, m55, ()))))
        | none => none)
    | some (.inr (((x22, _), ((_, _, x23, x24, x25, _), (x26, _, _, x27, x28, x29, _), m30, m31, m32, m33, _)))) => (
      if !(errNil x22) then
        some (.inr (.inl ((false, ()), ())))
      else
        match jour_Store_Commit n (((), [((⟨#[97]⟩ : ByteArray), ((⟨#[50]⟩ : ByteArray), false)), ((⟨#[98]⟩ : ByteArray), ((⟨#[51]⟩ : ByteArray), false))], ()), (((), (), x23, x24, x25, ()), (x26, (), (), x27, x28, x29, ()), m33, m31, m32, ())) with
        | some (.inl ((x57, _), ((_, _, x58, x59, x60, _), (x61, _, _, x62, x63, x64, _), m65, m66, m67, _))) => (
          if !(errNil x57) then
            some (.inr (.inl ((false, ()), ())))
          else
            some (.inl (((), ()), (((), (), x58, x59, x60, ()), (x61, (), (), x62, x63, x64, ()), m65, m66, m67, ()))))
        | some (.inr (((x68, _), ((_, _, x69, x70, x71, _), (x72, _, _, x73, x74, x75, _), m76, m77, m78, m79, _)))) => (
          if !(errNil x68) then
            some (.inr (.inl ((false, ()), ())))
          else
            some (.inl (((), ()), (((), (), x69, x70, x71, ()), (x72, (), (), x73, x74, x75, ()), m79, m77, m78, ()))))
        | none => none)
    | none => none
def law4_first : Nat → law4_first_ins.T → Option (OutsT law4_first_outs)
  | 0, _ => none
  | n + 1, (_, _) =>
    match law4_opened n ((64, ()), ()) with
    | some (.inl ((((_, _), (_, _), _), _), ((_, _, x1, x2, x3, _), (x4, _, _, x5, x6, x7, _), m8, m9, m10, _))) => (
      match law4_first_c4 n (((), ()), (((), (), x1, x2, x3, ()), (x4, (), (), x5, x6, x7, ()), m8, m9, m10, ())) with
      | some (.inl ((_, _), ((_, _, x17, x18, x19, _), (x20, _, _, x21, x22, x23, _), m24, m25, m26, _))) => (
        match jour_Store_Get n (((), (⟨#[97]⟩ : ByteArray), ()), (((), (), x17, x18, x19, ()), (x20, (), (), x21, x22, x23, ()), m24, m25, m26, ())) with
        | some ((((x28, _), (x29, _), _), _), ((_, _, x30, x31, x32, _), (x33, _, _, x34, x35, x36, _), m37, m38, m39, _)) => (
          if x29 then
            if strEq x28 (⟨#[50]⟩ : ByteArray) then
              match jour_Store_Keys n (((), ()), (((), (), x30, x31, x32, ()), (x33, (), (), x34, x35, x36, ()), m37, m38, m39, ())) with
              | some ((_, _), ((_, _, x40, x41, x42, _), (x43, _, _, x44, x45, x46, _), m47, m48, m49, l50, _)) => (
                match ref_SameTexts n ((l50, [(⟨#[97]⟩ : ByteArray), (⟨#[98]⟩ : ByteArray)], ()), ()) with
                | some ((x51, _), _) => (
                  some ((x51, ()), ()))
                | none => none)
              | none => none
            else
              some ((false, ()), ())
          else
            some ((false, ()), ()))
        | none => none)
      | some (.inr (.inl ((x27, _), _))) => (
        some ((x27, ()), ()))
      | some (.inr (.inr (_))) => none
      | none => none)
    | some (.inr (.inl ((((_, _), (_, _), _), _), ((x11, _, _, x12, x13, x14, _), m15, m16, _)))) => (
      none)
    | some (.inr (.inr (((((_, _), (_, _), _), _), _)))) => (
      none)
    | none => none
def law4_first_H (n : Nat) : Hints := ⟨[], fun _ => [], fun _ => none, fun k => match k with | 4 => some ⟨[1], law4_first_c4_h, law4_first_c4_o, fun n => law4_first_c4 n⟩ | _ => none, fun _ => none, fun _ => 0⟩
def law4_first_O (n : Nat) : FuncId → List FSpec := asc [(8, ⟨law4_opened_ins, law4_opened_outs, law4_opened n⟩), (11, ⟨jour_Store_Commit_ins, jour_Store_Commit_outs, jour_Store_Commit n⟩), (14, ⟨jour_Store_Get_ins, jour_Store_Get_outs, jour_Store_Get n⟩), (19, ⟨ref_SameTexts_ins, ref_SameTexts_outs, ref_SameTexts n⟩), (20, ⟨jour_Store_Keys_ins, jour_Store_Keys_outs, jour_Store_Keys n⟩)]
def b6 : Code := bodyOf Tryz.f6
theorem law4_first_c4_k2 (n : Nat) : CutOk P CC (law4_first_O n) n 0 42 (law4_first_H n) ⟨[1], law4_first_c4_h, law4_first_c4_o, fun n => law4_first_c4 n⟩ ((cutsOf b6).getD 2 (0, .skip)).2 := by
  rintro ⟨⟨⟨⟩, ⟨⟩⟩, ⟨⟨⟨⟩, ⟨⟩, x1, x2, x3, ⟨⟩⟩, ⟨x4, ⟨⟩, ⟨⟩, x5, x6, x7, ⟨⟩⟩, x8, x9, x10, ⟨⟩⟩⟩
  kernel_rfl
theorem law4_first_ok {S : Nat → Addr} (ok : CfgOk P CC S) : ∀ n, SpecOk P CC S 6 ⟨law4_first_ins, law4_first_outs, law4_first n⟩ :=
  fn_all ok (O := law4_first_O) (H := law4_first_H) (fn := Tryz.f6) (body := b6) (by kernel_rfl) (by kernel_rfl) (by kernel_rfl) (by decide) (by kernel_rfl)
    (fun x => by kernel_rfl) (fun n => by
      rintro ⟨⟨⟩, ⟨⟩⟩
      kernel_rfl)
    (fun n => obl_of (by kernel_rfl) (by kernel_rfl) (lz) (cn (cn (cn (cn (cs (cn (cn (cz) (by kernel_rfl)) (by kernel_rfl)) (by kernel_rfl) (law4_first_c4_k2 n)) (by kernel_rfl)) (by kernel_rfl)) (by kernel_rfl)) (by kernel_rfl)) (hn fun _ => rfl))
    (fun n ih => asc_cons (law4_opened_ok ok n) <| asc_cons (jour_Store_Commit_ok ok n) <| asc_cons (jour_Store_Get_ok ok n) <| asc_cons (ref_SameTexts_ok ok n) <| asc_cons (jour_Store_Keys_ok ok n) <| asc_nil)
/-! ### pendulum/pendulumworld.Number -/
abbrev world_Number_ins : Sh := ⟨[(.one (.val (.int .i64))), (.one (.val (.int .i64)))], []⟩
abbrev world_Number_outs : List Sh := [⟨[(.one (.val (.int .i64)))], []⟩]
def world_Number : Nat → world_Number_ins.T → Option (OutsT world_Number_outs)
  | 0, _ => none
  | n + 1, ((x1, x2, _), _) =>
    if x2 = 0 then
      none
    else
      if decide (Int.tmod x1 x2 < 0) then
        let v3 : Int := IntKind.i64.wrap ((Int.tmod x1 x2) + x2)
        some ((v3, ()), ())
      else
        some ((Int.tmod x1 x2, ()), ())
def world_Number_H (n : Nat) : Hints := ⟨[], fun _ => [], fun _ => none, fun _ => none, fun _ => none, fun _ => 0⟩
def world_Number_O (n : Nat) : FuncId → List FSpec := asc []
def b16 : Code := bodyOf Tryz.f16
theorem world_Number_ok {S : Nat → Addr} (ok : CfgOk P CC S) : ∀ n, SpecOk P CC S 16 ⟨world_Number_ins, world_Number_outs, world_Number n⟩ :=
  fn_all ok (O := world_Number_O) (H := world_Number_H) (fn := Tryz.f16) (body := b16) (by kernel_rfl) (by kernel_rfl) (by kernel_rfl) (by decide) (by kernel_rfl)
    (fun x => by kernel_rfl) (fun n => by
      rintro ⟨⟨x1, x2, ⟨⟩⟩, ⟨⟩⟩
      kernel_rfl)
    (fun n => obl_of (by kernel_rfl) (by kernel_rfl) (lz) (cn (cn (cn (cn (cn (cz) (by kernel_rfl)) (by kernel_rfl)) (by kernel_rfl)) (by kernel_rfl)) (by kernel_rfl)) (hn fun _ => rfl))
    (fun n ih => asc_nil)
/-! ### strconv.Itoa (by hand) -/
abbrev strconv_Itoa_ins : Sh := ⟨[(.one (.val (.int .i64)))], []⟩
abbrev strconv_Itoa_outs : List Sh := [⟨[(.one (.val .str))], []⟩]
def strconv_Itoa : Nat → strconv_Itoa_ins.T → Option (OutsT strconv_Itoa_outs) := fun _ => itoaSem
theorem strconv_Itoa_ok {S : Nat → Addr} (ok : CfgOk P CC S) : ∀ n, SpecOk P CC S 36 ⟨strconv_Itoa_ins, strconv_Itoa_outs, strconv_Itoa n⟩ := fun n => itoa_spec ⟨Tryz.f36, by kernel_rfl, by kernel_rfl, by kernel_rfl⟩ (.head _) (by kernel_rfl) Tryz.strconv_Itoa
/-! ### pendulum/pendulumworld.Num -/
abbrev world_Num_ins : Sh := ⟨[(.one (.val (.int .i64)))], []⟩
abbrev world_Num_outs : List Sh := [⟨[(.one (.val .str))], []⟩]
def world_Num : Nat → world_Num_ins.T → Option (OutsT world_Num_outs)
  | 0, _ => none
  | n + 1, ((x1, _), _) =>
    match strconv_Itoa n ((x1, ()), ()) with
    | some ((x2, _), _) => (
      some ((x2, ()), ()))
    | none => none
def world_Num_H (n : Nat) : Hints := ⟨[], fun _ => [], fun _ => none, fun _ => none, fun _ => none, fun _ => 0⟩
def world_Num_O (n : Nat) : FuncId → List FSpec := asc [(36, ⟨strconv_Itoa_ins, strconv_Itoa_outs, strconv_Itoa n⟩)]
def b18 : Code := bodyOf Tryz.f18
theorem world_Num_ok {S : Nat → Addr} (ok : CfgOk P CC S) : ∀ n, SpecOk P CC S 18 ⟨world_Num_ins, world_Num_outs, world_Num n⟩ :=
  fn_all ok (O := world_Num_O) (H := world_Num_H) (fn := Tryz.f18) (body := b18) (by kernel_rfl) (by kernel_rfl) (by kernel_rfl) (by decide) (by kernel_rfl)
    (fun x => by kernel_rfl) (fun n => by
      rintro ⟨⟨x1, ⟨⟩⟩, ⟨⟩⟩
      kernel_rfl)
    (fun n => obl_of (by kernel_rfl) (by kernel_rfl) (lz) (cn (cn (cz) (by kernel_rfl)) (by kernel_rfl)) (hn fun _ => rfl))
    (fun n ih => asc_cons (strconv_Itoa_ok ok n) <| asc_nil)
/-! ### (*pendulum/jour.Store).Used -/
abbrev jour_Store_Used_ins : Sh := ⟨[(.one (.ptr 0 0))], [(.obj 72 [(.ptr 1 0), (.map 2), (.val (.int .i64)), (.val (.int .i64)), (.val (.int .i64))]), (.obj 92 [(.val (.int .i64)), (.map 3), (.map 4), (.val (.int .i64)), (.val (.int .i64)), (.val .bool)]), (.map .str .str false), (.map (.int .i64) ty2 false), (.map (.int .i64) ty2 false)]⟩
abbrev jour_Store_Used_outs : List Sh := [⟨[(.one (.val (.int .i64)))], [(.obj 72 [(.ptr 1 0), (.map 2), (.val (.int .i64)), (.val (.int .i64)), (.val (.int .i64))]), (.obj 92 [(.val (.int .i64)), (.map 3), (.map 4), (.val (.int .i64)), (.val (.int .i64)), (.val .bool)]), (.map .str .str false), (.map (.int .i64) ty2 false), (.map (.int .i64) ty2 false)]⟩]
def jour_Store_Used : Nat → jour_Store_Used_ins.T → Option (OutsT jour_Store_Used_outs)
  | 0, _ => none
  | n + 1, ((_, _), ((_, _, x1, x2, x3, _), (x4, _, _, x5, x6, x7, _), m8, m9, m10, _)) =>
    if decide (x1 < 0) then
      some ((0, ()), (((), (), x1, x2, x3, ()), (x4, (), (), x5, x6, x7, ()), m8, m9, m10, ()))
    else
      match jour_bounds n (((), x1, ()), ((x4, (), (), x5, x6, x7, ()), m9, m10, ())) with
      | some ((((x11, _), (x12, _), _), _), ((x13, _, _, x14, x15, x16, _), m17, m18, _)) => (
        let v19 : Int := IntKind.i64.wrap (x2 - x11)
        some ((v19, ()), (((), (), x1, x2, x3, ()), (x13, (), (), x14, x15, x16, ()), m8, m17, m18, ())))
      | none => none
def jour_Store_Used_H (n : Nat) : Hints := ⟨[], fun _ => [], fun _ => none, fun _ => none, fun _ => none, fun _ => 0⟩
def jour_Store_Used_O (n : Nat) : FuncId → List FSpec := asc [(28, ⟨jour_bounds_ins, jour_bounds_outs, jour_bounds n⟩)]
def b17 : Code := bodyOf Tryz.f17
theorem jour_Store_Used_ok {S : Nat → Addr} (ok : CfgOk P CC S) : ∀ n, SpecOk P CC S 17 ⟨jour_Store_Used_ins, jour_Store_Used_outs, jour_Store_Used n⟩ :=
  fn_all ok (O := jour_Store_Used_O) (H := jour_Store_Used_H) (fn := Tryz.f17) (body := b17) (by kernel_rfl) (by kernel_rfl) (by kernel_rfl) (by decide) (by kernel_rfl)
    (fun x => by kernel_rfl) (fun n => by
      rintro ⟨⟨⟨⟩, ⟨⟩⟩, ⟨⟨⟨⟩, ⟨⟩, x1, x2, x3, ⟨⟩⟩, ⟨x4, ⟨⟩, ⟨⟩, x5, x6, x7, ⟨⟩⟩, x8, x9, x10, ⟨⟩⟩⟩
      kernel_rfl)
    (fun n => obl_of (by kernel_rfl) (by kernel_rfl) (lz) (cn (cn (cn (cn (cn (cn (cz) (by kernel_rfl)) (by kernel_rfl)) (by kernel_rfl)) (by kernel_rfl)) (by kernel_rfl)) (by kernel_rfl)) (hn fun _ => rfl))
    (fun n ih => asc_cons (jour_bounds_ok ok n) <| asc_nil)
/-! ### pendulum/pendulumlaw4.JourGoes -/
abbrev law4_JourGoes_ins : Sh := ⟨[(.one (.val (.int .i64))), (.one (.val (.int .i64)))], []⟩
abbrev law4_JourGoes_outs : List Sh := [⟨[(.one (.val .bool))], []⟩]
abbrev law4_JourGoes_l14_h : Sh := ⟨[(.one (.val (.int .i64))), (.one (.val (.int .i64))), (.one (.val .bool)), (.one (.ptr 0 0)), (.one (.ptr 1 0)), (.one (.val (.int .i64))), (.one (.arr 2)), (.one (.val (.int .i64)))], [(.obj 72 [(.ptr 1 0), (.map 3), (.val (.int .i64)), (.val (.int .i64)), (.val (.int .i64))]), (.obj 92 [(.val (.int .i64)), (.map 4), (.map 5), (.val (.int .i64)), (.val (.int .i64)), (.val .bool)]), (.arr 5 (.int .u8)), (.map .str .str false), (.map (.int .i64) ty2 false), (.map (.int .i64) ty2 false)]⟩
abbrev law4_JourGoes_l14_o : List Out := [⟨(.exit 2), [0, 1, 5, 6, 7, 8, 9], ⟨[(.one (.val (.int .i64))), (.one (.val (.int .i64))), (.one (.val .bool)), (.one (.ptr 0 0)), (.one (.ptr 1 0)), (.one (.val (.int .i64))), (.one (.arr 2))], [(.obj 72 [(.ptr 1 0), (.map 3), (.val (.int .i64)), (.val (.int .i64)), (.val (.int .i64))]), (.obj 92 [(.val (.int .i64)), (.map 4), (.map 5), (.val (.int .i64)), (.val (.int .i64)), (.val .bool)]), (.arr 5 (.int .u8)), (.map .str .str false), (.map (.int .i64) ty2 false), (.map (.int .i64) ty2 false)]⟩⟩]
def law4_JourGoes_l14 (n : Nat) : Nat → law4_JourGoes_l14_h.T → Option (OutT law4_JourGoes_l14_o)
  | 0, _ => none
  | k + 1, ((x1, x2, x3, _, _, x4, _, x5, _), ((_, _, x6, x7, x8, _), (x9, _, _, x10, x11, x12, _), l13, m14, m15, m16, _)) =>
    if decide (x5 < (l13.length : Int)) then
      if 0 ≤ x5 ∧ x5 < (l13.length : Int) then (
        let v17 : Int := IntKind.i64.wrap (x5 + 1)
        law4_JourGoes_l14 n k ((x1, x2, x3, (), (), x4, (), v17, ()), (((), (), x6, x7, x8, ()), (x9, (), (), x10, x11, x12, ()), List.set l13 (x5 : Int).toNat (IntKind.u8.wrap x4), m14, m15, m16, ()))) else none
    else
      some (.inl ((x1, x2, x3, (), (), x4, (), ()), (((), (), x6, x7, x8, ()), (x9, (), (), x10, x11, x12, ()), l13, m14, m15, m16, ())))
abbrev law4_JourGoes_l10_h : Sh := ⟨[(.one (.val (.int .i64))), (.one (.val (.int .i64))), (.one (.val .bool)), (.one (.ptr 0 0)), (.one (.ptr 1 0)), (.one (.val (.int .i64)))], [(.obj 72 [(.ptr 1 0), (.map 2), (.val (.int .i64)), (.val (.int .i64)), (.val (.int .i64))]), (.obj 92 [(.val (.int .i64)), (.map 3), (.map 4), (.val (.int .i64)), (.val (.int .i64)), (.val .bool)]), (.map .str .str false), (.map (.int .i64) ty2 false), (.map (.int .i64) ty2 false)]⟩
abbrev law4_JourGoes_l10_o : List Out := [⟨(.exit 0), [0, 5, 7], ⟨[(.one (.val (.int .i64))), (.one (.val .bool)), (.one (.ptr 0 0))], [(.obj 92 [(.val (.int .i64)), (.map 1), (.map 2), (.val (.int .i64)), (.val (.int .i64)), (.val .bool)]), (.map (.int .i64) ty2 false), (.map (.int .i64) ty2 false)]⟩⟩, ⟨.ret, [4], ⟨[(.one (.val .bool))], []⟩⟩]
def law4_JourGoes_l10 (n : Nat) : Nat → law4_JourGoes_l10_h.T → Option (OutT law4_JourGoes_l10_o)
  | 0, _ => none
  | k + 1, ((x1, x2, x3, _, _, x4, _), ((_, _, x5, x6, x7, _), (x8, _, _, x9, x10, x11, _), m12, m13, m14, _)) =>
    if decide (x4 < x1) then
      if 0 ≤ x2 ∧ x2 ≤ x2 ∧ x2 * ((1 : Nat) : Int) ≤ 140737488355328 ∧ x2 ≤ 140737488355328 then (
        match law4_JourGoes_l14 n n ((x1, x2, x3, (), (), x4, (), 0, ()), (((), (), x5, x6, x7, ()), (x8, (), (), x9, x10, x11, ()), List.replicate (x2 : Int).toNat 0, m12, m13, m14, ())) with
        | some (.inl ((x15, x16, x17, _, _, x18, _, _), ((_, _, x19, x20, x21, _), (x22, _, _, x23, x24, x25, _), l26, m27, m28, m29, _))) => (
          match world_Num n ((x18, ()), ()) with
          | some ((x30, _), _) => (
            match jour_Store_Commit n (((), [((⟨#[97]⟩ : ByteArray), (strOfNums l26, false)), ((⟨#[110]⟩ : ByteArray), (x30, false))], ()), (((), (), x19, x20, x21, ()), (x22, (), (), x23, x24, x25, ()), m27, m28, m29, ())) with
            | some (.inl ((x31, _), ((_, _, x32, x33, x34, _), (x35, _, _, x36, x37, x38, _), m39, m40, m41, _))) => (
              if !(errNil x31) then
                some (.inr (.inl ((false, ()), ())))
              else
                let v54 : Int := IntKind.i64.wrap (x18 + 1)
                law4_JourGoes_l10 n k ((x15, x16, x17, (), (), v54, ()), (((), (), x32, x33, x34, ()), (x35, (), (), x36, x37, x38, ()), m39, m40, m41, ())))
            | some (.inr (((x42, _), ((_, _, x43, x44, x45, _), (x46, _, _, x47, x48, x49, _), m50, m51, m52, m53, _)))) => (
              if !(errNil x42) then
                some (.inr (.inl ((false, ()), ())))
              else
                let v55 : Int := IntKind.i64.wrap (x18 + 1)
                law4_JourGoes_l10 n k ((x15, x16, x17, (), (), v55, ()), (((), (), x43, x44, x45, ()), (x46, (), (), x47, x48, x49, ()), m53, m51, m52, ())))
            | none => none)
          | none => none)
        | some (.inr (_)) => none
        | none => none) else none
    else
      some (.inl ((x1, x3, (), ()), ((x8, (), (), x9, x10, x11, ()), m13, m14, ())))
def law4_JourGoes : Nat → law4_JourGoes_ins.T → Option (OutsT law4_JourGoes_outs)
  | 0, _ => none
  | n + 1, ((x1, x2, _), _) =>
    match law4_first n ((), ()) with
    | some ((x3, _), _) => (
      if !x3 then
        some ((false, ()), ())
      else
        match world_Number n ((x1, 400, ()), ()) with
        | some ((x4, _), _) => (
          match world_Number n ((x2, 200, ()), ()) with
          | some ((x5, _), _) => (
            match law4_opened n ((120, ()), ()) with
            | some (.inl ((((_, _), (_, _), _), _), ((_, _, x6, x7, x8, _), (x9, _, _, x10, x11, x12, _), m13, m14, m15, _))) => (
              match law4_JourGoes_l10 n n ((x4, x5, x3, (), (), 0, ()), (((), (), x6, x7, x8, ()), (x9, (), (), x10, x11, x12, ()), m13, m14, m15, ())) with
              | some (.inl ((x22, x23, _, _), ((x24, _, _, x25, x26, x27, _), m28, m29, _))) => (
                match jour_Open n (((), ()), ((x24, (), (), x25, x26, x27, ()), m28, m29, ())) with
                | some (.inl ((((_, _), (x31, _), _), _), ((x32, _, _, x33, x34, x35, _), m36, m37, (_, _, x38, x39, x40, _), m41, _))) => (
                  if !(errNil x31) then
                    some ((false, ()), ())
                  else
                    match jour_Store_Get n (((), (⟨#[110]⟩ : ByteArray), ()), (((), (), x38, x39, x40, ()), (x32, (), (), x33, x34, x35, ()), m41, m36, m37, ())) with
                    | some ((((x49, _), (x50, _), _), _), ((_, _, x51, x52, x53, _), (x54, _, _, x55, x56, x57, _), m58, m59, m60, _)) => (
                      if x23 then
                        if x50 == (decide (x22 > 0)) then
                          if x22 == 0 then
                            match jour_Store_Used n (((), ()), (((), (), x51, x52, x53, ()), (x54, (), (), x55, x56, x57, ()), m58, m59, m60, ())) with
                            | some ((x61, _), ((_, _, x62, x63, x64, _), (x65, _, _, x66, x67, x68, _), m69, m70, m71, _)) => (
                              some ((decide (x61 ≤ 120), ()), ()))
                            | none => none
                          else
                            let v72 : Int := IntKind.i64.wrap (x22 - 1)
                            match world_Num n ((v72, ()), ()) with
                            | some ((x73, _), _) => (
                              if strEq x49 x73 then
                                match jour_Store_Used n (((), ()), (((), (), x51, x52, x53, ()), (x54, (), (), x55, x56, x57, ()), m58, m59, m60, ())) with
                                | some ((x74, _), ((_, _, x75, x76, x77, _), (x78, _, _, x79, x80, x81, _), m82, m83, m84, _)) => (
                                  some ((decide (x74 ≤ 120), ()), ()))
                                | none => none
                              else
                                some ((false, ()), ()))
                            | none => none
                        else
                          some ((false, ()), ())
                      else
                        some ((false, ()), ()))
                    | none => none)
                | some (.inr (((((_, _), (x42, _), _), _), ((x43, _, _, x44, x45, x46, _), m47, m48, _)))) => (
                  some ((false, ()), ()))
                | none => none)
              | some (.inr (.inl ((x30, _), _))) => (
                some ((x30, ()), ()))
              | some (.inr (.inr (_))) => none
              | none => none)
            | some (.inr (.inl ((((_, _), (_, _), _), _), ((x16, _, _, x17, x18, x19, _), m20, m21, _)))) => (
              some ((false, ()), ()))
            | some (.inr (.inr (((((_, _), (_, _), _), _), _)))) => (
              some ((false, ()), ()))
            | none => none)
          | none => none)
        | none => none)
    | none => none
def law4_JourGoes_H (n : Nat) : Hints := ⟨[], fun _ => [], fun k => match k with | 14 => some ⟨[0, 1, 5, 6, 7, 8, 9, 10], law4_JourGoes_l14_h, law4_JourGoes_l14_o, law4_JourGoes_l14 n⟩ | 10 => some ⟨[0, 1, 5, 6, 7, 8], law4_JourGoes_l10_h, law4_JourGoes_l10_o, law4_JourGoes_l10 n⟩ | _ => none, fun _ => none, fun _ => none, fun _ => 0⟩
def law4_JourGoes_O (n : Nat) : FuncId → List FSpec := asc [(6, ⟨law4_first_ins, law4_first_outs, law4_first n⟩), (8, ⟨law4_opened_ins, law4_opened_outs, law4_opened n⟩), (11, ⟨jour_Store_Commit_ins, jour_Store_Commit_outs, jour_Store_Commit n⟩), (13, ⟨jour_Open_ins, jour_Open_outs, jour_Open n⟩), (14, ⟨jour_Store_Get_ins, jour_Store_Get_outs, jour_Store_Get n⟩), (16, ⟨world_Number_ins, world_Number_outs, world_Number n⟩), (17, ⟨jour_Store_Used_ins, jour_Store_Used_outs, jour_Store_Used n⟩), (18, ⟨world_Num_ins, world_Num_outs, world_Num n⟩)]
def b5 : Code := bodyOf Tryz.f5
theorem law4_JourGoes_l10_k0 (n : Nat) : LoopOk P CC (law4_JourGoes_O n) n 0 95 (law4_JourGoes_H n) ⟨[0, 1, 5, 6, 7, 8], law4_JourGoes_l10_h, law4_JourGoes_l10_o, law4_JourGoes_l10 n⟩ ((loopsOf b5).getD 0 .skip) := by
  refine ⟨fun _ => by kernel_rfl, ?_⟩
  rintro k ⟨⟨x1, x2, x3, ⟨⟩, ⟨⟩, x4, ⟨⟩⟩, ⟨⟨⟨⟩, ⟨⟩, x5, x6, x7, ⟨⟩⟩, ⟨x8, ⟨⟩, ⟨⟩, x9, x10, x11, ⟨⟩⟩, x12, x13, x14, ⟨⟩⟩⟩
  kernel_rfl
theorem law4_JourGoes_l14_k1 (n : Nat) : LoopOk P CC (law4_JourGoes_O n) n 0 95 (law4_JourGoes_H n) ⟨[0, 1, 5, 6, 7, 8, 9, 10], law4_JourGoes_l14_h, law4_JourGoes_l14_o, law4_JourGoes_l14 n⟩ ((loopsOf b5).getD 1 .skip) := by
  refine ⟨fun _ => by kernel_rfl, ?_⟩
  rintro k ⟨⟨x1, x2, x3, ⟨⟩, ⟨⟩, x4, ⟨⟩, x5, ⟨⟩⟩, ⟨⟨⟨⟩, ⟨⟩, x6, x7, x8, ⟨⟩⟩, ⟨x9, ⟨⟩, ⟨⟩, x10, x11, x12, ⟨⟩⟩, x13, x14, x15, x16, ⟨⟩⟩⟩
  kernel_rfl
theorem law4_JourGoes_ok {S : Nat → Addr} (ok : CfgOk P CC S) : ∀ n, SpecOk P CC S 5 ⟨law4_JourGoes_ins, law4_JourGoes_outs, law4_JourGoes n⟩ :=
  fn_all ok (O := law4_JourGoes_O) (H := law4_JourGoes_H) (fn := Tryz.f5) (body := b5) (by kernel_rfl) (by kernel_rfl) (by kernel_rfl) (by decide) (by kernel_rfl)
    (fun x => by kernel_rfl) (fun n => by
      rintro ⟨⟨x1, x2, ⟨⟩⟩, ⟨⟩⟩
      kernel_rfl)
    (fun n => obl_of (by kernel_rfl) (by kernel_rfl) (ls (ls (lz) (by kernel_rfl) (law4_JourGoes_l10_k0 n)) (by kernel_rfl) (law4_JourGoes_l14_k1 n)) (cn (cn (cn (cn (cn (cn (cn (cn (cn (cn (cn (cn (cn (cn (cn (cn (cn (cn (cn (cn (cn (cn (cn (cn (cn (cn (cn (cn (cn (cn (cz) (by kernel_rfl)) (by kernel_rfl)) (by kernel_rfl)) (by kernel_rfl)) (by kernel_rfl)) (by kernel_rfl)) (by kernel_rfl)) (by kernel_rfl)) (by kernel_rfl)) (by kernel_rfl)) (by kernel_rfl)) (by kernel_rfl)) (by kernel_rfl)) (by kernel_rfl)) (by kernel_rfl)) (by kernel_rfl)) (by kernel_rfl)) (by kernel_rfl)) (by kernel_rfl)) (by kernel_rfl)) (by kernel_rfl)) (by kernel_rfl)) (by kernel_rfl)) (by kernel_rfl)) (by kernel_rfl)) (by kernel_rfl)) (by kernel_rfl)) (by kernel_rfl)) (by kernel_rfl)) (by kernel_rfl)) (hn fun _ => rfl))
    (fun n ih => asc_cons (law4_first_ok ok n) <| asc_cons (law4_opened_ok ok n) <| asc_cons (jour_Store_Commit_ok ok n) <| asc_cons (jour_Open_ok ok n) <| asc_cons (jour_Store_Get_ok ok n) <| asc_cons (world_Number_ok ok n) <| asc_cons (jour_Store_Used_ok ok n) <| asc_cons (world_Num_ok ok n) <| asc_nil)
end
end Go.Proofs.YtodiddgpdmigcaaGreatDoor.Cm

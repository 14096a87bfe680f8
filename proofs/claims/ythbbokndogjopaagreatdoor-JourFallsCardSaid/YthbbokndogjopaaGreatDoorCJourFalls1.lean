/- Printed by cmtext.py: the code as plain functions. -/
import Derived.Test.YthbbokndogjopaaGreatDoorCJourFalls0
namespace Go.Proofs.YthbbokndogjopaaGreatDoor.Cm
open Go
noncomputable section
set_option linter.unusedVariables false
set_option maxRecDepth 100000
/-! ### (*pendulum/jour.Store).Commit -/
abbrev jour_Store_Commit_ins : Sh := ⟨[(.one (.ptr 0 0)), (.one (.val ty4))], [(.obj 68 [(.ptr 1 0), (.map 2), (.val (.int .i64)), (.val (.int .i64)), (.val (.int .i64))]), (.obj 61 [(.val (.int .i64)), (.map 3), (.map 4), (.val (.int .i64)), (.val (.int .i64)), (.val .bool)]), (.map .str .str false), (.map (.int .i64) ty2 false), (.map (.int .i64) ty2 false)]⟩
abbrev jour_Store_Commit_outs : List Sh := [⟨[(.one (.val .err))], [(.obj 68 [(.ptr 1 0), (.map 2), (.val (.int .i64)), (.val (.int .i64)), (.val (.int .i64))]), (.obj 61 [(.val (.int .i64)), (.map 3), (.map 4), (.val (.int .i64)), (.val (.int .i64)), (.val .bool)]), (.map .str .str false), (.map (.int .i64) ty2 false), (.map (.int .i64) ty2 false)]⟩, ⟨[(.one (.val .err))], [(.obj 68 [(.ptr 1 0), (.map 5), (.val (.int .i64)), (.val (.int .i64)), (.val (.int .i64))]), (.obj 61 [(.val (.int .i64)), (.map 3), (.map 4), (.val (.int .i64)), (.val (.int .i64)), (.val .bool)]), (.map .str .str false), (.map (.int .i64) ty2 false), (.map (.int .i64) ty2 false), (.map .str .str false)]⟩]
def jour_Store_Commit : Nat → jour_Store_Commit_ins.T → Option (OutsT jour_Store_Commit_outs)
  | 0, _ => none
  | n + 1, ((_, x1, _), ((_, _, x2, x3, x4, _), (x5, _, _, x6, x7, x8, _), m9, m10, m11, _)) =>
    match jour_Store_fits n (((), x1, ()), (((), (), x2, x3, x4, ()), (x5, (), (), x6, x7, x8, ()), m9, m10, m11, ())) with
    | some (.inl ((((_, _), (x12, _), _), _), ((_, _, x13, x14, x15, _), (x16, _, _, x17, x18, x19, _), m20, m21, m22, m23, _))) => (
      if !(errNil x12) then
        some (.inl ((x12, ()), (((), (), x13, x14, x15, ()), (x16, (), (), x17, x18, x19, ()), m20, m21, m22, ())))
      else
        match maps_Equal_25 n (((), (), ()), (m23, m20, ())) with
        | some ((x35, _), (m36, m37, _)) => (
          if x35 then
            some (.inl ((ErrV.nil, ()), (((), (), x13, x14, x15, ()), (x16, (), (), x17, x18, x19, ()), m37, m21, m22, ())))
          else
            match jour_bytes n ((1, x1, ()), ()) with
            | some ((_, _), (l38, _)) => (
              if decide (x13 ≥ 0) then
                match jour_bounds n (((), x13, ()), ((x16, (), (), x17, x18, x19, ()), m21, m22, ())) with
                | some ((((x39, _), (x40, _), _), _), ((x41, _, _, x42, x43, x44, _), m45, m46, _)) => (
                  match jour_sectors n (((), ()), (l38, ())) with
                  | some ((x47, _), (l48, _)) => (
                    let v49 : Int := IntKind.i64.wrap (x40 - x14)
                    if decide (x47 ≤ v49) then
                      match jour_Store_write n (((), x14, l48, ()), (((), (), x13, x14, x15, ()), (x41, (), (), x42, x43, x44, ()), m37, m45, m46, ())) with
                      | some ((x50, _), ((_, _, x51, x52, x53, _), (x54, _, _, x55, x56, x57, _), m58, m59, m60, _)) => (
                        if !(errNil x50) then
                          some (.inl ((x50, ()), (((), (), x51, x52, x53, ()), (x54, (), (), x55, x56, x57, ()), m58, m59, m60, ())))
                        else
                          match jour_sectors_2 n ((l48, ()), ()) with
                          | some ((x61, _), _) => (
                            let v62 : Int := IntKind.i64.wrap (x52 + x61)
                            some (.inr (((ErrV.nil, ()), (((), (), x51, v62, x53, ()), (x54, (), (), x55, x56, x57, ()), m58, m59, m60, m36, ())))))
                          | none => none)
                      | none => none
                    else
                      match jour_Store_all n (((), (), ()), (((), (), x13, x14, x15, ()), m36, (x41, (), (), x42, x43, x44, ()), m37, m45, m46, ())) with
                      | some (.inl ((x63, _), ((_, _, x64, x65, x66, _), m67, (x68, _, _, x69, x70, x71, _), m72, m73, m74, _))) => (
                        some (.inl ((x63, ()), (((), (), x64, x65, x66, ()), (x68, (), (), x69, x70, x71, ()), m72, m73, m74, ()))))
                      | some (.inr (((x75, _), ((_, _, x76, x77, x78, _), m79, (x80, _, _, x81, x82, x83, _), m84, m85, m86, _)))) => (
                        some (.inr (((x75, ()), (((), (), x76, x77, x78, ()), (x80, (), (), x81, x82, x83, ()), m84, m85, m86, m79, ())))))
                      | none => none)
                  | none => none)
                | none => none
              else
                match jour_Store_all n (((), (), ()), (((), (), x13, x14, x15, ()), m36, (x16, (), (), x17, x18, x19, ()), m37, m21, m22, ())) with
                | some (.inl ((x87, _), ((_, _, x88, x89, x90, _), m91, (x92, _, _, x93, x94, x95, _), m96, m97, m98, _))) => (
                  some (.inl ((x87, ()), (((), (), x88, x89, x90, ()), (x92, (), (), x93, x94, x95, ()), m96, m97, m98, ()))))
                | some (.inr (((x99, _), ((_, _, x100, x101, x102, _), m103, (x104, _, _, x105, x106, x107, _), m108, m109, m110, _)))) => (
                  some (.inr (((x99, ()), (((), (), x100, x101, x102, ()), (x104, (), (), x105, x106, x107, ()), m108, m109, m110, m103, ())))))
                | none => none)
            | none => none)
        | none => none)
    | some (.inr (((((_, _), (x24, _), _), _), ((_, _, x25, x26, x27, _), (x28, _, _, x29, x30, x31, _), m32, m33, m34, _)))) => (
      if !(errNil x24) then (
        some (.inl ((x24, ()), (((), (), x25, x26, x27, ()), (x28, (), (), x29, x30, x31, ()), m32, m33, m34, ())))) else none)
    | none => none
def jour_Store_Commit_H (n : Nat) : Hints := ⟨[], fun _ => [], fun _ => none, fun _ => none, fun _ => none, fun _ => 0⟩
def jour_Store_Commit_O (n : Nat) : FuncId → List FSpec := asc [(24, ⟨jour_Store_fits_ins, jour_Store_fits_outs, jour_Store_fits n⟩), (25, ⟨maps_Equal_25_ins, maps_Equal_25_outs, maps_Equal_25 n⟩), (26, ⟨jour_bytes_ins, jour_bytes_outs, jour_bytes n⟩), (27, ⟨jour_bounds_ins, jour_bounds_outs, jour_bounds n⟩), (28, ⟨jour_sectors_ins, jour_sectors_outs, jour_sectors n⟩), (28, ⟨jour_sectors_2_ins, jour_sectors_2_outs, jour_sectors_2 n⟩), (29, ⟨jour_Store_write_ins, jour_Store_write_outs, jour_Store_write n⟩), (30, ⟨jour_Store_all_ins, jour_Store_all_outs, jour_Store_all n⟩)]
def b11 : Code := bodyOf Tryz.f11
theorem jour_Store_Commit_ok {S : Nat → Addr} (ok : CfgOk P CC S) : ∀ n, SpecOk P CC S 11 ⟨jour_Store_Commit_ins, jour_Store_Commit_outs, jour_Store_Commit n⟩ :=
  fn_all ok (O := jour_Store_Commit_O) (H := jour_Store_Commit_H) (fn := Tryz.f11) (body := b11) (by kernel_rfl) (by kernel_rfl) (by kernel_rfl) (by decide) (by kernel_rfl)
    (fun x => by kernel_rfl) (fun n => by
      rintro ⟨⟨⟨⟩, x1, ⟨⟩⟩, ⟨⟨⟨⟩, ⟨⟩, x2, x3, x4, ⟨⟩⟩, ⟨x5, ⟨⟩, ⟨⟩, x6, x7, x8, ⟨⟩⟩, x9, x10, x11, ⟨⟩⟩⟩
      kernel_rfl)
    (fun n => obl_of (by kernel_rfl) (by kernel_rfl) (lz) (cn (cn (cn (cn (cn (cn (cn (cn (cn (cn (cn (cn (cn (cn (cn (cn (cn (cn (cn (cn (cz) (by kernel_rfl)) (by kernel_rfl)) (by kernel_rfl)) (by kernel_rfl)) (by kernel_rfl)) (by kernel_rfl)) (by kernel_rfl)) (by kernel_rfl)) (by kernel_rfl)) (by kernel_rfl)) (by kernel_rfl)) (by kernel_rfl)) (by kernel_rfl)) (by kernel_rfl)) (by kernel_rfl)) (by kernel_rfl)) (by kernel_rfl)) (by kernel_rfl)) (by kernel_rfl)) (by kernel_rfl)) (hn fun _ => rfl))
    (fun n ih => asc_cons (jour_Store_fits_ok ok n) <| asc_cons (maps_Equal_25_ok ok n) <| asc_cons (jour_bytes_ok ok n) <| asc_cons (jour_bounds_ok ok n) <| asc_cons (jour_sectors_ok ok n) <| asc_cons (jour_sectors_2_ok ok n) <| asc_cons (jour_Store_write_ok ok n) <| asc_cons (jour_Store_all_ok ok n) <| asc_nil)
/-! ### (*pendulum/jour.Store).Get -/
abbrev jour_Store_Get_ins : Sh := ⟨[(.one (.ptr 0 0)), (.one (.val .str))], [(.obj 68 [(.ptr 1 0), (.map 2), (.val (.int .i64)), (.val (.int .i64)), (.val (.int .i64))]), (.obj 61 [(.val (.int .i64)), (.map 3), (.map 4), (.val (.int .i64)), (.val (.int .i64)), (.val .bool)]), (.map .str .str false), (.map (.int .i64) ty2 false), (.map (.int .i64) ty2 false)]⟩
abbrev jour_Store_Get_outs : List Sh := [⟨[(.tup [(false, [(.val .str)]), (false, [(.val .bool)])])], [(.obj 68 [(.ptr 1 0), (.map 2), (.val (.int .i64)), (.val (.int .i64)), (.val (.int .i64))]), (.obj 61 [(.val (.int .i64)), (.map 3), (.map 4), (.val (.int .i64)), (.val (.int .i64)), (.val .bool)]), (.map .str .str false), (.map (.int .i64) ty2 false), (.map (.int .i64) ty2 false)]⟩]
def jour_Store_Get : Nat → jour_Store_Get_ins.T → Option (OutsT jour_Store_Get_outs)
  | 0, _ => none
  | n + 1, ((_, x1, _), ((_, _, x2, x3, x4, _), (x5, _, _, x6, x7, x8, _), m9, m10, m11, _)) =>
    let v12 : ByteArray := (mfind (keyEq (.str : Ty)) x1 m9).getD (⟨#[]⟩ : ByteArray)
    some ((((v12, ()), ((mfind (keyEq (.str : Ty)) x1 m9).isSome, ()), ()), ()), (((), (), x2, x3, x4, ()), (x5, (), (), x6, x7, x8, ()), m9, m10, m11, ()))
def jour_Store_Get_H (n : Nat) : Hints := ⟨[], fun _ => [], fun _ => none, fun _ => none, fun _ => none, fun _ => 0⟩
def jour_Store_Get_O (n : Nat) : FuncId → List FSpec := asc []
def b20 : Code := bodyOf Tryz.f20
theorem jour_Store_Get_ok {S : Nat → Addr} (ok : CfgOk P CC S) : ∀ n, SpecOk P CC S 20 ⟨jour_Store_Get_ins, jour_Store_Get_outs, jour_Store_Get n⟩ :=
  fn_all ok (O := jour_Store_Get_O) (H := jour_Store_Get_H) (fn := Tryz.f20) (body := b20) (by kernel_rfl) (by kernel_rfl) (by kernel_rfl) (by decide) (by kernel_rfl)
    (fun x => by kernel_rfl) (fun n => by
      rintro ⟨⟨⟨⟩, x1, ⟨⟩⟩, ⟨⟨⟨⟩, ⟨⟩, x2, x3, x4, ⟨⟩⟩, ⟨x5, ⟨⟩, ⟨⟩, x6, x7, x8, ⟨⟩⟩, x9, x10, x11, ⟨⟩⟩⟩
      kernel_rfl)
    (fun n => obl_of (by kernel_rfl) (by kernel_rfl) (lz) (cn (cn (cn (cz) (by kernel_rfl)) (by kernel_rfl)) (by kernel_rfl)) (hn fun _ => rfl))
    (fun n ih => asc_nil)
/-! ### (*pendulum/jour.Store).Keys -/
abbrev jour_Store_Keys_ins : Sh := ⟨[(.one (.ptr 0 0))], [(.obj 68 [(.ptr 1 0), (.map 2), (.val (.int .i64)), (.val (.int .i64)), (.val (.int .i64))]), (.obj 61 [(.val (.int .i64)), (.map 3), (.map 4), (.val (.int .i64)), (.val (.int .i64)), (.val .bool)]), (.map .str .str false), (.map (.int .i64) ty2 false), (.map (.int .i64) ty2 false)]⟩
abbrev jour_Store_Keys_outs : List Sh := [⟨[(.one (.arr 5))], [(.obj 68 [(.ptr 1 0), (.map 2), (.val (.int .i64)), (.val (.int .i64)), (.val (.int .i64))]), (.obj 61 [(.val (.int .i64)), (.map 3), (.map 4), (.val (.int .i64)), (.val (.int .i64)), (.val .bool)]), (.map .str .str false), (.map (.int .i64) ty2 false), (.map (.int .i64) ty2 false), (.arr 9 .str)]⟩]
def jour_Store_Keys : Nat → jour_Store_Keys_ins.T → Option (OutsT jour_Store_Keys_outs)
  | 0, _ => none
  | n + 1, ((_, _), ((_, _, x1, x2, x3, _), (x4, _, _, x5, x6, x7, _), m8, m9, m10, _)) =>
    match maps_Keys_map_string_string_string_string n (((), ()), (m8, ())) with
    | some ((_, _), (m11, (_, _), _)) => (
      match slices_Sorted_62 n (((), ()), (((), ()), m11, ())) with
      | some ((_, _), ((_, _), m12, l13, _)) => (
        some (((), ()), (((), (), x1, x2, x3, ()), (x4, (), (), x5, x6, x7, ()), m12, m9, m10, l13, ())))
      | none => none)
    | none => none
def jour_Store_Keys_H (n : Nat) : Hints := ⟨[], fun _ => [], fun _ => none, fun _ => none, fun _ => none, fun _ => 0⟩
def jour_Store_Keys_O (n : Nat) : FuncId → List FSpec := asc [(40, ⟨slices_Sorted_62_ins, slices_Sorted_62_outs, slices_Sorted_62 n⟩), (41, ⟨maps_Keys_map_string_string_string_string_ins, maps_Keys_map_string_string_string_string_outs, maps_Keys_map_string_string_string_string n⟩)]
def b19 : Code := bodyOf Tryz.f19
theorem jour_Store_Keys_ok {S : Nat → Addr} (ok : CfgOk P CC S) : ∀ n, SpecOk P CC S 19 ⟨jour_Store_Keys_ins, jour_Store_Keys_outs, jour_Store_Keys n⟩ :=
  fn_all ok (O := jour_Store_Keys_O) (H := jour_Store_Keys_H) (fn := Tryz.f19) (body := b19) (by kernel_rfl) (by kernel_rfl) (by kernel_rfl) (by decide) (by kernel_rfl)
    (fun x => by kernel_rfl) (fun n => by
      rintro ⟨⟨⟨⟩, ⟨⟩⟩, ⟨⟨⟨⟩, ⟨⟩, x1, x2, x3, ⟨⟩⟩, ⟨x4, ⟨⟩, ⟨⟩, x5, x6, x7, ⟨⟩⟩, x8, x9, x10, ⟨⟩⟩⟩
      kernel_rfl)
    (fun n => obl_of (by kernel_rfl) (by kernel_rfl) (lz) (cn (cn (cz) (by kernel_rfl)) (by kernel_rfl)) (hn fun _ => rfl))
    (fun n ih => asc_cons (slices_Sorted_62_ok ok n) <| asc_cons (maps_Keys_map_string_string_string_string_ok ok n) <| asc_nil)
/-! ### pendulum/pendulumref.SameTexts -/
abbrev ref_SameTexts_ins : Sh := ⟨[(.one (.val ty6)), (.one (.val ty6))], []⟩
abbrev ref_SameTexts_outs : List Sh := [⟨[(.one (.val .bool))], []⟩]
abbrev ref_SameTexts_l4_h : Sh := ⟨[(.one (.val ty6)), (.one (.val ty6)), (.one (.val (.int .i64)))], []⟩
abbrev ref_SameTexts_l4_o : List Out := [⟨(.exit 0), [], ⟨[], []⟩⟩, ⟨.ret, [4], ⟨[(.one (.val .bool))], []⟩⟩]
def ref_SameTexts_l4 (n : Nat) : Nat → ref_SameTexts_l4_h.T → Option (OutT ref_SameTexts_l4_o)
  | 0, _ => none
  | k + 1, ((x1, x2, x3, _), _) =>
    if decide (x3 < (x1.length : Int)) then
      if 0 ≤ x3 ∧ x3 < (x1.length : Int) then (
        if 0 ≤ x3 ∧ x3 < (x2.length : Int) then (
          if !(strEq (rdT (.str : Ty) x1 x3) (rdT (.str : Ty) x2 x3)) then
            some (.inr (.inl ((false, ()), ())))
          else
            let v4 : Int := IntKind.i64.wrap (x3 + 1)
            ref_SameTexts_l4 n k ((x1, x2, v4, ()), ())) else none) else none
    else
      some (.inl ((), ()))
def ref_SameTexts : Nat → ref_SameTexts_ins.T → Option (OutsT ref_SameTexts_outs)
  | 0, _ => none
  | n + 1, ((x1, x2, _), _) =>
    if (x1.length : Int) != (x2.length : Int) then
      some ((false, ()), ())
    else
      match ref_SameTexts_l4 n n ((x1, x2, 0, ()), ()) with
      | some (.inl (_, _)) => (
        some ((true, ()), ()))
      | some (.inr (.inl ((x3, _), _))) => (
        some ((x3, ()), ()))
      | some (.inr (.inr (_))) => none
      | none => none
def ref_SameTexts_H (n : Nat) : Hints := ⟨[], fun _ => [], fun k => match k with | 4 => some ⟨[0, 1, 5], ref_SameTexts_l4_h, ref_SameTexts_l4_o, ref_SameTexts_l4 n⟩ | _ => none, fun _ => none, fun _ => none, fun _ => 0⟩
def ref_SameTexts_O (n : Nat) : FuncId → List FSpec := asc []
def b21 : Code := bodyOf Tryz.f21
theorem ref_SameTexts_l4_k0 (n : Nat) : LoopOk P CC (ref_SameTexts_O n) n 0 29 (ref_SameTexts_H n) ⟨[0, 1, 5], ref_SameTexts_l4_h, ref_SameTexts_l4_o, ref_SameTexts_l4 n⟩ ((loopsOf b21).getD 0 .skip) := by
  refine ⟨fun _ => by kernel_rfl, ?_⟩
  rintro k ⟨⟨x1, x2, x3, ⟨⟩⟩, ⟨⟩⟩
  kernel_rfl
theorem ref_SameTexts_ok {S : Nat → Addr} (ok : CfgOk P CC S) : ∀ n, SpecOk P CC S 21 ⟨ref_SameTexts_ins, ref_SameTexts_outs, ref_SameTexts n⟩ :=
  fn_all ok (O := ref_SameTexts_O) (H := ref_SameTexts_H) (fn := Tryz.f21) (body := b21) (by kernel_rfl) (by kernel_rfl) (by kernel_rfl) (by decide) (by kernel_rfl)
    (fun x => by kernel_rfl) (fun n => by
      rintro ⟨⟨x1, x2, ⟨⟩⟩, ⟨⟩⟩
      kernel_rfl)
    (fun n => obl_of (by kernel_rfl) (by kernel_rfl) (ls (lz) (by kernel_rfl) (ref_SameTexts_l4_k0 n)) (cn (cn (cn (cn (cn (cn (cn (cn (cn (cn (cn (cn (cn (cz) (by kernel_rfl)) (by kernel_rfl)) (by kernel_rfl)) (by kernel_rfl)) (by kernel_rfl)) (by kernel_rfl)) (by kernel_rfl)) (by kernel_rfl)) (by kernel_rfl)) (by kernel_rfl)) (by kernel_rfl)) (by kernel_rfl)) (by kernel_rfl)) (hn fun _ => rfl))
    (fun n ih => asc_nil)
/-! ### pendulum/pendulumlaw4.first -/
abbrev law4_first_ins : Sh := ⟨[], []⟩
abbrev law4_first_outs : List Sh := [⟨[(.one (.val .bool))], []⟩]
abbrev law4_first_c4_h : Sh := ⟨[(.one (.ptr 0 0))], [(.obj 68 [(.ptr 1 0), (.map 2), (.val (.int .i64)), (.val (.int .i64)), (.val (.int .i64))]), (.obj 61 [(.val (.int .i64)), (.map 3), (.map 4), (.val (.int .i64)), (.val (.int .i64)), (.val .bool)]), (.map .str .str false), (.map (.int .i64) ty2 false), (.map (.int .i64) ty2 false)]⟩
abbrev law4_first_c4_o : List Out := [⟨.normal, [1], ⟨[(.one (.ptr 0 0))], [(.obj 68 [(.ptr 1 0), (.map 2), (.val (.int .i64)), (.val (.int .i64)), (.val (.int .i64))]), (.obj 61 [(.val (.int .i64)), (.map 3), (.map 4), (.val (.int .i64)), (.val (.int .i64)), (.val .bool)]), (.map .str .str false), (.map (.int .i64) ty2 false), (.map (.int .i64) ty2 false)]⟩⟩, ⟨.ret, [0], ⟨[(.one (.val .bool))], []⟩⟩]
def law4_first_c4 (n : Nat) : law4_first_c4_h.T → Option (OutT law4_first_c4_o)
  | ((_, _), ((_, _, x1, x2, x3, _), (x4, _, _, x5, x6, x7, _), m8, m9, m10, _)) =>
    match jour_Store_Commit n (((), [((⟨#[97]⟩ : ByteArray), ((⟨#[49]⟩ : ByteArray), false))], ()), (((), (), x1, x2, x3, ()), (x4, (), (), x5, x6, x7, ()), m8, m9, m10, ())) with
    | some (.inl ((x11, _), ((_, _, x12, x13, x14, _), (x15, _, _, x16, x17, x18, _), m19, m20, m21, _))) => (
      if !(errNil x11) then
        some (.inr (.inl ((false, ()), ())))
      else
        match jour_Store_Commit n (((), [((⟨#[97]⟩ : ByteArray), ((⟨#[50]⟩ : ByteArray), false)), ((⟨#[98]⟩ : ByteArray), ((⟨#[51]⟩ : ByteArray), false))], ()), (((), (), x12, x13, x14, ()), (x15, (), (), x16, x17, x18, ()), m19, m20, m21, ())) with
        | some (.inl ((x34, _), ((_, _, x35, x36, x37, _), (x38, _, _, x39, x40, x41, _), m42, m43, m44, _))) => (
          if !(errNil x34) then
            some (.inr (.inl ((false, ()), ())))
          else
            some (.inl (((), ()), (((), (), x35, x36, x37, ()), (x38, (), (), x39, x40, x41, ()), m42, m43, m44, ()))))
        | some (.inr (((x45, _), ((_, _, x46, x47, x48, _), (x49, _, _, x50, x51, x52, _), m53, m54, m55, m56, _)))) => (
          if !(errNil x45) then
            some (.inr (.inl ((false, ()), ())))
          else
            some (.inl (((), ()), (((), (), x46, x47, x48, ()), (x49, (), (), x50, x51, x52, ()), m56, m54, m55, ()))))
        | none => none)
    | some (.inr (((x22, _), ((_, _, x23, x24, x25, _), (x26, _, _, x27, x28, x29, _), m30, m31, m32, m33, _)))) => (
      if !(errNil x22) then
        some (.inr (.inl ((false, ()), ())))
      else
        match jour_Store_Commit n (((), [((⟨#[97]⟩ : ByteArray), ((⟨#[50]⟩ : ByteArray), false)), ((⟨#[98]⟩ : ByteArray), ((⟨#[51]⟩ : ByteArray), false))], ()), (((), (), x23, x24, x25, ()), (x26, (), (), x27, x28, x29, ()), m33, m31, m32, ())) with
        | some (.inl ((x57, _), ((_, _, x58, x59, x60, _), (x61, _, _, x62, x63, x64, _), m65, m66, m67, _))) => (
          if !(errNil x57) then
            some (.inr (.inl ((false, ()), ())))
          else
            some (.inl (((), ()), (((), (), x58, x59, x60, ()), (x61, (), (), x62, x63, x64, ()), m65, m66, m67, ()))))
        | some (.inr (((x68, _), ((_, _, x69, x70, x71, _), (x72, _, _, x73, x74, x75, _), m76, m77, m78, m79, _)))) => (
          if !(errNil x68) then
            some (.inr (.inl ((false, ()), ())))
          else
            some (.inl (((), ()), (((), (), x69, x70, x71, ()), (x72, (), (), x73, x74, x75, ()), m79, m77, m78, ()))))
        | none => none)
    | none => none
def law4_first : Nat → law4_first_ins.T → Option (OutsT law4_first_outs)
  | 0, _ => none
  | n + 1, (_, _) =>
    match law4_opened n ((64, ()), ()) with
    | some (.inl ((((_, _), (_, _), _), _), ((_, _, x1, x2, x3, _), (x4, _, _, x5, x6, x7, _), m8, m9, m10, _))) => (
      match law4_first_c4 n (((), ()), (((), (), x1, x2, x3, ()), (x4, (), (), x5, x6, x7, ()), m8, m9, m10, ())) with
      | some (.inl ((_, _), ((_, _, x17, x18, x19, _), (x20, _, _, x21, x22, x23, _), m24, m25, m26, _))) => (
        match jour_Store_Get n (((), (⟨#[97]⟩ : ByteArray), ()), (((), (), x17, x18, x19, ()), (x20, (), (), x21, x22, x23, ()), m24, m25, m26, ())) with
        | some ((((x28, _), (x29, _), _), _), ((_, _, x30, x31, x32, _), (x33, _, _, x34, x35, x36, _), m37, m38, m39, _)) => (
          if x29 then
            if strEq x28 (⟨#[50]⟩ : ByteArray) then
              match jour_Store_Keys n (((), ()), (((), (), x30, x31, x32, ()), (x33, (), (), x34, x35, x36, ()), m37, m38, m39, ())) with
              | some ((_, _), ((_, _, x40, x41, x42, _), (x43, _, _, x44, x45, x46, _), m47, m48, m49, l50, _)) => (
                match ref_SameTexts n ((l50, [(⟨#[97]⟩ : ByteArray), (⟨#[98]⟩ : ByteArray)], ()), ()) with
                | some ((x51, _), _) => (
                  some ((x51, ()), ()))
                | none => none)
              | none => none
            else
              some ((false, ()), ())
          else
            some ((false, ()), ()))
        | none => none)
      | some (.inr (.inl ((x27, _), _))) => (
        some ((x27, ()), ()))
      | some (.inr (.inr (_))) => none
      | none => none)
    | some (.inr (.inl ((((_, _), (_, _), _), _), ((x11, _, _, x12, x13, x14, _), m15, m16, _)))) => (
      none)
    | some (.inr (.inr (((((_, _), (_, _), _), _), _)))) => (
      none)
    | none => none
def law4_first_H (n : Nat) : Hints := ⟨[], fun _ => [], fun _ => none, fun k => match k with | 4 => some ⟨[1], law4_first_c4_h, law4_first_c4_o, fun n => law4_first_c4 n⟩ | _ => none, fun _ => none, fun _ => 0⟩
def law4_first_O (n : Nat) : FuncId → List FSpec := asc [(7, ⟨law4_opened_ins, law4_opened_outs, law4_opened n⟩), (11, ⟨jour_Store_Commit_ins, jour_Store_Commit_outs, jour_Store_Commit n⟩), (19, ⟨jour_Store_Keys_ins, jour_Store_Keys_outs, jour_Store_Keys n⟩), (20, ⟨jour_Store_Get_ins, jour_Store_Get_outs, jour_Store_Get n⟩), (21, ⟨ref_SameTexts_ins, ref_SameTexts_outs, ref_SameTexts n⟩)]
def b5 : Code := bodyOf Tryz.f5
theorem law4_first_c4_k2 (n : Nat) : CutOk P CC (law4_first_O n) n 0 42 (law4_first_H n) ⟨[1], law4_first_c4_h, law4_first_c4_o, fun n => law4_first_c4 n⟩ ((cutsOf b5).getD 2 (0, .skip)).2 := by
  rintro ⟨⟨⟨⟩, ⟨⟩⟩, ⟨⟨⟨⟩, ⟨⟩, x1, x2, x3, ⟨⟩⟩, ⟨x4, ⟨⟩, ⟨⟩, x5, x6, x7, ⟨⟩⟩, x8, x9, x10, ⟨⟩⟩⟩
  kernel_rfl
theorem law4_first_ok {S : Nat → Addr} (ok : CfgOk P CC S) : ∀ n, SpecOk P CC S 5 ⟨law4_first_ins, law4_first_outs, law4_first n⟩ :=
  fn_all ok (O := law4_first_O) (H := law4_first_H) (fn := Tryz.f5) (body := b5) (by kernel_rfl) (by kernel_rfl) (by kernel_rfl) (by decide) (by kernel_rfl)
    (fun x => by kernel_rfl) (fun n => by
      rintro ⟨⟨⟩, ⟨⟩⟩
      kernel_rfl)
    (fun n => obl_of (by kernel_rfl) (by kernel_rfl) (lz) (cn (cn (cn (cn (cs (cn (cn (cz) (by kernel_rfl)) (by kernel_rfl)) (by kernel_rfl) (law4_first_c4_k2 n)) (by kernel_rfl)) (by kernel_rfl)) (by kernel_rfl)) (by kernel_rfl)) (hn fun _ => rfl))
    (fun n ih => asc_cons (law4_opened_ok ok n) <| asc_cons (jour_Store_Commit_ok ok n) <| asc_cons (jour_Store_Keys_ok ok n) <| asc_cons (jour_Store_Get_ok ok n) <| asc_cons (ref_SameTexts_ok ok n) <| asc_nil)
/-! ### pendulum/pendulumlaw4.light -/
abbrev law4_light_ins : Sh := ⟨[(.one (.val ty7)), (.one (.val (.int .i64))), (.one (.val (.int .i64)))], []⟩
abbrev law4_light_outs : List Sh := [⟨[(.one (.val .bool))], []⟩]
abbrev law4_light_l9_h : Sh := ⟨[(.one (.val ty7)), (.one (.val (.int .i64))), (.one (.val (.int .i64))), (.one (.val (.int .i64)))], []⟩
abbrev law4_light_l9_o : List Out := [⟨(.exit 2), [0, 2, 7], ⟨[(.one (.val ty7)), (.one (.val (.int .i64))), (.one (.val (.int .i64)))], []⟩⟩, ⟨.ret, [6], ⟨[(.one (.val .bool))], []⟩⟩]
def law4_light_l9 (n : Nat) : Nat → law4_light_l9_h.T → Option (OutT law4_light_l9_o)
  | 0, _ => none
  | k + 1, ((x1, x2, x3, x4, _), _) =>
    if 0 ≤ x3 ∧ x3 < (x1.length : Int) then (
      if decide (x4 < (((rdT ty3 x1 x3).2).length : Int)) then
        if 0 ≤ x3 ∧ x3 < (x1.length : Int) then (
          if 0 ≤ x4 ∧ x4 < (((rdT ty3 x1 x3).2).length : Int) then (
            let v5 : ty0.T := rdT ty0 ((rdT ty3 x1 x3).2) x4
            if decide ((v5.1.size : Int) > 60) then
              some (.inr (.inl ((false, ()), ())))
            else
              if 0 ≤ x3 ∧ x3 < (x1.length : Int) then (
                if 0 ≤ x4 ∧ x4 < (((rdT ty3 x1 x3).2).length : Int) then (
                  let v6 : ty0.T := rdT ty0 ((rdT ty3 x1 x3).2) x4
                  if decide ((v6.2.1.size : Int) > x2) then
                    some (.inr (.inl ((false, ()), ())))
                  else
                    let v7 : Int := IntKind.i64.wrap (x4 + 1)
                    law4_light_l9 n k ((x1, x2, x3, v7, ()), ())) else none) else none) else none) else none
      else
        some (.inl ((x1, x2, x3, ()), ()))) else none
abbrev law4_light_l4_h : Sh := ⟨[(.one (.val ty7)), (.one (.val (.int .i64))), (.one (.val (.int .i64)))], []⟩
abbrev law4_light_l4_o : List Out := [⟨(.exit 0), [], ⟨[], []⟩⟩, ⟨.ret, [6], ⟨[(.one (.val .bool))], []⟩⟩]
def law4_light_l4 (n : Nat) : Nat → law4_light_l4_h.T → Option (OutT law4_light_l4_o)
  | 0, _ => none
  | k + 1, ((x1, x2, x3, _), _) =>
    if decide (x3 < (x1.length : Int)) then
      if 0 ≤ x3 ∧ x3 < (x1.length : Int) then (
        if decide ((((rdT ty3 x1 x3).2).length : Int) > 8) then
          some (.inr (.inl ((false, ()), ())))
        else
          match law4_light_l9 n n ((x1, x2, x3, 0, ()), ()) with
          | some (.inl ((x4, x5, x6, _), _)) => (
            let v8 : Int := IntKind.i64.wrap (x6 + 1)
            law4_light_l4 n k ((x4, x5, v8, ()), ()))
          | some (.inr (.inl ((x7, _), _))) => (
            some (.inr (.inl ((x7, ()), ()))))
          | some (.inr (.inr (_))) => none
          | none => none) else none
    else
      some (.inl ((), ()))
def law4_light : Nat → law4_light_ins.T → Option (OutsT law4_light_outs)
  | 0, _ => none
  | n + 1, ((x1, x2, x3, _), _) =>
    if decide ((x1.length : Int) > x2) then
      some ((false, ()), ())
    else
      match law4_light_l4 n n ((x1, x3, 0, ()), ()) with
      | some (.inl (_, _)) => (
        some ((true, ()), ()))
      | some (.inr (.inl ((x4, _), _))) => (
        some ((x4, ()), ()))
      | some (.inr (.inr (_))) => none
      | none => none
def law4_light_H (n : Nat) : Hints := ⟨[], fun _ => [], fun k => match k with | 9 => some ⟨[0, 2, 7, 8], law4_light_l9_h, law4_light_l9_o, law4_light_l9 n⟩ | 4 => some ⟨[0, 2, 7], law4_light_l4_h, law4_light_l4_o, law4_light_l4 n⟩ | _ => none, fun _ => none, fun _ => none, fun _ => 0⟩
def law4_light_O (n : Nat) : FuncId → List FSpec := asc []
def b6 : Code := bodyOf Tryz.f6
theorem law4_light_l4_k0 (n : Nat) : LoopOk P CC (law4_light_O n) n 0 61 (law4_light_H n) ⟨[0, 2, 7], law4_light_l4_h, law4_light_l4_o, law4_light_l4 n⟩ ((loopsOf b6).getD 0 .skip) := by
  refine ⟨fun _ => by kernel_rfl, ?_⟩
  rintro k ⟨⟨x1, x2, x3, ⟨⟩⟩, ⟨⟩⟩
  kernel_rfl
theorem law4_light_l9_k1 (n : Nat) : LoopOk P CC (law4_light_O n) n 0 61 (law4_light_H n) ⟨[0, 2, 7, 8], law4_light_l9_h, law4_light_l9_o, law4_light_l9 n⟩ ((loopsOf b6).getD 1 .skip) := by
  refine ⟨fun _ => by kernel_rfl, ?_⟩
  rintro k ⟨⟨x1, x2, x3, x4, ⟨⟩⟩, ⟨⟩⟩
  kernel_rfl
theorem law4_light_ok {S : Nat → Addr} (ok : CfgOk P CC S) : ∀ n, SpecOk P CC S 6 ⟨law4_light_ins, law4_light_outs, law4_light n⟩ :=
  fn_all ok (O := law4_light_O) (H := law4_light_H) (fn := Tryz.f6) (body := b6) (by kernel_rfl) (by kernel_rfl) (by kernel_rfl) (by decide) (by kernel_rfl)
    (fun x => by kernel_rfl) (fun n => by
      rintro ⟨⟨x1, x2, x3, ⟨⟩⟩, ⟨⟩⟩
      kernel_rfl)
    (fun n => obl_of (by kernel_rfl) (by kernel_rfl) (ls (ls (lz) (by kernel_rfl) (law4_light_l4_k0 n)) (by kernel_rfl) (law4_light_l9_k1 n)) (cn (cn (cn (cn (cn (cn (cn (cn (cn (cn (cn (cn (cn (cn (cn (cn (cn (cn (cn (cz) (by kernel_rfl)) (by kernel_rfl)) (by kernel_rfl)) (by kernel_rfl)) (by kernel_rfl)) (by kernel_rfl)) (by kernel_rfl)) (by kernel_rfl)) (by kernel_rfl)) (by kernel_rfl)) (by kernel_rfl)) (by kernel_rfl)) (by kernel_rfl)) (by kernel_rfl)) (by kernel_rfl)) (by kernel_rfl)) (by kernel_rfl)) (by kernel_rfl)) (by kernel_rfl)) (hn fun _ => rfl))
    (fun n ih => asc_nil)
/-! ### pendulum/pendulumworld.Number -/
abbrev world_Number_ins : Sh := ⟨[(.one (.val (.int .i64))), (.one (.val (.int .i64)))], []⟩
abbrev world_Number_outs : List Sh := [⟨[(.one (.val (.int .i64)))], []⟩]
def world_Number : Nat → world_Number_ins.T → Option (OutsT world_Number_outs)
  | 0, _ => none
  | n + 1, ((x1, x2, _), _) =>
    if x2 = 0 then
      none
    else
      if decide (Int.tmod x1 x2 < 0) then
        let v3 : Int := IntKind.i64.wrap ((Int.tmod x1 x2) + x2)
        some ((v3, ()), ())
      else
        some ((Int.tmod x1 x2, ()), ())
def world_Number_H (n : Nat) : Hints := ⟨[], fun _ => [], fun _ => none, fun _ => none, fun _ => none, fun _ => 0⟩
def world_Number_O (n : Nat) : FuncId → List FSpec := asc []
def b9 : Code := bodyOf Tryz.f9
theorem world_Number_ok {S : Nat → Addr} (ok : CfgOk P CC S) : ∀ n, SpecOk P CC S 9 ⟨world_Number_ins, world_Number_outs, world_Number n⟩ :=
  fn_all ok (O := world_Number_O) (H := world_Number_H) (fn := Tryz.f9) (body := b9) (by kernel_rfl) (by kernel_rfl) (by kernel_rfl) (by decide) (by kernel_rfl)
    (fun x => by kernel_rfl) (fun n => by
      rintro ⟨⟨x1, x2, ⟨⟩⟩, ⟨⟩⟩
      kernel_rfl)
    (fun n => obl_of (by kernel_rfl) (by kernel_rfl) (lz) (cn (cn (cn (cn (cn (cz) (by kernel_rfl)) (by kernel_rfl)) (by kernel_rfl)) (by kernel_rfl)) (by kernel_rfl)) (hn fun _ => rfl))
    (fun n ih => asc_nil)
/-! ### (*pendulum/disk.Disk).Arm -/
abbrev disk_Disk_Arm_ins : Sh := ⟨[(.one (.ptr 0 0)), (.one (.val (.int .i64)))], [(.obj 61 [(.val (.int .i64)), (.map 1), (.map 2), (.val (.int .i64)), (.val (.int .i64)), (.val .bool)]), (.map (.int .i64) ty2 false), (.map (.int .i64) ty2 false)]⟩
abbrev disk_Disk_Arm_outs : List Sh := [⟨[(.tup [])], [(.obj 61 [(.val (.int .i64)), (.map 1), (.map 2), (.val (.int .i64)), (.val (.int .i64)), (.val .bool)]), (.map (.int .i64) ty2 false), (.map (.int .i64) ty2 false)]⟩]
def disk_Disk_Arm : Nat → disk_Disk_Arm_ins.T → Option (OutsT disk_Disk_Arm_outs)
  | 0, _ => none
  | n + 1, ((_, x1, _), ((x2, _, _, x3, x4, x5, _), m6, m7, _)) =>
    some (((), ()), ((x2, (), (), x3, mx x1 0, x5, ()), m6, m7, ()))
def disk_Disk_Arm_H (n : Nat) : Hints := ⟨[], fun _ => [], fun _ => none, fun _ => none, fun _ => none, fun _ => 0⟩
def disk_Disk_Arm_O (n : Nat) : FuncId → List FSpec := asc []
def b8 : Code := bodyOf Tryz.f8
theorem disk_Disk_Arm_ok {S : Nat → Addr} (ok : CfgOk P CC S) : ∀ n, SpecOk P CC S 8 ⟨disk_Disk_Arm_ins, disk_Disk_Arm_outs, disk_Disk_Arm n⟩ :=
  fn_all ok (O := disk_Disk_Arm_O) (H := disk_Disk_Arm_H) (fn := Tryz.f8) (body := b8) (by kernel_rfl) (by kernel_rfl) (by kernel_rfl) (by decide) (by kernel_rfl)
    (fun x => by kernel_rfl) (fun n => by
      rintro ⟨⟨⟨⟩, x1, ⟨⟩⟩, ⟨⟨x2, ⟨⟩, ⟨⟩, x3, x4, x5, ⟨⟩⟩, x6, x7, ⟨⟩⟩⟩
      kernel_rfl)
    (fun n => obl_of (by kernel_rfl) (by kernel_rfl) (lz) (cz) (hn fun _ => rfl))
    (fun n ih => asc_nil)
/-! ### pendulum/pendulumlaw4.put -/
abbrev law4_put_ins : Sh := ⟨[(.one (.val ty8)), (.agg [(.val .str), (.val .str), (.val .bool)])], []⟩
abbrev law4_put_outs : List Sh := [⟨[(.one (.arr 0))], [(.arr 82 ty5)]⟩]
abbrev law4_put_l2_h : Sh := ⟨[(.one (.val ty8)), (.one (.ptr 0 0)), (.one (.val (.int .i64)))], [(.obj 55 [(.val .str), (.val .str), (.val .bool)])]⟩
abbrev law4_put_l2_o : List Out := [⟨(.exit 0), [0, 3, 5], ⟨[(.one (.val ty8)), (.one (.ptr 0 0)), (.one (.val (.int .i64)))], [(.obj 55 [(.val .str), (.val .str), (.val .bool)])]⟩⟩]
def law4_put_l2 (n : Nat) : Nat → law4_put_l2_h.T → Option (OutT law4_put_l2_o)
  | 0, _ => none
  | k + 1, ((x1, _, x2, _), ((x3, x4, x5, _), _)) =>
    if decide (x2 < (x1.length : Int)) then
      if 0 ≤ x2 ∧ x2 < (x1.length : Int) then (
        if strLt ((rdT ty5 x1 x2).1) x3 then
          let v6 : Int := IntKind.i64.wrap (x2 + 1)
          law4_put_l2 n k ((x1, (), v6, ()), ((x3, x4, x5, ()), ()))
        else
          some (.inl ((x1, (), x2, ()), ((x3, x4, x5, ()), ())))) else none
    else
      some (.inl ((x1, (), x2, ()), ((x3, x4, x5, ()), ())))
abbrev law4_put_c7_h : Sh := ⟨[(.one (.val ty8)), (.one (.ptr 0 0)), (.one (.val (.int .i64))), (.one (.arr 1))], [(.obj 55 [(.val .str), (.val .str), (.val .bool)]), (.arr 82 ty5)]⟩
abbrev law4_put_c7_o : List Out := [⟨.normal, [0, 3, 5, 6], ⟨[(.one (.val ty8)), (.one (.ptr 0 0)), (.one (.val (.int .i64))), (.one (.arr 1))], [(.obj 55 [(.val .str), (.val .str), (.val .bool)]), (.arr 82 ty5)]⟩⟩]
def law4_put_c7 (n : Nat) : law4_put_c7_h.T → Option (OutT law4_put_c7_o)
  | ((x1, _, x2, _, _), ((x3, x4, x5, _), l6, _)) =>
    if !x5 then
      if (l6.length + ([(x3, x4)] : List ty5.T).length) * 32 ≤ 140737488355328 then (
        some (.inl ((x1, (), x2, (), ()), ((x3, x4, x5, ()), l6 ++ [(x3, x4)], ())))) else none
    else
      some (.inl ((x1, (), x2, (), ()), ((x3, x4, x5, ()), l6, ())))
abbrev law4_put_c9_h : Sh := ⟨[(.one (.val ty8)), (.one (.ptr 0 0)), (.one (.val (.int .i64))), (.one (.arr 1))], [(.obj 55 [(.val .str), (.val .str), (.val .bool)]), (.arr 82 ty5)]⟩
abbrev law4_put_c9_o : List Out := [⟨.normal, [0, 5, 6], ⟨[(.one (.val ty8)), (.one (.val (.int .i64))), (.one (.arr 0))], [(.arr 82 ty5)]⟩⟩]
def law4_put_c9 (n : Nat) : law4_put_c9_h.T → Option (OutT law4_put_c9_o)
  | ((x1, _, x2, _, _), ((x3, x4, x5, _), l6, _)) =>
    if decide (x2 < (x1.length : Int)) then
      if 0 ≤ x2 ∧ x2 < (x1.length : Int) then (
        if strEq ((rdT ty5 x1 x2).1) x3 then
          let v7 : Int := IntKind.i64.wrap (x2 + 1)
          some (.inl ((x1, v7, (), ()), (l6, ())))
        else
          some (.inl ((x1, x2, (), ()), (l6, ())))) else none
    else
      some (.inl ((x1, x2, (), ()), (l6, ())))
def law4_put : Nat → law4_put_ins.T → Option (OutsT law4_put_outs)
  | 0, _ => none
  | n + 1, ((x1, (x2, x3, x4, _), _), _) =>
    match law4_put_l2 n n ((x1, (), 0, ()), ((x2, x3, x4, ()), ())) with
    | some (.inl ((x5, _, x6, _), ((x7, x8, x9, _), _))) => (
      let v10 : Int := IntKind.i64.wrap ((x5.length : Int) + 1)
      if 0 ≤ (0 : Int) ∧ (0 : Int) ≤ v10 ∧ v10 * ((32 : Nat) : Int) ≤ 140737488355328 ∧ v10 ≤ 140737488355328 then (
        if 0 ≤ x6 ∧ x6 ≤ (x5.length : Int) then (
          if ((List.replicate (0 : Int).toNat ((⟨#[]⟩ : ByteArray), (⟨#[]⟩ : ByteArray))).length + (cutL x5 0 x6).length) * 32 ≤ 140737488355328 then (
            match law4_put_c7 n ((x5, (), x6, (), ()), ((x7, x8, x9, ()), (List.replicate (0 : Int).toNat ((⟨#[]⟩ : ByteArray), (⟨#[]⟩ : ByteArray))) ++ (cutL x5 0 x6), ())) with
            | some (.inl ((x11, _, x12, _, _), ((x13, x14, x15, _), l16, _))) => (
              match law4_put_c9 n ((x11, (), x12, (), ()), ((x13, x14, x15, ()), l16, ())) with
              | some (.inl ((x17, x18, _, _), (l19, _))) => (
                if 0 ≤ x18 ∧ x18 ≤ (x17.length : Int) then (
                  let v20 : List ty5.T := cutL x17 x18 (x17.length : Int)
                  if (l19.length + v20.length) * 32 ≤ 140737488355328 then (
                    some (((), ()), (l19 ++ v20, ()))) else none) else none)
              | some (.inr (_)) => none
              | none => none)
            | some (.inr (_)) => none
            | none => none) else none) else none) else none)
    | some (.inr (_)) => none
    | none => none
def law4_put_H (n : Nat) : Hints := ⟨[], fun _ => [], fun k => match k with | 2 => some ⟨[0, 3, 5], law4_put_l2_h, law4_put_l2_o, law4_put_l2 n⟩ | _ => none, fun k => match k with | 7 => some ⟨[0, 3, 5, 6], law4_put_c7_h, law4_put_c7_o, fun n => law4_put_c7 n⟩ | 9 => some ⟨[0, 3, 5, 6], law4_put_c9_h, law4_put_c9_o, fun n => law4_put_c9 n⟩ | _ => none, fun _ => none, fun _ => 0⟩
def law4_put_O (n : Nat) : FuncId → List FSpec := asc []
def b23 : Code := bodyOf Tryz.f23
theorem law4_put_l2_k0 (n : Nat) : LoopOk P CC (law4_put_O n) n 0 63 (law4_put_H n) ⟨[0, 3, 5], law4_put_l2_h, law4_put_l2_o, law4_put_l2 n⟩ ((loopsOf b23).getD 0 .skip) := by
  refine ⟨fun _ => by kernel_rfl, ?_⟩
  rintro k ⟨⟨x1, ⟨⟩, x2, ⟨⟩⟩, ⟨⟨x3, x4, x5, ⟨⟩⟩, ⟨⟩⟩⟩
  kernel_rfl
theorem law4_put_c7_k6 (n : Nat) : CutOk P CC (law4_put_O n) n 0 63 (law4_put_H n) ⟨[0, 3, 5, 6], law4_put_c7_h, law4_put_c7_o, fun n => law4_put_c7 n⟩ ((cutsOf b23).getD 6 (0, .skip)).2 := by
  rintro ⟨⟨x1, ⟨⟩, x2, ⟨⟩, ⟨⟩⟩, ⟨⟨x3, x4, x5, ⟨⟩⟩, x6, ⟨⟩⟩⟩
  kernel_rfl
theorem law4_put_c9_k8 (n : Nat) : CutOk P CC (law4_put_O n) n 0 63 (law4_put_H n) ⟨[0, 3, 5, 6], law4_put_c9_h, law4_put_c9_o, fun n => law4_put_c9 n⟩ ((cutsOf b23).getD 8 (0, .skip)).2 := by
  rintro ⟨⟨x1, ⟨⟩, x2, ⟨⟩, ⟨⟩⟩, ⟨⟨x3, x4, x5, ⟨⟩⟩, x6, ⟨⟩⟩⟩
  kernel_rfl
theorem law4_put_ok {S : Nat → Addr} (ok : CfgOk P CC S) : ∀ n, SpecOk P CC S 23 ⟨law4_put_ins, law4_put_outs, law4_put n⟩ :=
  fn_all ok (O := law4_put_O) (H := law4_put_H) (fn := Tryz.f23) (body := b23) (by kernel_rfl) (by kernel_rfl) (by kernel_rfl) (by decide) (by kernel_rfl)
    (fun x => by kernel_rfl) (fun n => by
      rintro ⟨⟨x1, ⟨x2, x3, x4, ⟨⟩⟩, ⟨⟩⟩, ⟨⟩⟩
      kernel_rfl)
    (fun n => obl_of (by kernel_rfl) (by kernel_rfl) (ls (lz) (by kernel_rfl) (law4_put_l2_k0 n)) (cn (cn (cs (cn (cs (cn (cn (cn (cn (cn (cn (cz) (by kernel_rfl)) (by kernel_rfl)) (by kernel_rfl)) (by kernel_rfl)) (by kernel_rfl)) (by kernel_rfl)) (by kernel_rfl) (law4_put_c7_k6 n)) (by kernel_rfl)) (by kernel_rfl) (law4_put_c9_k8 n)) (by kernel_rfl)) (by kernel_rfl)) (hn fun _ => rfl))
    (fun n ih => asc_nil)
/-! ### pendulum/pendulumlaw4.after -/
abbrev law4_after_ins : Sh := ⟨[(.one (.val ty8)), (.one (.val ty4))], []⟩
abbrev law4_after_outs : List Sh := [⟨[(.tup [(false, [(.val ty8)]), (false, [(.val (.int .i64))])])], []⟩]
abbrev law4_after_l2_h : Sh := ⟨[(.one (.val ty8)), (.one (.val ty4)), (.one (.val (.int .i64)))], []⟩
abbrev law4_after_l2_o : List Out := [⟨(.exit 0), [0, 1], ⟨[(.one (.val ty8)), (.one (.val ty4))], []⟩⟩, ⟨.ret, [4, 5], ⟨[(.one (.val ty8)), (.one (.val (.int .i64)))], []⟩⟩]
def law4_after_l2 (n : Nat) : Nat → law4_after_l2_h.T → Option (OutT law4_after_l2_o)
  | 0, _ => none
  | k + 1, ((x1, x2, x3, _), _) =>
    if decide (x3 < (x2.length : Int)) then
      if 0 ≤ x3 ∧ x3 < (x2.length : Int) then (
        if decide ((((rdT ty0 x2 x3).1).size : Int) < 1) then
          some (.inr (.inl ((x1, 104, ()), ())))
        else
          if 0 ≤ x3 ∧ x3 < (x2.length : Int) then (
            if decide ((((rdT ty0 x2 x3).1).size : Int) > 40) then
              some (.inr (.inl ((x1, 104, ()), ())))
            else
              let v4 : Int := IntKind.i64.wrap (x3 + 1)
              law4_after_l2 n k ((x1, x2, v4, ()), ())) else none) else none
    else
      some (.inl ((x1, x2, ()), ()))
abbrev law4_after_l7_h : Sh := ⟨[(.one (.val ty8)), (.one (.val ty4)), (.one (.val (.int .i64)))], []⟩
abbrev law4_after_l7_o : List Out := [⟨(.exit 2), [0, 1], ⟨[(.one (.val ty8)), (.one (.val ty4))], []⟩⟩, ⟨.ret, [4, 5], ⟨[(.one (.val ty8)), (.one (.val (.int .i64)))], []⟩⟩]
def law4_after_l7 (n : Nat) : Nat → law4_after_l7_h.T → Option (OutT law4_after_l7_o)
  | 0, _ => none
  | k + 1, ((x1, x2, x3, _), _) =>
    if decide (x3 < (x2.length : Int)) then
      if 0 ≤ x3 ∧ x3 < (x2.length : Int) then (
        if decide (((((rdT ty0 x2 x3).2).1).size : Int) > 32768) then
          some (.inr (.inl ((x1, 103, ()), ())))
        else
          let v4 : Int := IntKind.i64.wrap (x3 + 1)
          law4_after_l7 n k ((x1, x2, v4, ()), ())) else none
    else
      some (.inl ((x1, x2, ()), ()))
abbrev law4_after_l13_h : Sh := ⟨[(.one (.val ty8)), (.one (.val ty4)), (.one (.val ty8)), (.one (.val (.int .i64)))], []⟩
abbrev law4_after_l13_o : List Out := [⟨(.exit 4), [0, 8], ⟨[(.one (.val ty8)), (.one (.val ty8))], []⟩⟩]
def law4_after_l13 (n : Nat) : Nat → law4_after_l13_h.T → Option (OutT law4_after_l13_o)
  | 0, _ => none
  | k + 1, ((x1, x2, x3, x4, _), _) =>
    if decide (x4 < (x2.length : Int)) then
      if 0 ≤ x4 ∧ x4 < (x2.length : Int) then (
        match law4_put n ((x3, ((rdT ty0 x2 x4).1, ((rdT ty0 x2 x4).2).1, ((rdT ty0 x2 x4).2).2, ()), ()), ()) with
        | some ((_, _), (l5, _)) => (
          let v6 : Int := IntKind.i64.wrap (x4 + 1)
          law4_after_l13 n k ((x1, x2, l5, v6, ()), ()))
        | none => none) else none
    else
      some (.inl ((x1, x3, ()), ()))
def law4_after : Nat → law4_after_ins.T → Option (OutsT law4_after_outs)
  | 0, _ => none
  | n + 1, ((x1, x2, _), _) =>
    match law4_after_l2 n n ((x1, x2, 0, ()), ()) with
    | some (.inl ((x3, x4, _), _)) => (
      match law4_after_l7 n n ((x3, x4, 0, ()), ()) with
      | some (.inl ((x7, x8, _), _)) => (
        match law4_after_l13 n n ((x7, x8, x7, 0, ()), ()) with
        | some (.inl ((x11, x12, _), _)) => (
          if decide ((x12.length : Int) > 256) then
            some ((((x11, ()), (103, ()), ()), ()), ())
          else
            some ((((x12, ()), (0, ()), ()), ()), ()))
        | some (.inr (_)) => none
        | none => none)
      | some (.inr (.inl ((x9, x10, _), _))) => (
        some ((((x9, ()), (x10, ()), ()), ()), ()))
      | some (.inr (.inr (_))) => none
      | none => none)
    | some (.inr (.inl ((x5, x6, _), _))) => (
      some ((((x5, ()), (x6, ()), ()), ()), ()))
    | some (.inr (.inr (_))) => none
    | none => none
def law4_after_H (n : Nat) : Hints := ⟨[], fun _ => [], fun k => match k with | 2 => some ⟨[0, 1, 6], law4_after_l2_h, law4_after_l2_o, law4_after_l2 n⟩ | 7 => some ⟨[0, 1, 7], law4_after_l7_h, law4_after_l7_o, law4_after_l7 n⟩ | 13 => some ⟨[0, 1, 8, 9], law4_after_l13_h, law4_after_l13_o, law4_after_l13 n⟩ | _ => none, fun _ => none, fun _ => none, fun _ => 0⟩
def law4_after_O (n : Nat) : FuncId → List FSpec := asc [(23, ⟨law4_put_ins, law4_put_outs, law4_put n⟩)]
def b10 : Code := bodyOf Tryz.f10
theorem law4_after_l2_k0 (n : Nat) : LoopOk P CC (law4_after_O n) n 0 65 (law4_after_H n) ⟨[0, 1, 6], law4_after_l2_h, law4_after_l2_o, law4_after_l2 n⟩ ((loopsOf b10).getD 0 .skip) := by
  refine ⟨fun _ => by kernel_rfl, ?_⟩
  rintro k ⟨⟨x1, x2, x3, ⟨⟩⟩, ⟨⟩⟩
  kernel_rfl
theorem law4_after_l7_k1 (n : Nat) : LoopOk P CC (law4_after_O n) n 0 65 (law4_after_H n) ⟨[0, 1, 7], law4_after_l7_h, law4_after_l7_o, law4_after_l7 n⟩ ((loopsOf b10).getD 1 .skip) := by
  refine ⟨fun _ => by kernel_rfl, ?_⟩
  rintro k ⟨⟨x1, x2, x3, ⟨⟩⟩, ⟨⟩⟩
  kernel_rfl
theorem law4_after_l13_k2 (n : Nat) : LoopOk P CC (law4_after_O n) n 0 65 (law4_after_H n) ⟨[0, 1, 8, 9], law4_after_l13_h, law4_after_l13_o, law4_after_l13 n⟩ ((loopsOf b10).getD 2 .skip) := by
  refine ⟨fun _ => by kernel_rfl, ?_⟩
  rintro k ⟨⟨x1, x2, x3, x4, ⟨⟩⟩, ⟨⟩⟩
  kernel_rfl
theorem law4_after_ok {S : Nat → Addr} (ok : CfgOk P CC S) : ∀ n, SpecOk P CC S 10 ⟨law4_after_ins, law4_after_outs, law4_after n⟩ :=
  fn_all ok (O := law4_after_O) (H := law4_after_H) (fn := Tryz.f10) (body := b10) (by kernel_rfl) (by kernel_rfl) (by kernel_rfl) (by decide) (by kernel_rfl)
    (fun x => by kernel_rfl) (fun n => by
      rintro ⟨⟨x1, x2, ⟨⟩⟩, ⟨⟩⟩
      kernel_rfl)
    (fun n => obl_of (by kernel_rfl) (by kernel_rfl) (ls (ls (ls (lz) (by kernel_rfl) (law4_after_l2_k0 n)) (by kernel_rfl) (law4_after_l7_k1 n)) (by kernel_rfl) (law4_after_l13_k2 n)) (cn (cn (cn (cn (cn (cn (cn (cn (cn (cn (cn (cn (cn (cn (cn (cn (cn (cn (cn (cn (cn (cn (cn (cn (cn (cz) (by kernel_rfl)) (by kernel_rfl)) (by kernel_rfl)) (by kernel_rfl)) (by kernel_rfl)) (by kernel_rfl)) (by kernel_rfl)) (by kernel_rfl)) (by kernel_rfl)) (by kernel_rfl)) (by kernel_rfl)) (by kernel_rfl)) (by kernel_rfl)) (by kernel_rfl)) (by kernel_rfl)) (by kernel_rfl)) (by kernel_rfl)) (by kernel_rfl)) (by kernel_rfl)) (by kernel_rfl)) (by kernel_rfl)) (by kernel_rfl)) (by kernel_rfl)) (by kernel_rfl)) (by kernel_rfl)) (hn fun _ => rfl))
    (fun n ih => asc_cons (law4_put_ok ok n) <| asc_nil)
/-! ### pendulum/pendulumref.Bare -/
abbrev ref_Bare_ins : Sh := ⟨[(.one (.val (.int .i64)))], []⟩
abbrev ref_Bare_outs : List Sh := [⟨[(.agg [(.val (.int .i64)), (.val .bool), (.val .bool), (.val (.int .i64)), (.val (.int .i64))])], []⟩]
def ref_Bare : Nat → ref_Bare_ins.T → Option (OutsT ref_Bare_outs)
  | 0, _ => none
  | n + 1, ((x1, _), _) =>
    some (((x1, false, false, 0, 0, ()), ()), ())
def ref_Bare_H (n : Nat) : Hints := ⟨[], fun _ => [], fun _ => none, fun _ => none, fun _ => none, fun _ => 0⟩
def ref_Bare_O (n : Nat) : FuncId → List FSpec := asc []
def b32 : Code := bodyOf Tryz.f32
theorem ref_Bare_ok {S : Nat → Addr} (ok : CfgOk P CC S) : ∀ n, SpecOk P CC S 32 ⟨ref_Bare_ins, ref_Bare_outs, ref_Bare n⟩ :=
  fn_all ok (O := ref_Bare_O) (H := ref_Bare_H) (fn := Tryz.f32) (body := b32) (by kernel_rfl) (by kernel_rfl) (by kernel_rfl) (by decide) (by kernel_rfl)
    (fun x => by kernel_rfl) (fun n => by
      rintro ⟨⟨x1, ⟨⟩⟩, ⟨⟩⟩
      kernel_rfl)
    (fun n => obl_of (by kernel_rfl) (by kernel_rfl) (lz) (cn (cn (cz) (by kernel_rfl)) (by kernel_rfl)) (hn fun _ => rfl))
    (fun n ih => asc_nil)
/-! ### pendulum/pendulumref.None -/
abbrev ref_None_ins : Sh := ⟨[], []⟩
abbrev ref_None_outs : List Sh := [⟨[(.agg [(.val (.int .i64)), (.val .bool), (.val .bool), (.val (.int .i64)), (.val (.int .i64))])], []⟩]
def ref_None : Nat → ref_None_ins.T → Option (OutsT ref_None_outs)
  | 0, _ => none
  | n + 1, (_, _) =>
    some (((0, false, false, 0, 0, ()), ()), ())
def ref_None_H (n : Nat) : Hints := ⟨[], fun _ => [], fun _ => none, fun _ => none, fun _ => none, fun _ => 0⟩
def ref_None_O (n : Nat) : FuncId → List FSpec := asc []
def b67 : Code := bodyOf Tryz.f67
theorem ref_None_ok {S : Nat → Addr} (ok : CfgOk P CC S) : ∀ n, SpecOk P CC S 67 ⟨ref_None_ins, ref_None_outs, ref_None n⟩ :=
  fn_all ok (O := ref_None_O) (H := ref_None_H) (fn := Tryz.f67) (body := b67) (by kernel_rfl) (by kernel_rfl) (by kernel_rfl) (by decide) (by kernel_rfl)
    (fun x => by kernel_rfl) (fun n => by
      rintro ⟨⟨⟩, ⟨⟩⟩
      kernel_rfl)
    (fun n => obl_of (by kernel_rfl) (by kernel_rfl) (lz) (cn (cn (cz) (by kernel_rfl)) (by kernel_rfl)) (hn fun _ => rfl))
    (fun n ih => asc_nil)
/-! ### pendulum/pendulumsee.sentinels -/
abbrev pendulumsee_sentinels_ins : Sh := ⟨[], []⟩
abbrev pendulumsee_sentinels_outs : List Sh := [⟨[(.one (.arr 0))], [(.arr 34 .err)]⟩]
def pendulumsee_sentinels : Nat → pendulumsee_sentinels_ins.T → Option (OutsT pendulumsee_sentinels_outs)
  | 0, _ => none
  | n + 1, (_, _) =>
    some (((), ()), ([ErrV.sent 101, ErrV.sent 102, ErrV.sent 103, ErrV.sent 104, ErrV.sent 105, ErrV.sent 106, ErrV.sent 107, ErrV.sent 108, ErrV.sent 109, ErrV.sent 110, ErrV.sent 111, ErrV.sent 112, ErrV.sent 113, ErrV.sent 114, ErrV.sent 115, ErrV.sent 116, ErrV.sent 117, ErrV.sent 118, ErrV.sent 119, ErrV.sent 120, ErrV.sent 121], ()))
def pendulumsee_sentinels_H (n : Nat) : Hints := ⟨[], fun _ => [], fun _ => none, fun _ => none, fun _ => none, fun _ => 0⟩
def pendulumsee_sentinels_O (n : Nat) : FuncId → List FSpec := asc []
def b84 : Code := bodyOf Tryz.f84
theorem pendulumsee_sentinels_ok {S : Nat → Addr} (ok : CfgOk P CC S) : ∀ n, SpecOk P CC S 84 ⟨pendulumsee_sentinels_ins, pendulumsee_sentinels_outs, pendulumsee_sentinels n⟩ :=
  fn_all ok (O := pendulumsee_sentinels_O) (H := pendulumsee_sentinels_H) (fn := Tryz.f84) (body := b84) (by kernel_rfl) (by kernel_rfl) (by kernel_rfl) (by decide) (by kernel_rfl)
    (fun x => by kernel_rfl) (fun n => by
      rintro ⟨⟨⟩, ⟨⟩⟩
      kernel_rfl)
    (fun n => obl_of (by kernel_rfl) (by kernel_rfl) (lz) (cn (cn (cz) (by kernel_rfl)) (by kernel_rfl)) (hn fun _ => rfl))
    (fun n ih => asc_nil)
/-! ### pendulum/pendulumsee.Alike -/
abbrev pendulumsee_Alike_ins : Sh := ⟨[(.one (.val .err)), (.one (.val .err))], []⟩
abbrev pendulumsee_Alike_outs : List Sh := [⟨[(.one (.val .bool))], []⟩]
def pendulumsee_Alike : Nat → pendulumsee_Alike_ins.T → Option (OutsT pendulumsee_Alike_outs)
  | 0, _ => none
  | n + 1, ((x1, x2, _), _) =>
    if errNil x1 then
      if errNil x1 then
        some ((errNil x2, ()), ())
      else
        some ((false, ()), ())
    else
      if errNil x2 then
        if errNil x1 then
          some ((errNil x2, ()), ())
        else
          some ((false, ()), ())
      else
        match errEq x1 x2 with
        | some b3 => (
          some ((b3, ()), ()))
        | none => none
def pendulumsee_Alike_H (n : Nat) : Hints := ⟨[], fun _ => [], fun _ => none, fun _ => none, fun _ => none, fun _ => 0⟩
def pendulumsee_Alike_O (n : Nat) : FuncId → List FSpec := asc []
def b85 : Code := bodyOf Tryz.f85
theorem pendulumsee_Alike_ok {S : Nat → Addr} (ok : CfgOk P CC S) : ∀ n, SpecOk P CC S 85 ⟨pendulumsee_Alike_ins, pendulumsee_Alike_outs, pendulumsee_Alike n⟩ :=
  fn_all ok (O := pendulumsee_Alike_O) (H := pendulumsee_Alike_H) (fn := Tryz.f85) (body := b85) (by kernel_rfl) (by kernel_rfl) (by kernel_rfl) (by decide) (by kernel_rfl)
    (fun x => by kernel_rfl) (fun n => by
      rintro ⟨⟨x1, x2, ⟨⟩⟩, ⟨⟩⟩
      kernel_rfl)
    (fun n => obl_of (by kernel_rfl) (by kernel_rfl) (lz) (cn (cn (cn (cn (cn (cz) (by kernel_rfl)) (by kernel_rfl)) (by kernel_rfl)) (by kernel_rfl)) (by kernel_rfl)) (hn fun _ => rfl))
    (fun n ih => asc_nil)
/-! ### pendulum/pendulumsee.sentinel -/
abbrev pendulumsee_sentinel_ins : Sh := ⟨[(.one (.val .err))], []⟩
abbrev pendulumsee_sentinel_outs : List Sh := [⟨[(.one (.val (.int .i64)))], []⟩]
abbrev pendulumsee_sentinel_l3_h : Sh := ⟨[(.one (.val .err)), (.one (.arr 0)), (.one (.val (.int .i64)))], [(.arr 34 .err)]⟩
abbrev pendulumsee_sentinel_l3_o : List Out := [⟨(.exit 0), [], ⟨[], []⟩⟩, ⟨.ret, [2], ⟨[(.one (.val (.int .i64)))], []⟩⟩]
def pendulumsee_sentinel_l3 (n : Nat) : Nat → pendulumsee_sentinel_l3_h.T → Option (OutT pendulumsee_sentinel_l3_o)
  | 0, _ => none
  | k + 1, ((x1, _, x2, _), (l3, _)) =>
    if decide (x2 < (l3.length : Int)) then
      if 0 ≤ x2 ∧ x2 < (l3.length : Int) then (
        match pendulumsee_Alike n ((x1, rdT (.err : Ty) l3 x2, ()), ()) with
        | some ((x4, _), _) => (
          if x4 then
            let v5 : Int := IntKind.i64.wrap (101 + x2)
            some (.inr (.inl ((v5, ()), ())))
          else
            let v6 : Int := IntKind.i64.wrap (x2 + 1)
            pendulumsee_sentinel_l3 n k ((x1, (), v6, ()), (l3, ())))
        | none => none) else none
    else
      some (.inl ((), ()))
def pendulumsee_sentinel : Nat → pendulumsee_sentinel_ins.T → Option (OutsT pendulumsee_sentinel_outs)
  | 0, _ => none
  | n + 1, ((x1, _), _) =>
    match pendulumsee_sentinels n ((), ()) with
    | some ((_, _), (l2, _)) => (
      match pendulumsee_sentinel_l3 n n ((x1, (), 0, ()), (l2, ())) with
      | some (.inl (_, _)) => (
        some (((-1), ()), ()))
      | some (.inr (.inl ((x3, _), _))) => (
        some ((x3, ()), ()))
      | some (.inr (.inr (_))) => none
      | none => none)
    | none => none
def pendulumsee_sentinel_H (n : Nat) : Hints := ⟨[], fun _ => [], fun k => match k with | 3 => some ⟨[0, 3, 4], pendulumsee_sentinel_l3_h, pendulumsee_sentinel_l3_o, pendulumsee_sentinel_l3 n⟩ | _ => none, fun _ => none, fun _ => none, fun _ => 0⟩
def pendulumsee_sentinel_O (n : Nat) : FuncId → List FSpec := asc [(84, ⟨pendulumsee_sentinels_ins, pendulumsee_sentinels_outs, pendulumsee_sentinels n⟩), (85, ⟨pendulumsee_Alike_ins, pendulumsee_Alike_outs, pendulumsee_Alike n⟩)]
def b68 : Code := bodyOf Tryz.f68
theorem pendulumsee_sentinel_l3_k0 (n : Nat) : LoopOk P CC (pendulumsee_sentinel_O n) n 0 20 (pendulumsee_sentinel_H n) ⟨[0, 3, 4], pendulumsee_sentinel_l3_h, pendulumsee_sentinel_l3_o, pendulumsee_sentinel_l3 n⟩ ((loopsOf b68).getD 0 .skip) := by
  refine ⟨fun _ => by kernel_rfl, ?_⟩
  rintro k ⟨⟨x1, ⟨⟩, x2, ⟨⟩⟩, ⟨x3, ⟨⟩⟩⟩
  kernel_rfl
theorem pendulumsee_sentinel_ok {S : Nat → Addr} (ok : CfgOk P CC S) : ∀ n, SpecOk P CC S 68 ⟨pendulumsee_sentinel_ins, pendulumsee_sentinel_outs, pendulumsee_sentinel n⟩ :=
  fn_all ok (O := pendulumsee_sentinel_O) (H := pendulumsee_sentinel_H) (fn := Tryz.f68) (body := b68) (by kernel_rfl) (by kernel_rfl) (by kernel_rfl) (by decide) (by kernel_rfl)
    (fun x => by kernel_rfl) (fun n => by
      rintro ⟨⟨x1, ⟨⟩⟩, ⟨⟩⟩
      kernel_rfl)
    (fun n => obl_of (by kernel_rfl) (by kernel_rfl) (ls (lz) (by kernel_rfl) (pendulumsee_sentinel_l3_k0 n)) (cn (cn (cn (cn (cn (cn (cn (cn (cn (cn (cz) (by kernel_rfl)) (by kernel_rfl)) (by kernel_rfl)) (by kernel_rfl)) (by kernel_rfl)) (by kernel_rfl)) (by kernel_rfl)) (by kernel_rfl)) (by kernel_rfl)) (by kernel_rfl)) (hn fun _ => rfl))
    (fun n ih => asc_cons (pendulumsee_sentinels_ok ok n) <| asc_cons (pendulumsee_Alike_ok ok n) <| asc_nil)
/-! ### pendulum/pendulumref.Placed -/
abbrev ref_Placed_ins : Sh := ⟨[(.one (.val (.int .i64))), (.one (.val (.int .i64)))], []⟩
abbrev ref_Placed_outs : List Sh := [⟨[(.agg [(.val (.int .i64)), (.val .bool), (.val .bool), (.val (.int .i64)), (.val (.int .i64))])], []⟩]
def ref_Placed : Nat → ref_Placed_ins.T → Option (OutsT ref_Placed_outs)
  | 0, _ => none
  | n + 1, ((x1, x2, _), _) =>
    if x1 == 0 then
      match ref_None n ((), ()) with
      | some (((x3, x4, x5, x6, x7, _), _), _) => (
        some (((x3, x4, x5, x6, x7, ()), ()), ()))
      | none => none
    else
      some (((x1, true, false, x2, 0, ()), ()), ())
def ref_Placed_H (n : Nat) : Hints := ⟨[], fun _ => [], fun _ => none, fun _ => none, fun _ => none, fun _ => 0⟩
def ref_Placed_O (n : Nat) : FuncId → List FSpec := asc [(67, ⟨ref_None_ins, ref_None_outs, ref_None n⟩)]
def b70 : Code := bodyOf Tryz.f70
theorem ref_Placed_ok {S : Nat → Addr} (ok : CfgOk P CC S) : ∀ n, SpecOk P CC S 70 ⟨ref_Placed_ins, ref_Placed_outs, ref_Placed n⟩ :=
  fn_all ok (O := ref_Placed_O) (H := ref_Placed_H) (fn := Tryz.f70) (body := b70) (by kernel_rfl) (by kernel_rfl) (by kernel_rfl) (by decide) (by kernel_rfl)
    (fun x => by kernel_rfl) (fun n => by
      rintro ⟨⟨x1, x2, ⟨⟩⟩, ⟨⟩⟩
      kernel_rfl)
    (fun n => obl_of (by kernel_rfl) (by kernel_rfl) (lz) (cn (cn (cn (cn (cn (cz) (by kernel_rfl)) (by kernel_rfl)) (by kernel_rfl)) (by kernel_rfl)) (by kernel_rfl)) (hn fun _ => rfl))
    (fun n ih => asc_cons (ref_None_ok ok n) <| asc_nil)
/-! ### pendulum/pendulumref.Around -/
abbrev ref_Around_ins : Sh := ⟨[(.agg [(.val (.int .i64)), (.val .bool), (.val .bool), (.val (.int .i64)), (.val (.int .i64))]), (.one (.val (.int .i64)))], []⟩
abbrev ref_Around_outs : List Sh := [⟨[(.agg [(.val (.int .i64)), (.val .bool), (.val .bool), (.val (.int .i64)), (.val (.int .i64))])], []⟩]
def ref_Around : Nat → ref_Around_ins.T → Option (OutsT ref_Around_outs)
  | 0, _ => none
  | n + 1, (((x1, x2, x3, x4, x5, _), x6, _), _) =>
    if x1 == 0 then
      match ref_None n ((), ()) with
      | some (((x7, x8, x9, x10, x11, _), _), _) => (
        some (((x7, x8, x9, x10, x11, ()), ()), ()))
      | none => none
    else
      if x2 then
        some (((x1, true, true, x6, x4, ()), ()), ())
      else
        some (((x1, true, false, x6, 0, ()), ()), ())
def ref_Around_H (n : Nat) : Hints := ⟨[], fun _ => [], fun _ => none, fun _ => none, fun _ => none, fun _ => 0⟩
def ref_Around_O (n : Nat) : FuncId → List FSpec := asc [(67, ⟨ref_None_ins, ref_None_outs, ref_None n⟩)]
def b69 : Code := bodyOf Tryz.f69
theorem ref_Around_ok {S : Nat → Addr} (ok : CfgOk P CC S) : ∀ n, SpecOk P CC S 69 ⟨ref_Around_ins, ref_Around_outs, ref_Around n⟩ :=
  fn_all ok (O := ref_Around_O) (H := ref_Around_H) (fn := Tryz.f69) (body := b69) (by kernel_rfl) (by kernel_rfl) (by kernel_rfl) (by decide) (by kernel_rfl)
    (fun x => by kernel_rfl) (fun n => by
      rintro ⟨⟨⟨x1, x2, x3, x4, x5, ⟨⟩⟩, x6, ⟨⟩⟩, ⟨⟩⟩
      kernel_rfl)
    (fun n => obl_of (by kernel_rfl) (by kernel_rfl) (lz) (cn (cn (cn (cn (cn (cn (cn (cn (cz) (by kernel_rfl)) (by kernel_rfl)) (by kernel_rfl)) (by kernel_rfl)) (by kernel_rfl)) (by kernel_rfl)) (by kernel_rfl)) (by kernel_rfl)) (hn fun _ => rfl))
    (fun n ih => asc_cons (ref_None_ok ok n) <| asc_nil)
/-! ### pendulum/pendulumsee.Fault -/
abbrev pendulumsee_Fault_ins : Sh := ⟨[(.one (.val .err))], []⟩
abbrev pendulumsee_Fault_outs : List Sh := [⟨[(.agg [(.val (.int .i64)), (.val .bool), (.val .bool), (.val (.int .i64)), (.val (.int .i64))])], []⟩]
def pendulumsee_Fault : Nat → pendulumsee_Fault_ins.T → Option (OutsT pendulumsee_Fault_outs)
  | 0, _ => none
  | n + 1, ((x1, _), _) =>
    if errNil x1 then
      match ref_None n ((), ()) with
      | some (((x2, x3, x4, x5, x6, _), _), _) => (
        some (((x2, x3, x4, x5, x6, ()), ()), ()))
      | none => none
    else
      if !(errIsAt x1) then
        match pendulumsee_sentinel n ((x1, ()), ()) with
        | some ((x7, _), _) => (
          match ref_Bare n ((x7, ()), ()) with
          | some (((x8, x9, x10, x11, x12, _), _), _) => (
            some (((x8, x9, x10, x11, x12, ()), ()), ()))
          | none => none)
        | none => none
      else
        if Option.isNone (errAt x1) then
          match ref_Bare n (((-1), ()), ()) with
          | some (((x14, x15, x16, x17, x18, _), _), _) => (
            some (((x14, x15, x16, x17, x18, ()), ()), ()))
          | none => none
        else
          match errAt x1 with
          | some x13 => (
            if errNil x13.2 then
              match ref_Bare n (((-1), ()), ()) with
              | some (((x19, x20, x21, x22, x23, _), _), _) => (
                some (((x19, x20, x21, x22, x23, ()), ()), ()))
              | none => none
            else
              match errAt x1 with
              | some x24 => (
                if errIsAt x24.2 then
                  if Option.isNone (errAt x24.2) then
                    match ref_Bare n (((-1), ()), ()) with
                    | some (((x26, x27, x28, x29, x30, _), _), _) => (
                      some (((x26, x27, x28, x29, x30, ()), ()), ()))
                    | none => none
                  else
                    match errAt x24.2 with
                    | some x25 => (
                      if errNil x25.2 then
                        match ref_Bare n (((-1), ()), ()) with
                        | some (((x31, x32, x33, x34, x35, _), _), _) => (
                          some (((x31, x32, x33, x34, x35, ()), ()), ()))
                        | none => none
                      else
                        match errAt x24.2 with
                        | some x36 => (
                          match pendulumsee_sentinel n ((x36.2, ()), ()) with
                          | some ((x37, _), _) => (
                            match errAt x24.2 with
                            | some x38 => (
                              match ref_Placed n ((x37, x38.1, ()), ()) with
                              | some (((x39, x40, x41, x42, x43, _), _), _) => (
                                match errAt x1 with
                                | some x44 => (
                                  match ref_Around n (((x39, x40, x41, x42, x43, ()), x44.1, ()), ()) with
                                  | some (((x45, x46, x47, x48, x49, _), _), _) => (
                                    some (((x45, x46, x47, x48, x49, ()), ()), ()))
                                  | none => none)
                                | none => none)
                              | none => none)
                            | none => none)
                          | none => none)
                        | none => none)
                    | none => none
                else
                  match errAt x1 with
                  | some x50 => (
                    match pendulumsee_sentinel n ((x50.2, ()), ()) with
                    | some ((x51, _), _) => (
                      match errAt x1 with
                      | some x52 => (
                        match ref_Placed n ((x51, x52.1, ()), ()) with
                        | some (((x53, x54, x55, x56, x57, _), _), _) => (
                          some (((x53, x54, x55, x56, x57, ()), ()), ()))
                        | none => none)
                      | none => none)
                    | none => none)
                  | none => none)
              | none => none)
          | none => none
def pendulumsee_Fault_H (n : Nat) : Hints := ⟨[], fun _ => [], fun _ => none, fun _ => none, fun _ => none, fun _ => 0⟩
def pendulumsee_Fault_O (n : Nat) : FuncId → List FSpec := asc [(32, ⟨ref_Bare_ins, ref_Bare_outs, ref_Bare n⟩), (67, ⟨ref_None_ins, ref_None_outs, ref_None n⟩), (68, ⟨pendulumsee_sentinel_ins, pendulumsee_sentinel_outs, pendulumsee_sentinel n⟩), (69, ⟨ref_Around_ins, ref_Around_outs, ref_Around n⟩), (70, ⟨ref_Placed_ins, ref_Placed_outs, ref_Placed n⟩)]
def b49 : Code := bodyOf Tryz.f49
theorem pendulumsee_Fault_ok {S : Nat → Addr} (ok : CfgOk P CC S) : ∀ n, SpecOk P CC S 49 ⟨pendulumsee_Fault_ins, pendulumsee_Fault_outs, pendulumsee_Fault n⟩ :=
  fn_all ok (O := pendulumsee_Fault_O) (H := pendulumsee_Fault_H) (fn := Tryz.f49) (body := b49) (by kernel_rfl) (by kernel_rfl) (by kernel_rfl) (by decide) (by kernel_rfl)
    (fun x => by kernel_rfl) (fun n => by
      rintro ⟨⟨x1, ⟨⟩⟩, ⟨⟩⟩
      kernel_rfl)
    (fun n => obl_of (by kernel_rfl) (by kernel_rfl) (lz) (cn (cn (cn (cn (cn (cn (cn (cn (cn (cn (cn (cn (cn (cn (cn (cn (cn (cn (cn (cz) (by kernel_rfl)) (by kernel_rfl)) (by kernel_rfl)) (by kernel_rfl)) (by kernel_rfl)) (by kernel_rfl)) (by kernel_rfl)) (by kernel_rfl)) (by kernel_rfl)) (by kernel_rfl)) (by kernel_rfl)) (by kernel_rfl)) (by kernel_rfl)) (by kernel_rfl)) (by kernel_rfl)) (by kernel_rfl)) (by kernel_rfl)) (by kernel_rfl)) (by kernel_rfl)) (hn fun _ => rfl))
    (fun n ih => asc_cons (ref_Bare_ok ok n) <| asc_cons (ref_None_ok ok n) <| asc_cons (pendulumsee_sentinel_ok ok n) <| asc_cons (ref_Around_ok ok n) <| asc_cons (ref_Placed_ok ok n) <| asc_nil)
/-! ### pendulum/pendulumref.SameFault -/
abbrev ref_SameFault_ins : Sh := ⟨[(.agg [(.val (.int .i64)), (.val .bool), (.val .bool), (.val (.int .i64)), (.val (.int .i64))]), (.agg [(.val (.int .i64)), (.val .bool), (.val .bool), (.val (.int .i64)), (.val (.int .i64))])], []⟩
abbrev ref_SameFault_outs : List Sh := [⟨[(.one (.val .bool))], []⟩]
def ref_SameFault : Nat → ref_SameFault_ins.T → Option (OutsT ref_SameFault_outs)
  | 0, _ => none
  | n + 1, (((x1, x2, x3, x4, x5, _), (x6, x7, x8, x9, x10, _), _), _) =>
    if x1 == x6 then
      if x2 == x7 then
        if x4 == x9 then
          if x3 == x8 then
            some ((x5 == x10, ()), ())
          else
            some ((false, ()), ())
        else
          some ((false, ()), ())
      else
        some ((false, ()), ())
    else
      some ((false, ()), ())
def ref_SameFault_H (n : Nat) : Hints := ⟨[], fun _ => [], fun _ => none, fun _ => none, fun _ => none, fun _ => 0⟩
def ref_SameFault_O (n : Nat) : FuncId → List FSpec := asc []
def b48 : Code := bodyOf Tryz.f48
theorem ref_SameFault_ok {S : Nat → Addr} (ok : CfgOk P CC S) : ∀ n, SpecOk P CC S 48 ⟨ref_SameFault_ins, ref_SameFault_outs, ref_SameFault n⟩ :=
  fn_all ok (O := ref_SameFault_O) (H := ref_SameFault_H) (fn := Tryz.f48) (body := b48) (by kernel_rfl) (by kernel_rfl) (by kernel_rfl) (by decide) (by kernel_rfl)
    (fun x => by kernel_rfl) (fun n => by
      rintro ⟨⟨⟨x1, x2, x3, x4, x5, ⟨⟩⟩, ⟨x6, x7, x8, x9, x10, ⟨⟩⟩, ⟨⟩⟩, ⟨⟩⟩
      kernel_rfl)
    (fun n => obl_of (by kernel_rfl) (by kernel_rfl) (lz) (cn (cn (cz) (by kernel_rfl)) (by kernel_rfl)) (hn fun _ => rfl))
    (fun n ih => asc_nil)
/-! ### pendulum/pendulumsee.Same -/
abbrev pendulumsee_Same_ins : Sh := ⟨[(.one (.val .err)), (.agg [(.val (.int .i64)), (.val .bool), (.val .bool), (.val (.int .i64)), (.val (.int .i64))])], []⟩
abbrev pendulumsee_Same_outs : List Sh := [⟨[(.one (.val .bool))], []⟩]
def pendulumsee_Same : Nat → pendulumsee_Same_ins.T → Option (OutsT pendulumsee_Same_outs)
  | 0, _ => none
  | n + 1, ((x1, (x2, x3, x4, x5, x6, _), _), _) =>
    match pendulumsee_Fault n ((x1, ()), ()) with
    | some (((x7, x8, x9, x10, x11, _), _), _) => (
      match ref_SameFault n (((x7, x8, x9, x10, x11, ()), (x2, x3, x4, x5, x6, ()), ()), ()) with
      | some ((x12, _), _) => (
        some ((x12, ()), ()))
      | none => none)
    | none => none
def pendulumsee_Same_H (n : Nat) : Hints := ⟨[], fun _ => [], fun _ => none, fun _ => none, fun _ => none, fun _ => 0⟩
def pendulumsee_Same_O (n : Nat) : FuncId → List FSpec := asc [(48, ⟨ref_SameFault_ins, ref_SameFault_outs, ref_SameFault n⟩), (49, ⟨pendulumsee_Fault_ins, pendulumsee_Fault_outs, pendulumsee_Fault n⟩)]
def b31 : Code := bodyOf Tryz.f31
theorem pendulumsee_Same_ok {S : Nat → Addr} (ok : CfgOk P CC S) : ∀ n, SpecOk P CC S 31 ⟨pendulumsee_Same_ins, pendulumsee_Same_outs, pendulumsee_Same n⟩ :=
  fn_all ok (O := pendulumsee_Same_O) (H := pendulumsee_Same_H) (fn := Tryz.f31) (body := b31) (by kernel_rfl) (by kernel_rfl) (by kernel_rfl) (by decide) (by kernel_rfl)
    (fun x => by kernel_rfl) (fun n => by
      rintro ⟨⟨x1, ⟨x2, x3, x4, x5, x6, ⟨⟩⟩, ⟨⟩⟩, ⟨⟩⟩
      kernel_rfl)
    (fun n => obl_of (by kernel_rfl) (by kernel_rfl) (lz) (cn (cn (cz) (by kernel_rfl)) (by kernel_rfl)) (hn fun _ => rfl))
    (fun n ih => asc_cons (ref_SameFault_ok ok n) <| asc_cons (pendulumsee_Fault_ok ok n) <| asc_nil)
/-! ### pendulum/pendulumsee.Is -/
abbrev pendulumsee_Is_ins : Sh := ⟨[(.one (.val .err)), (.one (.val (.int .i64)))], []⟩
abbrev pendulumsee_Is_outs : List Sh := [⟨[(.one (.val .bool))], []⟩]
def pendulumsee_Is : Nat → pendulumsee_Is_ins.T → Option (OutsT pendulumsee_Is_outs)
  | 0, _ => none
  | n + 1, ((x1, x2, _), _) =>
    match ref_Bare n ((x2, ()), ()) with
    | some (((x3, x4, x5, x6, x7, _), _), _) => (
      match pendulumsee_Same n ((x1, (x3, x4, x5, x6, x7, ()), ()), ()) with
      | some ((x8, _), _) => (
        some ((x8, ()), ()))
      | none => none)
    | none => none
def pendulumsee_Is_H (n : Nat) : Hints := ⟨[], fun _ => [], fun _ => none, fun _ => none, fun _ => none, fun _ => 0⟩
def pendulumsee_Is_O (n : Nat) : FuncId → List FSpec := asc [(31, ⟨pendulumsee_Same_ins, pendulumsee_Same_outs, pendulumsee_Same n⟩), (32, ⟨ref_Bare_ins, ref_Bare_outs, ref_Bare n⟩)]
def b13 : Code := bodyOf Tryz.f13
theorem pendulumsee_Is_ok {S : Nat → Addr} (ok : CfgOk P CC S) : ∀ n, SpecOk P CC S 13 ⟨pendulumsee_Is_ins, pendulumsee_Is_outs, pendulumsee_Is n⟩ :=
  fn_all ok (O := pendulumsee_Is_O) (H := pendulumsee_Is_H) (fn := Tryz.f13) (body := b13) (by kernel_rfl) (by kernel_rfl) (by kernel_rfl) (by decide) (by kernel_rfl)
    (fun x => by kernel_rfl) (fun n => by
      rintro ⟨⟨x1, x2, ⟨⟩⟩, ⟨⟩⟩
      kernel_rfl)
    (fun n => obl_of (by kernel_rfl) (by kernel_rfl) (lz) (cn (cn (cz) (by kernel_rfl)) (by kernel_rfl)) (hn fun _ => rfl))
    (fun n ih => asc_cons (pendulumsee_Same_ok ok n) <| asc_cons (ref_Bare_ok ok n) <| asc_nil)
/-! ### (*pendulum/jour.Store).Compact -/
abbrev jour_Store_Compact_ins : Sh := ⟨[(.one (.ptr 0 0))], [(.obj 68 [(.ptr 1 0), (.map 2), (.val (.int .i64)), (.val (.int .i64)), (.val (.int .i64))]), (.obj 61 [(.val (.int .i64)), (.map 3), (.map 4), (.val (.int .i64)), (.val (.int .i64)), (.val .bool)]), (.map .str .str false), (.map (.int .i64) ty2 false), (.map (.int .i64) ty2 false)]⟩
abbrev jour_Store_Compact_outs : List Sh := [⟨[(.one (.val .err))], [(.obj 68 [(.ptr 1 0), (.map 2), (.val (.int .i64)), (.val (.int .i64)), (.val (.int .i64))]), (.obj 61 [(.val (.int .i64)), (.map 3), (.map 4), (.val (.int .i64)), (.val (.int .i64)), (.val .bool)]), (.map .str .str false), (.map (.int .i64) ty2 false), (.map (.int .i64) ty2 false)]⟩, ⟨[(.one (.val .err))], [(.obj 68 [(.ptr 1 0), (.map 5), (.val (.int .i64)), (.val (.int .i64)), (.val (.int .i64))]), (.obj 61 [(.val (.int .i64)), (.map 3), (.map 4), (.val (.int .i64)), (.val (.int .i64)), (.val .bool)]), (.map .str .str false), (.map (.int .i64) ty2 false), (.map (.int .i64) ty2 false), (.map .str .str false)]⟩]
def jour_Store_Compact : Nat → jour_Store_Compact_ins.T → Option (OutsT jour_Store_Compact_outs)
  | 0, _ => none
  | n + 1, ((_, _), ((_, _, x1, x2, x3, _), (x4, _, _, x5, x6, x7, _), m8, m9, m10, _)) =>
    match maps_Clone_33 n (((), ()), (m8, ())) with
    | some ((_, _), (m11, m12, _)) => (
      match jour_Store_all n (((), (), ()), (((), (), x1, x2, x3, ()), m12, (x4, (), (), x5, x6, x7, ()), m11, m9, m10, ())) with
      | some (.inl ((x13, _), ((_, _, x14, x15, x16, _), m17, (x18, _, _, x19, x20, x21, _), m22, m23, m24, _))) => (
        some (.inl ((x13, ()), (((), (), x14, x15, x16, ()), (x18, (), (), x19, x20, x21, ()), m22, m23, m24, ()))))
      | some (.inr (((x25, _), ((_, _, x26, x27, x28, _), m29, (x30, _, _, x31, x32, x33, _), m34, m35, m36, _)))) => (
        some (.inr (((x25, ()), (((), (), x26, x27, x28, ()), (x30, (), (), x31, x32, x33, ()), m34, m35, m36, m29, ())))))
      | none => none)
    | none => none
def jour_Store_Compact_H (n : Nat) : Hints := ⟨[], fun _ => [], fun _ => none, fun _ => none, fun _ => none, fun _ => 0⟩
def jour_Store_Compact_O (n : Nat) : FuncId → List FSpec := asc [(30, ⟨jour_Store_all_ins, jour_Store_all_outs, jour_Store_all n⟩), (33, ⟨maps_Clone_33_ins, maps_Clone_33_outs, maps_Clone_33 n⟩)]
def b14 : Code := bodyOf Tryz.f14
theorem jour_Store_Compact_ok {S : Nat → Addr} (ok : CfgOk P CC S) : ∀ n, SpecOk P CC S 14 ⟨jour_Store_Compact_ins, jour_Store_Compact_outs, jour_Store_Compact n⟩ :=
  fn_all ok (O := jour_Store_Compact_O) (H := jour_Store_Compact_H) (fn := Tryz.f14) (body := b14) (by kernel_rfl) (by kernel_rfl) (by kernel_rfl) (by decide) (by kernel_rfl)
    (fun x => by kernel_rfl) (fun n => by
      rintro ⟨⟨⟨⟩, ⟨⟩⟩, ⟨⟨⟨⟩, ⟨⟩, x1, x2, x3, ⟨⟩⟩, ⟨x4, ⟨⟩, ⟨⟩, x5, x6, x7, ⟨⟩⟩, x8, x9, x10, ⟨⟩⟩⟩
      kernel_rfl)
    (fun n => obl_of (by kernel_rfl) (by kernel_rfl) (lz) (cn (cn (cz) (by kernel_rfl)) (by kernel_rfl)) (hn fun _ => rfl))
    (fun n ih => asc_cons (jour_Store_all_ok ok n) <| asc_cons (maps_Clone_33_ok ok n) <| asc_nil)
/-! ### pendulum/pendulumlaw4.same -/
abbrev law4_same_ins : Sh := ⟨[(.one (.ptr 0 0)), (.one (.val ty8))], [(.obj 68 [(.ptr 1 0), (.map 2), (.val (.int .i64)), (.val (.int .i64)), (.val (.int .i64))]), (.obj 61 [(.val (.int .i64)), (.map 3), (.map 4), (.val (.int .i64)), (.val (.int .i64)), (.val .bool)]), (.map .str .str false), (.map (.int .i64) ty2 false), (.map (.int .i64) ty2 false)]⟩
abbrev law4_same_outs : List Sh := [⟨[(.one (.val .bool))], [(.obj 68 [(.ptr 1 0), (.map 2), (.val (.int .i64)), (.val (.int .i64)), (.val (.int .i64))]), (.obj 61 [(.val (.int .i64)), (.map 3), (.map 4), (.val (.int .i64)), (.val (.int .i64)), (.val .bool)]), (.map .str .str false), (.map (.int .i64) ty2 false), (.map (.int .i64) ty2 false)]⟩]
abbrev law4_same_l5_h : Sh := ⟨[(.one (.ptr 0 0)), (.one (.val ty8)), (.one (.arr 5)), (.one (.val (.int .i64)))], [(.obj 68 [(.ptr 1 0), (.map 2), (.val (.int .i64)), (.val (.int .i64)), (.val (.int .i64))]), (.obj 61 [(.val (.int .i64)), (.map 3), (.map 4), (.val (.int .i64)), (.val (.int .i64)), (.val .bool)]), (.map .str .str false), (.map (.int .i64) ty2 false), (.map (.int .i64) ty2 false), (.arr 9 .str)]⟩
abbrev law4_same_l5_o : List Out := [⟨(.exit 0), [], ⟨[], [(.obj 68 [(.ptr 1 0), (.map 2), (.val (.int .i64)), (.val (.int .i64)), (.val (.int .i64))]), (.obj 61 [(.val (.int .i64)), (.map 3), (.map 4), (.val (.int .i64)), (.val (.int .i64)), (.val .bool)]), (.map .str .str false), (.map (.int .i64) ty2 false), (.map (.int .i64) ty2 false)]⟩⟩, ⟨.ret, [4], ⟨[(.one (.val .bool))], [(.obj 68 [(.ptr 1 0), (.map 2), (.val (.int .i64)), (.val (.int .i64)), (.val (.int .i64))]), (.obj 61 [(.val (.int .i64)), (.map 3), (.map 4), (.val (.int .i64)), (.val (.int .i64)), (.val .bool)]), (.map .str .str false), (.map (.int .i64) ty2 false), (.map (.int .i64) ty2 false)]⟩⟩]
def law4_same_l5 (n : Nat) : Nat → law4_same_l5_h.T → Option (OutT law4_same_l5_o)
  | 0, _ => none
  | k + 1, ((_, x1, _, x2, _), ((_, _, x3, x4, x5, _), (x6, _, _, x7, x8, x9, _), m10, m11, m12, l13, _)) =>
    if decide (x2 < (x1.length : Int)) then
      if 0 ≤ x2 ∧ x2 < (x1.length : Int) then (
        match jour_Store_Get n (((), (rdT ty5 x1 x2).1, ()), (((), (), x3, x4, x5, ()), (x6, (), (), x7, x8, x9, ()), m10, m11, m12, ())) with
        | some ((((x14, _), (x15, _), _), _), ((_, _, x16, x17, x18, _), (x19, _, _, x20, x21, x22, _), m23, m24, m25, _)) => (
          if 0 ≤ x2 ∧ x2 < (l13.length : Int) then (
            if 0 ≤ x2 ∧ x2 < (x1.length : Int) then (
              if !strEq (rdT (.str : Ty) l13 x2) ((rdT ty5 x1 x2).1) then
                some (.inr (.inl ((false, ()), (((), (), x16, x17, x18, ()), (x19, (), (), x20, x21, x22, ()), m23, m24, m25, ()))))
              else
                if !x15 then
                  some (.inr (.inl ((false, ()), (((), (), x16, x17, x18, ()), (x19, (), (), x20, x21, x22, ()), m23, m24, m25, ()))))
                else
                  if 0 ≤ x2 ∧ x2 < (x1.length : Int) then (
                    if !strEq x14 ((rdT ty5 x1 x2).2) then
                      some (.inr (.inl ((false, ()), (((), (), x16, x17, x18, ()), (x19, (), (), x20, x21, x22, ()), m23, m24, m25, ()))))
                    else
                      let v26 : Int := IntKind.i64.wrap (x2 + 1)
                      law4_same_l5 n k (((), x1, (), v26, ()), (((), (), x16, x17, x18, ()), (x19, (), (), x20, x21, x22, ()), m23, m24, m25, l13, ()))) else none) else none) else none)
        | none => none) else none
    else
      some (.inl ((), (((), (), x3, x4, x5, ()), (x6, (), (), x7, x8, x9, ()), m10, m11, m12, ())))
def law4_same : Nat → law4_same_ins.T → Option (OutsT law4_same_outs)
  | 0, _ => none
  | n + 1, ((_, x1, _), ((_, _, x2, x3, x4, _), (x5, _, _, x6, x7, x8, _), m9, m10, m11, _)) =>
    match jour_Store_Keys n (((), ()), (((), (), x2, x3, x4, ()), (x5, (), (), x6, x7, x8, ()), m9, m10, m11, ())) with
    | some ((_, _), ((_, _, x12, x13, x14, _), (x15, _, _, x16, x17, x18, _), m19, m20, m21, l22, _)) => (
      if (l22.length : Int) != (x1.length : Int) then
        some ((false, ()), (((), (), x12, x13, x14, ()), (x15, (), (), x16, x17, x18, ()), m19, m20, m21, ()))
      else
        match law4_same_l5 n n (((), x1, (), 0, ()), (((), (), x12, x13, x14, ()), (x15, (), (), x16, x17, x18, ()), m19, m20, m21, l22, ())) with
        | some (.inl (_, ((_, _, x23, x24, x25, _), (x26, _, _, x27, x28, x29, _), m30, m31, m32, _))) => (
          some ((true, ()), (((), (), x23, x24, x25, ()), (x26, (), (), x27, x28, x29, ()), m30, m31, m32, ())))
        | some (.inr (.inl ((x33, _), ((_, _, x34, x35, x36, _), (x37, _, _, x38, x39, x40, _), m41, m42, m43, _)))) => (
          some ((x33, ()), (((), (), x34, x35, x36, ()), (x37, (), (), x38, x39, x40, ()), m41, m42, m43, ())))
        | some (.inr (.inr (_))) => none
        | none => none)
    | none => none
def law4_same_H (n : Nat) : Hints := ⟨[], fun _ => [], fun k => match k with | 5 => some ⟨[0, 1, 5, 6], law4_same_l5_h, law4_same_l5_o, law4_same_l5 n⟩ | _ => none, fun _ => none, fun _ => none, fun _ => 0⟩
def law4_same_O (n : Nat) : FuncId → List FSpec := asc [(19, ⟨jour_Store_Keys_ins, jour_Store_Keys_outs, jour_Store_Keys n⟩), (20, ⟨jour_Store_Get_ins, jour_Store_Get_outs, jour_Store_Get n⟩)]
def b15 : Code := bodyOf Tryz.f15
theorem law4_same_l5_k0 (n : Nat) : LoopOk P CC (law4_same_O n) n 5 55 (law4_same_H n) ⟨[0, 1, 5, 6], law4_same_l5_h, law4_same_l5_o, law4_same_l5 n⟩ ((loopsOf b15).getD 0 .skip) := by
  refine ⟨fun _ => by kernel_rfl, ?_⟩
  rintro k ⟨⟨⟨⟩, x1, ⟨⟩, x2, ⟨⟩⟩, ⟨⟨⟨⟩, ⟨⟩, x3, x4, x5, ⟨⟩⟩, ⟨x6, ⟨⟩, ⟨⟩, x7, x8, x9, ⟨⟩⟩, x10, x11, x12, x13, ⟨⟩⟩⟩
  kernel_rfl
theorem law4_same_ok {S : Nat → Addr} (ok : CfgOk P CC S) : ∀ n, SpecOk P CC S 15 ⟨law4_same_ins, law4_same_outs, law4_same n⟩ :=
  fn_all ok (O := law4_same_O) (H := law4_same_H) (fn := Tryz.f15) (body := b15) (by kernel_rfl) (by kernel_rfl) (by kernel_rfl) (by decide) (by kernel_rfl)
    (fun x => by kernel_rfl) (fun n => by
      rintro ⟨⟨⟨⟩, x1, ⟨⟩⟩, ⟨⟨⟨⟩, ⟨⟩, x2, x3, x4, ⟨⟩⟩, ⟨x5, ⟨⟩, ⟨⟩, x6, x7, x8, ⟨⟩⟩, x9, x10, x11, ⟨⟩⟩⟩
      kernel_rfl)
    (fun n => obl_of (by kernel_rfl) (by kernel_rfl) (ls (lz) (by kernel_rfl) (law4_same_l5_k0 n)) (cn (cn (cn (cn (cn (cn (cn (cn (cn (cn (cn (cn (cn (cn (cz) (by kernel_rfl)) (by kernel_rfl)) (by kernel_rfl)) (by kernel_rfl)) (by kernel_rfl)) (by kernel_rfl)) (by kernel_rfl)) (by kernel_rfl)) (by kernel_rfl)) (by kernel_rfl)) (by kernel_rfl)) (by kernel_rfl)) (by kernel_rfl)) (by kernel_rfl)) (hn fun _ => rfl))
    (fun n ih => asc_cons (jour_Store_Keys_ok ok n) <| asc_cons (jour_Store_Get_ok ok n) <| asc_nil)
/-! ### maps.Keys[map[int][]byte,int,[]byte] -/
abbrev maps_Keys_map_int_byte_int_byte_ins : Sh := ⟨[(.one (.map 0))], [(.map (.int .i64) ty2 false)]⟩
abbrev maps_Keys_map_int_byte_int_byte_outs : List Sh := [⟨[(.one (.fn 53 [1]))], [(.map (.int .i64) ty2 false), (.obj 59 [(.map 0)])]⟩]
def maps_Keys_map_int_byte_int_byte : Nat → maps_Keys_map_int_byte_int_byte_ins.T → Option (OutsT maps_Keys_map_int_byte_int_byte_outs)
  | 0, _ => none
  | n + 1, ((_, _), (m1, _)) =>
    some (((), ()), (m1, ((), ()), ()))
def maps_Keys_map_int_byte_int_byte_H (n : Nat) : Hints := ⟨[], fun _ => [], fun _ => none, fun _ => none, fun _ => none, fun _ => 0⟩
def maps_Keys_map_int_byte_int_byte_O (n : Nat) : FuncId → List FSpec := asc []
def b35 : Code := bodyOf Tryz.f35
theorem maps_Keys_map_int_byte_int_byte_ok {S : Nat → Addr} (ok : CfgOk P CC S) : ∀ n, SpecOk P CC S 35 ⟨maps_Keys_map_int_byte_int_byte_ins, maps_Keys_map_int_byte_int_byte_outs, maps_Keys_map_int_byte_int_byte n⟩ :=
  fn_all ok (O := maps_Keys_map_int_byte_int_byte_O) (H := maps_Keys_map_int_byte_int_byte_H) (fn := Tryz.f35) (body := b35) (by kernel_rfl) (by kernel_rfl) (by kernel_rfl) (by decide) (by kernel_rfl)
    (fun x => by kernel_rfl) (fun n => by
      rintro ⟨⟨⟨⟩, ⟨⟩⟩, ⟨x1, ⟨⟩⟩⟩
      kernel_rfl)
    (fun n => obl_of (by kernel_rfl) (by kernel_rfl) (lz) (cn (cn (cz) (by kernel_rfl)) (by kernel_rfl)) (hn fun _ => rfl))
    (fun n ih => asc_nil)
/-! ### slices.Sorted[int] (by hand) -/
abbrev slices_Sorted_53_ins : Sh := ⟨[(.one (.fn 53 [0]))], [(.obj 59 [(.map 1)]), (.map (.int .i64) ty2 false)]⟩
abbrev slices_Sorted_53_outs : List Sh := [⟨[(.one (.arr 2))], [(.obj 59 [(.map 1)]), (.map (.int .i64) ty2 false), (.arr 3 (.int .i64))]⟩]
def slices_Sorted_53 : Nat → slices_Sorted_53_ins.T → Option (OutsT slices_Sorted_53_outs) := fun _ => sortedSem 59 3 ty2 false 53
theorem slices_Sorted_53_ok {S : Nat → Addr} (ok : CfgOk P CC S) : ∀ n, SpecOk P CC S 34 ⟨slices_Sorted_53_ins, slices_Sorted_53_outs, slices_Sorted_53 n⟩ := fun n => sorted_spec (ty := 3) ⟨Tryz.f34, by kernel_rfl, by kernel_rfl, by kernel_rfl⟩ (by kernel_rfl) Sq.sorted_calls_53
/-! ### (*pendulum/disk.Disk).Crash -/
abbrev disk_Disk_Crash_ins : Sh := ⟨[(.one (.ptr 0 0)), (.one (.val ty9))], [(.obj 61 [(.val (.int .i64)), (.map 1), (.map 2), (.val (.int .i64)), (.val (.int .i64)), (.val .bool)]), (.map (.int .i64) ty2 false), (.map (.int .i64) ty2 false)]⟩
abbrev disk_Disk_Crash_outs : List Sh := [⟨[(.tup [])], [(.obj 61 [(.val (.int .i64)), (.map 1), (.map 2), (.val (.int .i64)), (.val (.int .i64)), (.val .bool)]), (.map (.int .i64) ty2 false), (.map (.int .i64) ty2 false)]⟩]
abbrev disk_Disk_Crash_l1_h : Sh := ⟨[(.one (.ptr 0 0)), (.one (.val ty9)), (.one (.arr 3)), (.one (.val (.int .i64))), (.one (.val (.int .i64)))], [(.obj 61 [(.val (.int .i64)), (.map 1), (.map 2), (.val (.int .i64)), (.val (.int .i64)), (.val .bool)]), (.map (.int .i64) ty2 false), (.map (.int .i64) ty2 false), (.arr 3 (.int .i64))]⟩
abbrev disk_Disk_Crash_l1_o : List Out := [⟨(.exit 0), [0], ⟨[(.one (.ptr 0 0))], [(.obj 61 [(.val (.int .i64)), (.map 1), (.map 2), (.val (.int .i64)), (.val (.int .i64)), (.val .bool)]), (.map (.int .i64) ty2 false), (.map (.int .i64) ty2 false)]⟩⟩]
def disk_Disk_Crash_l1 (n : Nat) : Nat → disk_Disk_Crash_l1_h.T → Option (OutT disk_Disk_Crash_l1_o)
  | 0, _ => none
  | k + 1, ((_, x1, _, x2, x3, _), ((x4, _, _, x5, x6, x7, _), m8, m9, l10, _)) =>
    if decide (x3 < x2) then
      if 0 ≤ x3 ∧ x3 < (l10.length : Int) then (
        let v11 : Int := rdT ((.int .i64) : Ty) l10 x3
        if decide (x3 < (x1.length : Int)) then
          if 0 ≤ x3 ∧ x3 < (x1.length : Int) then (
            let v12 : Int := rdT ((.int .i64) : Ty) x1 x3
            if bitsOp .and .i64 v12 1 == 1 then
              let v13 : List Int := (mfind (keyEq ((.int .i64) : Ty)) v11 m9).getD []
              let v14 : Int := IntKind.i64.wrap (x3 + 1)
              disk_Disk_Crash_l1 n k (((), x1, (), x2, v14, ()), ((x4, (), (), x5, x6, x7, ()), mset (keyEq ((.int .i64) : Ty)) v11 v13 m8, m9, l10, ()))
            else
              let v15 : Int := IntKind.i64.wrap (x3 + 1)
              disk_Disk_Crash_l1 n k (((), x1, (), x2, v15, ()), ((x4, (), (), x5, x6, x7, ()), m8, m9, l10, ()))) else none
        else
          let v16 : Int := IntKind.i64.wrap (x3 + 1)
          disk_Disk_Crash_l1 n k (((), x1, (), x2, v16, ()), ((x4, (), (), x5, x6, x7, ()), m8, m9, l10, ()))) else none
    else
      some (.inl (((), ()), ((x4, (), (), x5, x6, x7, ()), m8, m9, ())))
def disk_Disk_Crash : Nat → disk_Disk_Crash_ins.T → Option (OutsT disk_Disk_Crash_outs)
  | 0, _ => none
  | n + 1, ((_, x1, _), ((x2, _, _, x3, x4, x5, _), m6, m7, _)) =>
    match maps_Keys_map_int_byte_int_byte n (((), ()), (m7, ())) with
    | some ((_, _), (m8, (_, _), _)) => (
      match slices_Sorted_53 n (((), ()), (((), ()), m8, ())) with
      | some ((_, _), ((_, _), m9, l10, _)) => (
        match disk_Disk_Crash_l1 n n (((), x1, (), (l10.length : Int), 0, ()), ((x2, (), (), x3, x4, x5, ()), m6, m9, l10, ())) with
        | some (.inl ((_, _), ((x11, _, _, x12, x13, x14, _), m15, m16, _))) => (
          some (((), ()), ((x11, (), (), x12, 0, false, ()), m15, [], ())))
        | some (.inr (_)) => none
        | none => none)
      | none => none)
    | none => none
def disk_Disk_Crash_H (n : Nat) : Hints := ⟨[], fun _ => [], fun k => match k with | 1 => some ⟨[0, 1, 11, 12, 13], disk_Disk_Crash_l1_h, disk_Disk_Crash_l1_o, disk_Disk_Crash_l1 n⟩ | _ => none, fun _ => none, fun _ => none, fun _ => 0⟩
def disk_Disk_Crash_O (n : Nat) : FuncId → List FSpec := asc [(34, ⟨slices_Sorted_53_ins, slices_Sorted_53_outs, slices_Sorted_53 n⟩), (35, ⟨maps_Keys_map_int_byte_int_byte_ins, maps_Keys_map_int_byte_int_byte_outs, maps_Keys_map_int_byte_int_byte n⟩)]
def b16 : Code := bodyOf Tryz.f16
theorem disk_Disk_Crash_l1_k0 (n : Nat) : LoopOk P CC (disk_Disk_Crash_O n) n 3 52 (disk_Disk_Crash_H n) ⟨[0, 1, 11, 12, 13], disk_Disk_Crash_l1_h, disk_Disk_Crash_l1_o, disk_Disk_Crash_l1 n⟩ ((loopsOf b16).getD 0 .skip) := by
  refine ⟨fun _ => by kernel_rfl, ?_⟩
  rintro k ⟨⟨⟨⟩, x1, ⟨⟩, x2, x3, ⟨⟩⟩, ⟨⟨x4, ⟨⟩, ⟨⟩, x5, x6, x7, ⟨⟩⟩, x8, x9, x10, ⟨⟩⟩⟩
  kernel_rfl
theorem disk_Disk_Crash_ok {S : Nat → Addr} (ok : CfgOk P CC S) : ∀ n, SpecOk P CC S 16 ⟨disk_Disk_Crash_ins, disk_Disk_Crash_outs, disk_Disk_Crash n⟩ :=
  fn_all ok (O := disk_Disk_Crash_O) (H := disk_Disk_Crash_H) (fn := Tryz.f16) (body := b16) (by kernel_rfl) (by kernel_rfl) (by kernel_rfl) (by decide) (by kernel_rfl)
    (fun x => by kernel_rfl) (fun n => by
      rintro ⟨⟨⟨⟩, x1, ⟨⟩⟩, ⟨⟨x2, ⟨⟩, ⟨⟩, x3, x4, x5, ⟨⟩⟩, x6, x7, ⟨⟩⟩⟩
      kernel_rfl)
    (fun n => obl_of (by kernel_rfl) (by kernel_rfl) (ls (lz) (by kernel_rfl) (disk_Disk_Crash_l1_k0 n)) (cn (cn (cn (cn (cn (cn (cn (cn (cz) (by kernel_rfl)) (by kernel_rfl)) (by kernel_rfl)) (by kernel_rfl)) (by kernel_rfl)) (by kernel_rfl)) (by kernel_rfl)) (by kernel_rfl)) (hn fun _ => rfl))
    (fun n ih => asc_cons (slices_Sorted_53_ok ok n) <| asc_cons (maps_Keys_map_int_byte_int_byte_ok ok n) <| asc_nil)
/-! ### pendulum/pendulumlaw4.same -/
abbrev law4_same_2_ins : Sh := ⟨[(.one (.ptr 0 0)), (.one (.arr 1))], [(.obj 68 [(.ptr 2 0), (.map 3), (.val (.int .i64)), (.val (.int .i64)), (.val (.int .i64))]), (.arr 82 ty5), (.obj 61 [(.val (.int .i64)), (.map 4), (.map 5), (.val (.int .i64)), (.val (.int .i64)), (.val .bool)]), (.map .str .str false), (.map (.int .i64) ty2 false), (.map (.int .i64) ty2 false)]⟩
abbrev law4_same_2_outs : List Sh := [⟨[(.one (.val .bool))], [(.obj 68 [(.ptr 2 0), (.map 3), (.val (.int .i64)), (.val (.int .i64)), (.val (.int .i64))]), (.arr 82 ty5), (.obj 61 [(.val (.int .i64)), (.map 4), (.map 5), (.val (.int .i64)), (.val (.int .i64)), (.val .bool)]), (.map .str .str false), (.map (.int .i64) ty2 false), (.map (.int .i64) ty2 false)]⟩]
abbrev law4_same_2_l5_h : Sh := ⟨[(.one (.ptr 0 0)), (.one (.arr 1)), (.one (.arr 6)), (.one (.val (.int .i64)))], [(.obj 68 [(.ptr 2 0), (.map 3), (.val (.int .i64)), (.val (.int .i64)), (.val (.int .i64))]), (.arr 82 ty5), (.obj 61 [(.val (.int .i64)), (.map 4), (.map 5), (.val (.int .i64)), (.val (.int .i64)), (.val .bool)]), (.map .str .str false), (.map (.int .i64) ty2 false), (.map (.int .i64) ty2 false), (.arr 9 .str)]⟩
abbrev law4_same_2_l5_o : List Out := [⟨(.exit 0), [], ⟨[], [(.obj 68 [(.ptr 2 0), (.map 3), (.val (.int .i64)), (.val (.int .i64)), (.val (.int .i64))]), (.arr 82 ty5), (.obj 61 [(.val (.int .i64)), (.map 4), (.map 5), (.val (.int .i64)), (.val (.int .i64)), (.val .bool)]), (.map .str .str false), (.map (.int .i64) ty2 false), (.map (.int .i64) ty2 false)]⟩⟩, ⟨.ret, [4], ⟨[(.one (.val .bool))], [(.obj 68 [(.ptr 2 0), (.map 3), (.val (.int .i64)), (.val (.int .i64)), (.val (.int .i64))]), (.arr 82 ty5), (.obj 61 [(.val (.int .i64)), (.map 4), (.map 5), (.val (.int .i64)), (.val (.int .i64)), (.val .bool)]), (.map .str .str false), (.map (.int .i64) ty2 false), (.map (.int .i64) ty2 false)]⟩⟩]
def law4_same_2_l5 (n : Nat) : Nat → law4_same_2_l5_h.T → Option (OutT law4_same_2_l5_o)
  | 0, _ => none
  | k + 1, ((_, _, _, x1, _), ((_, _, x2, x3, x4, _), l5, (x6, _, _, x7, x8, x9, _), m10, m11, m12, l13, _)) =>
    if decide (x1 < (l5.length : Int)) then
      if 0 ≤ x1 ∧ x1 < (l5.length : Int) then (
        match jour_Store_Get n (((), (rdT ty5 l5 x1).1, ()), (((), (), x2, x3, x4, ()), (x6, (), (), x7, x8, x9, ()), m10, m11, m12, ())) with
        | some ((((x14, _), (x15, _), _), _), ((_, _, x16, x17, x18, _), (x19, _, _, x20, x21, x22, _), m23, m24, m25, _)) => (
          if 0 ≤ x1 ∧ x1 < (l13.length : Int) then (
            if 0 ≤ x1 ∧ x1 < (l5.length : Int) then (
              if !strEq (rdT (.str : Ty) l13 x1) ((rdT ty5 l5 x1).1) then
                some (.inr (.inl ((false, ()), (((), (), x16, x17, x18, ()), l5, (x19, (), (), x20, x21, x22, ()), m23, m24, m25, ()))))
              else
                if !x15 then
                  some (.inr (.inl ((false, ()), (((), (), x16, x17, x18, ()), l5, (x19, (), (), x20, x21, x22, ()), m23, m24, m25, ()))))
                else
                  if 0 ≤ x1 ∧ x1 < (l5.length : Int) then (
                    if !strEq x14 ((rdT ty5 l5 x1).2) then
                      some (.inr (.inl ((false, ()), (((), (), x16, x17, x18, ()), l5, (x19, (), (), x20, x21, x22, ()), m23, m24, m25, ()))))
                    else
                      let v26 : Int := IntKind.i64.wrap (x1 + 1)
                      law4_same_2_l5 n k (((), (), (), v26, ()), (((), (), x16, x17, x18, ()), l5, (x19, (), (), x20, x21, x22, ()), m23, m24, m25, l13, ()))) else none) else none) else none)
        | none => none) else none
    else
      some (.inl ((), (((), (), x2, x3, x4, ()), l5, (x6, (), (), x7, x8, x9, ()), m10, m11, m12, ())))
def law4_same_2 : Nat → law4_same_2_ins.T → Option (OutsT law4_same_2_outs)
  | 0, _ => none
  | n + 1, ((_, _, _), ((_, _, x1, x2, x3, _), l4, (x5, _, _, x6, x7, x8, _), m9, m10, m11, _)) =>
    match jour_Store_Keys n (((), ()), (((), (), x1, x2, x3, ()), (x5, (), (), x6, x7, x8, ()), m9, m10, m11, ())) with
    | some ((_, _), ((_, _, x12, x13, x14, _), (x15, _, _, x16, x17, x18, _), m19, m20, m21, l22, _)) => (
      if (l22.length : Int) != (l4.length : Int) then
        some ((false, ()), (((), (), x12, x13, x14, ()), l4, (x15, (), (), x16, x17, x18, ()), m19, m20, m21, ()))
      else
        match law4_same_2_l5 n n (((), (), (), 0, ()), (((), (), x12, x13, x14, ()), l4, (x15, (), (), x16, x17, x18, ()), m19, m20, m21, l22, ())) with
        | some (.inl (_, ((_, _, x23, x24, x25, _), l26, (x27, _, _, x28, x29, x30, _), m31, m32, m33, _))) => (
          some ((true, ()), (((), (), x23, x24, x25, ()), l26, (x27, (), (), x28, x29, x30, ()), m31, m32, m33, ())))
        | some (.inr (.inl ((x34, _), ((_, _, x35, x36, x37, _), l38, (x39, _, _, x40, x41, x42, _), m43, m44, m45, _)))) => (
          some ((x34, ()), (((), (), x35, x36, x37, ()), l38, (x39, (), (), x40, x41, x42, ()), m43, m44, m45, ())))
        | some (.inr (.inr (_))) => none
        | none => none)
    | none => none
def law4_same_2_H (n : Nat) : Hints := ⟨[], fun _ => [], fun k => match k with | 5 => some ⟨[0, 1, 5, 6], law4_same_2_l5_h, law4_same_2_l5_o, law4_same_2_l5 n⟩ | _ => none, fun _ => none, fun _ => none, fun _ => 0⟩
def law4_same_2_O (n : Nat) : FuncId → List FSpec := asc [(19, ⟨jour_Store_Keys_ins, jour_Store_Keys_outs, jour_Store_Keys n⟩), (20, ⟨jour_Store_Get_ins, jour_Store_Get_outs, jour_Store_Get n⟩)]
theorem law4_same_2_l5_k0 (n : Nat) : LoopOk P CC (law4_same_2_O n) n 6 55 (law4_same_2_H n) ⟨[0, 1, 5, 6], law4_same_2_l5_h, law4_same_2_l5_o, law4_same_2_l5 n⟩ ((loopsOf b15).getD 0 .skip) := by
  refine ⟨fun _ => by kernel_rfl, ?_⟩
  rintro k ⟨⟨⟨⟩, ⟨⟩, ⟨⟩, x1, ⟨⟩⟩, ⟨⟨⟨⟩, ⟨⟩, x2, x3, x4, ⟨⟩⟩, x5, ⟨x6, ⟨⟩, ⟨⟩, x7, x8, x9, ⟨⟩⟩, x10, x11, x12, x13, ⟨⟩⟩⟩
  kernel_rfl
theorem law4_same_2_ok {S : Nat → Addr} (ok : CfgOk P CC S) : ∀ n, SpecOk P CC S 15 ⟨law4_same_2_ins, law4_same_2_outs, law4_same_2 n⟩ :=
  fn_all ok (O := law4_same_2_O) (H := law4_same_2_H) (fn := Tryz.f15) (body := b15) (by kernel_rfl) (by kernel_rfl) (by kernel_rfl) (by decide) (by kernel_rfl)
    (fun x => by kernel_rfl) (fun n => by
      rintro ⟨⟨⟨⟩, ⟨⟩, ⟨⟩⟩, ⟨⟨⟨⟩, ⟨⟩, x1, x2, x3, ⟨⟩⟩, x4, ⟨x5, ⟨⟩, ⟨⟩, x6, x7, x8, ⟨⟩⟩, x9, x10, x11, ⟨⟩⟩⟩
      kernel_rfl)
    (fun n => obl_of (by kernel_rfl) (by kernel_rfl) (ls (lz) (by kernel_rfl) (law4_same_2_l5_k0 n)) (cn (cn (cn (cn (cn (cn (cn (cn (cn (cn (cn (cn (cn (cn (cz) (by kernel_rfl)) (by kernel_rfl)) (by kernel_rfl)) (by kernel_rfl)) (by kernel_rfl)) (by kernel_rfl)) (by kernel_rfl)) (by kernel_rfl)) (by kernel_rfl)) (by kernel_rfl)) (by kernel_rfl)) (by kernel_rfl)) (by kernel_rfl)) (by kernel_rfl)) (hn fun _ => rfl))
    (fun n ih => asc_cons (jour_Store_Keys_ok ok n) <| asc_cons (jour_Store_Get_ok ok n) <| asc_nil)
/-! ### pendulum/pendulumlaw4.JourFalls -/
abbrev law4_JourFalls_ins : Sh := ⟨[(.one (.val ty7)), (.one (.val ty9)), (.one (.val ty9))], []⟩
abbrev law4_JourFalls_outs : List Sh := [⟨[(.one (.val .bool))], []⟩]
abbrev law4_JourFalls_c15_h : Sh := ⟨[(.one (.val ty7)), (.one (.val ty9)), (.one (.val ty9)), (.one (.ptr 0 0)), (.one (.ptr 1 0)), (.one (.val ty8)), (.one (.val (.int .i64)))], [(.obj 68 [(.ptr 1 0), (.map 2), (.val (.int .i64)), (.val (.int .i64)), (.val (.int .i64))]), (.obj 61 [(.val (.int .i64)), (.map 3), (.map 4), (.val (.int .i64)), (.val (.int .i64)), (.val .bool)]), (.map .str .str false), (.map (.int .i64) ty2 false), (.map (.int .i64) ty2 false)]⟩
abbrev law4_JourFalls_c15_o : List Out := [⟨.normal, [0, 1, 2, 8, 9, 10, 11], ⟨[(.one (.val ty7)), (.one (.val ty9)), (.one (.val ty9)), (.one (.ptr 0 0)), (.one (.ptr 1 0)), (.one (.val ty8)), (.one (.val (.int .i64)))], [(.obj 68 [(.ptr 1 0), (.map 2), (.val (.int .i64)), (.val (.int .i64)), (.val (.int .i64))]), (.obj 61 [(.val (.int .i64)), (.map 3), (.map 4), (.val (.int .i64)), (.val (.int .i64)), (.val .bool)]), (.map .str .str false), (.map (.int .i64) ty2 false), (.map (.int .i64) ty2 false)]⟩⟩]
def law4_JourFalls_c15 (n : Nat) : law4_JourFalls_c15_h.T → Option (OutT law4_JourFalls_c15_o)
  | ((x1, x2, x3, _, _, x4, x5, _), ((_, _, x6, x7, x8, _), (x9, _, _, x10, x11, x12, _), m13, m14, m15, _)) =>
    if decide (x5 < (x2.length : Int)) then
      if 0 ≤ x5 ∧ x5 < (x2.length : Int) then (
        let v16 : Int := rdT ((.int .i64) : Ty) x2 x5
        match world_Number n ((v16, 24, ()), ()) with
        | some ((x17, _), _) => (
          match disk_Disk_Arm n (((), x17, ()), ((x9, (), (), x10, x11, x12, ()), m14, m15, ())) with
          | some ((_, _), ((x18, _, _, x19, x20, x21, _), m22, m23, _)) => (
            some (.inl ((x1, x2, x3, (), (), x4, x5, ()), (((), (), x6, x7, x8, ()), (x18, (), (), x19, x20, x21, ()), m13, m22, m23, ()))))
          | none => none)
        | none => none) else none
    else
      some (.inl ((x1, x2, x3, (), (), x4, x5, ()), (((), (), x6, x7, x8, ()), (x9, (), (), x10, x11, x12, ()), m13, m14, m15, ())))
abbrev law4_JourFalls_c26_h : Sh := ⟨[(.one (.val ty7)), (.one (.val ty9)), (.one (.val ty9)), (.one (.ptr 0 0)), (.one (.ptr 1 0)), (.one (.val ty8)), (.one (.val (.int .i64))), (.one (.val ty8)), (.one (.val .err))], [(.obj 68 [(.ptr 1 0), (.map 2), (.val (.int .i64)), (.val (.int .i64)), (.val (.int .i64))]), (.obj 61 [(.val (.int .i64)), (.map 3), (.map 4), (.val (.int .i64)), (.val (.int .i64)), (.val .bool)]), (.map .str .str false), (.map (.int .i64) ty2 false), (.map (.int .i64) ty2 false)]⟩
abbrev law4_JourFalls_c26_o : List Out := [⟨.normal, [0, 1, 2, 8, 9, 10, 11, 12, 13], ⟨[(.one (.val ty7)), (.one (.val ty9)), (.one (.val ty9)), (.one (.ptr 0 0)), (.one (.ptr 1 0)), (.one (.val ty8)), (.one (.val (.int .i64))), (.one (.val ty8)), (.one (.val .err))], [(.obj 68 [(.ptr 1 0), (.map 2), (.val (.int .i64)), (.val (.int .i64)), (.val (.int .i64))]), (.obj 61 [(.val (.int .i64)), (.map 3), (.map 4), (.val (.int .i64)), (.val (.int .i64)), (.val .bool)]), (.map .str .str false), (.map (.int .i64) ty2 false), (.map (.int .i64) ty2 false)]⟩⟩, ⟨.ret, [6], ⟨[(.one (.val .bool))], []⟩⟩]
def law4_JourFalls_c26 (n : Nat) : law4_JourFalls_c26_h.T → Option (OutT law4_JourFalls_c26_o)
  | ((x1, x2, x3, _, _, x4, x5, x6, x7, _), ((_, _, x8, x9, x10, _), (x11, _, _, x12, x13, x14, _), m15, m16, m17, _)) =>
    if 0 ≤ x5 ∧ x5 < (x1.length : Int) then (
      if (rdT ty3 x1 x5).1 == 1 then
        if 0 ≤ x5 ∧ x5 < (x1.length : Int) then (
          match law4_after n ((x4, (rdT ty3 x1 x5).2, ()), ()) with
          | some ((((x18, _), (x19, _), _), _), _) => (
            if 0 ≤ x5 ∧ x5 < (x1.length : Int) then (
              match jour_Store_Commit n (((), (rdT ty3 x1 x5).2, ()), (((), (), x8, x9, x10, ()), (x11, (), (), x12, x13, x14, ()), m15, m16, m17, ())) with
              | some (.inl ((x20, _), ((_, _, x21, x22, x23, _), (x24, _, _, x25, x26, x27, _), m28, m29, m30, _))) => (
                match disk_Disk_Down n (((), ()), ((x24, (), (), x25, x26, x27, ()), m29, m30, ())) with
                | some ((x43, _), ((x44, _, _, x45, x46, x47, _), m48, m49, _)) => (
                  if !x43 then
                    match pendulumsee_Is n ((x20, x19, ()), ()) with
                    | some ((x50, _), _) => (
                      if !x50 then
                        some (.inr (.inl ((false, ()), ())))
                      else
                        some (.inl ((x1, x2, x3, (), (), x4, x5, x18, x20, ()), (((), (), x21, x22, x23, ()), (x44, (), (), x45, x46, x47, ()), m28, m48, m49, ()))))
                    | none => none
                  else
                    some (.inl ((x1, x2, x3, (), (), x4, x5, x18, x20, ()), (((), (), x21, x22, x23, ()), (x44, (), (), x45, x46, x47, ()), m28, m48, m49, ()))))
                | none => none)
              | some (.inr (((x31, _), ((_, _, x32, x33, x34, _), (x35, _, _, x36, x37, x38, _), m39, m40, m41, m42, _)))) => (
                match disk_Disk_Down n (((), ()), ((x35, (), (), x36, x37, x38, ()), m40, m41, ())) with
                | some ((x51, _), ((x52, _, _, x53, x54, x55, _), m56, m57, _)) => (
                  if !x51 then
                    match pendulumsee_Is n ((x31, x19, ()), ()) with
                    | some ((x58, _), _) => (
                      if !x58 then
                        some (.inr (.inl ((false, ()), ())))
                      else
                        some (.inl ((x1, x2, x3, (), (), x4, x5, x18, x31, ()), (((), (), x32, x33, x34, ()), (x52, (), (), x53, x54, x55, ()), m42, m56, m57, ()))))
                    | none => none
                  else
                    some (.inl ((x1, x2, x3, (), (), x4, x5, x18, x31, ()), (((), (), x32, x33, x34, ()), (x52, (), (), x53, x54, x55, ()), m42, m56, m57, ()))))
                | none => none)
              | none => none) else none)
          | none => none) else none
      else
        if (rdT ty3 x1 x5).1 == 2 then
          match jour_Store_Compact n (((), ()), (((), (), x8, x9, x10, ()), (x11, (), (), x12, x13, x14, ()), m15, m16, m17, ())) with
          | some (.inl ((x59, _), ((_, _, x60, x61, x62, _), (x63, _, _, x64, x65, x66, _), m67, m68, m69, _))) => (
            some (.inl ((x1, x2, x3, (), (), x4, x5, x6, x59, ()), (((), (), x60, x61, x62, ()), (x63, (), (), x64, x65, x66, ()), m67, m68, m69, ()))))
          | some (.inr (((x70, _), ((_, _, x71, x72, x73, _), (x74, _, _, x75, x76, x77, _), m78, m79, m80, m81, _)))) => (
            some (.inl ((x1, x2, x3, (), (), x4, x5, x6, x70, ()), (((), (), x71, x72, x73, ()), (x74, (), (), x75, x76, x77, ()), m81, m79, m80, ()))))
          | none => none
        else
          some (.inl ((x1, x2, x3, (), (), x4, x5, x6, x7, ()), (((), (), x8, x9, x10, ()), (x11, (), (), x12, x13, x14, ()), m15, m16, m17, ())))) else none
abbrev law4_JourFalls_l11_h : Sh := ⟨[(.one (.val ty7)), (.one (.val ty9)), (.one (.val ty9)), (.one (.ptr 0 0)), (.one (.ptr 1 0)), (.one (.val ty8)), (.one (.val (.int .i64)))], [(.obj 68 [(.ptr 1 0), (.map 2), (.val (.int .i64)), (.val (.int .i64)), (.val (.int .i64))]), (.obj 61 [(.val (.int .i64)), (.map 3), (.map 4), (.val (.int .i64)), (.val (.int .i64)), (.val .bool)]), (.map .str .str false), (.map (.int .i64) ty2 false), (.map (.int .i64) ty2 false)]⟩
abbrev law4_JourFalls_l11_o : List Out := [⟨(.exit 0), [8, 10], ⟨[(.one (.ptr 0 0)), (.one (.val ty8))], [(.obj 68 [(.ptr 1 0), (.map 2), (.val (.int .i64)), (.val (.int .i64)), (.val (.int .i64))]), (.obj 61 [(.val (.int .i64)), (.map 3), (.map 4), (.val (.int .i64)), (.val (.int .i64)), (.val .bool)]), (.map .str .str false), (.map (.int .i64) ty2 false), (.map (.int .i64) ty2 false)]⟩⟩, ⟨.ret, [6], ⟨[(.one (.val .bool))], []⟩⟩]
def law4_JourFalls_l11 (n : Nat) : Nat → law4_JourFalls_l11_h.T → Option (OutT law4_JourFalls_l11_o)
  | 0, _ => none
  | k + 1, ((x1, x2, x3, _, _, x4, x5, _), ((_, _, x6, x7, x8, _), (x9, _, _, x10, x11, x12, _), m13, m14, m15, _)) =>
    if decide (x5 < (x1.length : Int)) then
      match law4_JourFalls_c15 n ((x1, x2, x3, (), (), x4, x5, ()), (((), (), x6, x7, x8, ()), (x9, (), (), x10, x11, x12, ()), m13, m14, m15, ())) with
      | some (.inl ((x16, x17, x18, _, _, x19, x20, _), ((_, _, x21, x22, x23, _), (x24, _, _, x25, x26, x27, _), m28, m29, m30, _))) => (
        match law4_JourFalls_c26 n ((x16, x17, x18, (), (), x19, x20, x19, ErrV.nil, ()), (((), (), x21, x22, x23, ()), (x24, (), (), x25, x26, x27, ()), m28, m29, m30, ())) with
        | some (.inl ((x31, x32, x33, _, _, x34, x35, x36, x37, _), ((_, _, x38, x39, x40, _), (x41, _, _, x42, x43, x44, _), m45, m46, m47, _))) => (
          match disk_Disk_Down n (((), ()), ((x41, (), (), x42, x43, x44, ()), m46, m47, ())) with
          | some ((x49, _), ((x50, _, _, x51, x52, x53, _), m54, m55, _)) => (
            if !x49 then
              match disk_Disk_Arm n (((), 0, ()), ((x50, (), (), x51, x52, x53, ()), m54, m55, ())) with
              | some ((_, _), ((x56, _, _, x57, x58, x59, _), m60, m61, _)) => (
                match law4_same n (((), x36, ()), (((), (), x38, x39, x40, ()), (x56, (), (), x57, x58, x59, ()), m45, m60, m61, ())) with
                | some ((x62, _), ((_, _, x63, x64, x65, _), (x66, _, _, x67, x68, x69, _), m70, m71, m72, _)) => (
                  if !x62 then
                    some (.inr (.inl ((false, ()), ())))
                  else
                    let v197 : Int := IntKind.i64.wrap (x35 + 1)
                    law4_JourFalls_l11 n k ((x31, x32, x33, (), (), x36, v197, ()), (((), (), x63, x64, x65, ()), (x66, (), (), x67, x68, x69, ()), m70, m71, m72, ())))
                | none => none)
              | none => none
            else
              match pendulumsee_Is n ((x37, 119, ()), ()) with
              | some ((x73, _), _) => (
                if !x73 then
                  some (.inr (.inl ((false, ()), ())))
                else
                  match disk_Disk_Crash n (((), x33, ()), ((x50, (), (), x51, x52, x53, ()), m54, m55, ())) with
                  | some ((_, _), ((x74, _, _, x75, x76, x77, _), m78, m79, _)) => (
                    let v80 : Int := IntKind.i64.wrap (1 + (Int.tmod x35 4))
                    match disk_Disk_Arm n (((), v80, ()), ((x74, (), (), x75, x76, x77, ()), m78, m79, ())) with
                    | some ((_, _), ((x81, _, _, x82, x83, x84, _), m85, m86, _)) => (
                      match jour_Open n (((), ()), ((x81, (), (), x82, x83, x84, ()), m85, m86, ())) with
                      | some (.inl ((((_, _), (x87, _), _), _), ((x88, _, _, x89, x90, x91, _), m92, m93, (_, _, x94, x95, x96, _), m97, _))) => (
                        match disk_Disk_Crash n (((), x33, ()), ((x88, (), (), x89, x90, x91, ()), m92, m93, ())) with
                        | some ((_, _), ((x105, _, _, x106, x107, x108, _), m109, m110, _)) => (
                          match jour_Open n (((), ()), ((x105, (), (), x106, x107, x108, ()), m109, m110, ())) with
                          | some (.inl ((((_, _), (x111, _), _), _), ((x112, _, _, x113, x114, x115, _), m116, m117, (_, _, x118, x119, x120, _), m121, _))) => (
                            if !(errNil x111) then
                              some (.inr (.inl ((false, ()), ())))
                            else
                              match law4_same n (((), x36, ()), (((), (), x118, x119, x120, ()), (x112, (), (), x113, x114, x115, ()), m121, m116, m117, ())) with
                              | some ((x129, _), ((_, _, x130, x131, x132, _), (x133, _, _, x134, x135, x136, _), m137, m138, m139, _)) => (
                                if x129 then
                                  let v198 : Int := IntKind.i64.wrap (x35 + 1)
                                  law4_JourFalls_l11 n k ((x31, x32, x33, (), (), x36, v198, ()), (((), (), x130, x131, x132, ()), (x133, (), (), x134, x135, x136, ()), m137, m138, m139, ()))
                                else
                                  match law4_same n (((), x34, ()), (((), (), x130, x131, x132, ()), (x133, (), (), x134, x135, x136, ()), m137, m138, m139, ())) with
                                  | some ((x140, _), ((_, _, x141, x142, x143, _), (x144, _, _, x145, x146, x147, _), m148, m149, m150, _)) => (
                                    if !x140 then
                                      some (.inr (.inl ((false, ()), ())))
                                    else
                                      let v199 : Int := IntKind.i64.wrap (x35 + 1)
                                      law4_JourFalls_l11 n k ((x31, x32, x33, (), (), x34, v199, ()), (((), (), x141, x142, x143, ()), (x144, (), (), x145, x146, x147, ()), m148, m149, m150, ())))
                                  | none => none)
                              | none => none)
                          | some (.inr (((((_, _), (x122, _), _), _), ((x123, _, _, x124, x125, x126, _), m127, m128, _)))) => (
                            some (.inr (.inl ((false, ()), ()))))
                          | none => none)
                        | none => none)
                      | some (.inr (((((_, _), (x98, _), _), _), ((x99, _, _, x100, x101, x102, _), m103, m104, _)))) => (
                        match disk_Disk_Crash n (((), x33, ()), ((x99, (), (), x100, x101, x102, ()), m103, m104, ())) with
                        | some ((_, _), ((x151, _, _, x152, x153, x154, _), m155, m156, _)) => (
                          match jour_Open n (((), ()), ((x151, (), (), x152, x153, x154, ()), m155, m156, ())) with
                          | some (.inl ((((_, _), (x157, _), _), _), ((x158, _, _, x159, x160, x161, _), m162, m163, (_, _, x164, x165, x166, _), m167, _))) => (
                            if !(errNil x157) then
                              some (.inr (.inl ((false, ()), ())))
                            else
                              match law4_same n (((), x36, ()), (((), (), x164, x165, x166, ()), (x158, (), (), x159, x160, x161, ()), m167, m162, m163, ())) with
                              | some ((x175, _), ((_, _, x176, x177, x178, _), (x179, _, _, x180, x181, x182, _), m183, m184, m185, _)) => (
                                if x175 then
                                  let v200 : Int := IntKind.i64.wrap (x35 + 1)
                                  law4_JourFalls_l11 n k ((x31, x32, x33, (), (), x36, v200, ()), (((), (), x176, x177, x178, ()), (x179, (), (), x180, x181, x182, ()), m183, m184, m185, ()))
                                else
                                  match law4_same n (((), x34, ()), (((), (), x176, x177, x178, ()), (x179, (), (), x180, x181, x182, ()), m183, m184, m185, ())) with
                                  | some ((x186, _), ((_, _, x187, x188, x189, _), (x190, _, _, x191, x192, x193, _), m194, m195, m196, _)) => (
                                    if !x186 then
                                      some (.inr (.inl ((false, ()), ())))
                                    else
                                      let v201 : Int := IntKind.i64.wrap (x35 + 1)
                                      law4_JourFalls_l11 n k ((x31, x32, x33, (), (), x34, v201, ()), (((), (), x187, x188, x189, ()), (x190, (), (), x191, x192, x193, ()), m194, m195, m196, ())))
                                  | none => none)
                              | none => none)
                          | some (.inr (((((_, _), (x168, _), _), _), ((x169, _, _, x170, x171, x172, _), m173, m174, _)))) => (
                            some (.inr (.inl ((false, ()), ()))))
                          | none => none)
                        | none => none)
                      | none => none)
                    | none => none)
                  | none => none)
              | none => none)
          | none => none)
        | some (.inr (.inl ((x48, _), _))) => (
          some (.inr (.inl ((x48, ()), ()))))
        | some (.inr (.inr (_))) => none
        | none => none)
      | some (.inr (_)) => none
      | none => none
    else
      some (.inl (((), x4, ()), (((), (), x6, x7, x8, ()), (x9, (), (), x10, x11, x12, ()), m13, m14, m15, ())))
def law4_JourFalls : Nat → law4_JourFalls_ins.T → Option (OutsT law4_JourFalls_outs)
  | 0, _ => none
  | n + 1, ((x1, x2, x3, _), _) =>
    match law4_first n ((), ()) with
    | some ((x4, _), _) => (
      if !x4 then
        some ((false, ()), ())
      else
        match law4_light n ((x1, 25, 400, ()), ()) with
        | some ((x5, _), _) => (
          if !x5 then
            some ((x4, ()), ())
          else
            if decide ((x2.length : Int) > 25) then
              some ((x4, ()), ())
            else
              if decide ((x3.length : Int) > 12) then
                some ((x4, ()), ())
              else
                if !x4 then
                  some ((x4, ()), ())
                else
                  match law4_opened n ((4096, ()), ()) with
                  | some (.inl ((((_, _), (_, _), _), _), ((_, _, x6, x7, x8, _), (x9, _, _, x10, x11, x12, _), m13, m14, m15, _))) => (
                    match law4_JourFalls_l11 n n ((x1, x2, x3, (), (), [], 0, ()), (((), (), x6, x7, x8, ()), (x9, (), (), x10, x11, x12, ()), m13, m14, m15, ())) with
                    | some (.inl ((_, x22, _), ((_, _, x23, x24, x25, _), (x26, _, _, x27, x28, x29, _), m30, m31, m32, _))) => (
                      match law4_same n (((), x22, ()), (((), (), x23, x24, x25, ()), (x26, (), (), x27, x28, x29, ()), m30, m31, m32, ())) with
                      | some ((x34, _), ((_, _, x35, x36, x37, _), (x38, _, _, x39, x40, x41, _), m42, m43, m44, _)) => (
                        some ((x34, ()), ()))
                      | none => none)
                    | some (.inr (.inl ((x33, _), _))) => (
                      some ((x33, ()), ()))
                    | some (.inr (.inr (_))) => none
                    | none => none)
                  | some (.inr (.inl ((((_, _), (_, _), _), _), ((x16, _, _, x17, x18, x19, _), m20, m21, _)))) => (
                    some ((false, ()), ()))
                  | some (.inr (.inr (((((_, _), (_, _), _), _), _)))) => (
                    some ((false, ()), ()))
                  | none => none)
        | none => none)
    | none => none
def law4_JourFalls_H (n : Nat) : Hints := ⟨[], fun _ => [], fun k => match k with | 11 => some ⟨[0, 1, 2, 8, 9, 10, 11], law4_JourFalls_l11_h, law4_JourFalls_l11_o, law4_JourFalls_l11 n⟩ | _ => none, fun k => match k with | 15 => some ⟨[0, 1, 2, 8, 9, 10, 11], law4_JourFalls_c15_h, law4_JourFalls_c15_o, fun n => law4_JourFalls_c15 n⟩ | 26 => some ⟨[0, 1, 2, 8, 9, 10, 11, 12, 13], law4_JourFalls_c26_h, law4_JourFalls_c26_o, fun n => law4_JourFalls_c26 n⟩ | _ => none, fun _ => none, fun _ => 0⟩
def law4_JourFalls_O (n : Nat) : FuncId → List FSpec := asc [(5, ⟨law4_first_ins, law4_first_outs, law4_first n⟩), (6, ⟨law4_light_ins, law4_light_outs, law4_light n⟩), (7, ⟨law4_opened_ins, law4_opened_outs, law4_opened n⟩), (8, ⟨disk_Disk_Arm_ins, disk_Disk_Arm_outs, disk_Disk_Arm n⟩), (9, ⟨world_Number_ins, world_Number_outs, world_Number n⟩), (10, ⟨law4_after_ins, law4_after_outs, law4_after n⟩), (11, ⟨jour_Store_Commit_ins, jour_Store_Commit_outs, jour_Store_Commit n⟩), (12, ⟨disk_Disk_Down_ins, disk_Disk_Down_outs, disk_Disk_Down n⟩), (13, ⟨pendulumsee_Is_ins, pendulumsee_Is_outs, pendulumsee_Is n⟩), (14, ⟨jour_Store_Compact_ins, jour_Store_Compact_outs, jour_Store_Compact n⟩), (15, ⟨law4_same_ins, law4_same_outs, law4_same n⟩), (16, ⟨disk_Disk_Crash_ins, disk_Disk_Crash_outs, disk_Disk_Crash n⟩), (17, ⟨jour_Open_ins, jour_Open_outs, jour_Open n⟩)]
def b3 : Code := bodyOf Tryz.f3
theorem law4_JourFalls_l11_k0 (n : Nat) : LoopOk P CC (law4_JourFalls_O n) n 0 150 (law4_JourFalls_H n) ⟨[0, 1, 2, 8, 9, 10, 11], law4_JourFalls_l11_h, law4_JourFalls_l11_o, law4_JourFalls_l11 n⟩ ((loopsOf b3).getD 0 .skip) := by
  refine ⟨fun _ => by kernel_rfl, ?_⟩
  rintro k ⟨⟨x1, x2, x3, ⟨⟩, ⟨⟩, x4, x5, ⟨⟩⟩, ⟨⟨⟨⟩, ⟨⟩, x6, x7, x8, ⟨⟩⟩, ⟨x9, ⟨⟩, ⟨⟩, x10, x11, x12, ⟨⟩⟩, x13, x14, x15, ⟨⟩⟩⟩
  kernel_rfl
theorem law4_JourFalls_c15_k18 (n : Nat) : CutOk P CC (law4_JourFalls_O n) n 0 150 (law4_JourFalls_H n) ⟨[0, 1, 2, 8, 9, 10, 11], law4_JourFalls_c15_h, law4_JourFalls_c15_o, fun n => law4_JourFalls_c15 n⟩ ((cutsOf b3).getD 18 (0, .skip)).2 := by
  rintro ⟨⟨x1, x2, x3, ⟨⟩, ⟨⟩, x4, x5, ⟨⟩⟩, ⟨⟨⟨⟩, ⟨⟩, x6, x7, x8, ⟨⟩⟩, ⟨x9, ⟨⟩, ⟨⟩, x10, x11, x12, ⟨⟩⟩, x13, x14, x15, ⟨⟩⟩⟩
  kernel_rfl
theorem law4_JourFalls_c26_k22 (n : Nat) : CutOk P CC (law4_JourFalls_O n) n 0 150 (law4_JourFalls_H n) ⟨[0, 1, 2, 8, 9, 10, 11, 12, 13], law4_JourFalls_c26_h, law4_JourFalls_c26_o, fun n => law4_JourFalls_c26 n⟩ ((cutsOf b3).getD 22 (0, .skip)).2 := by
  rintro ⟨⟨x1, x2, x3, ⟨⟩, ⟨⟩, x4, x5, x6, x7, ⟨⟩⟩, ⟨⟨⟨⟩, ⟨⟩, x8, x9, x10, ⟨⟩⟩, ⟨x11, ⟨⟩, ⟨⟩, x12, x13, x14, ⟨⟩⟩, x15, x16, x17, ⟨⟩⟩⟩
  kernel_rfl
theorem law4_JourFalls_ok {S : Nat → Addr} (ok : CfgOk P CC S) : ∀ n, SpecOk P CC S 3 ⟨law4_JourFalls_ins, law4_JourFalls_outs, law4_JourFalls n⟩ :=
  fn_all ok (O := law4_JourFalls_O) (H := law4_JourFalls_H) (fn := Tryz.f3) (body := b3) (by kernel_rfl) (by kernel_rfl) (by kernel_rfl) (by decide) (by kernel_rfl)
    (fun x => by kernel_rfl) (fun n => by
      rintro ⟨⟨x1, x2, x3, ⟨⟩⟩, ⟨⟩⟩
      kernel_rfl)
    (fun n => obl_of (by kernel_rfl) (by kernel_rfl) (ls (lz) (by kernel_rfl) (law4_JourFalls_l11_k0 n)) (cn (cn (cn (cn (cn (cn (cn (cn (cn (cn (cn (cn (cn (cn (cn (cn (cn (cn (cn (cn (cn (cn (cn (cn (cn (cn (cn (cn (cn (cn (cn (cs (cn (cn (cn (cs (cn (cn (cn (cn (cn (cn (cn (cn (cn (cn (cn (cn (cn (cn (cn (cn (cn (cn (cz) (by kernel_rfl)) (by kernel_rfl)) (by kernel_rfl)) (by kernel_rfl)) (by kernel_rfl)) (by kernel_rfl)) (by kernel_rfl)) (by kernel_rfl)) (by kernel_rfl)) (by kernel_rfl)) (by kernel_rfl)) (by kernel_rfl)) (by kernel_rfl)) (by kernel_rfl)) (by kernel_rfl)) (by kernel_rfl)) (by kernel_rfl)) (by kernel_rfl)) (by kernel_rfl) (law4_JourFalls_c15_k18 n)) (by kernel_rfl)) (by kernel_rfl)) (by kernel_rfl)) (by kernel_rfl) (law4_JourFalls_c26_k22 n)) (by kernel_rfl)) (by kernel_rfl)) (by kernel_rfl)) (by kernel_rfl)) (by kernel_rfl)) (by kernel_rfl)) (by kernel_rfl)) (by kernel_rfl)) (by kernel_rfl)) (by kernel_rfl)) (by kernel_rfl)) (by kernel_rfl)) (by kernel_rfl)) (by kernel_rfl)) (by kernel_rfl)) (by kernel_rfl)) (by kernel_rfl)) (by kernel_rfl)) (by kernel_rfl)) (by kernel_rfl)) (by kernel_rfl)) (by kernel_rfl)) (by kernel_rfl)) (by kernel_rfl)) (by kernel_rfl)) (by kernel_rfl)) (by kernel_rfl)) (by kernel_rfl)) (by kernel_rfl)) (by kernel_rfl)) (by kernel_rfl)) (hn fun _ => rfl))
    (fun n ih => asc_cons (law4_first_ok ok n) <| asc_cons (law4_light_ok ok n) <| asc_cons (law4_opened_ok ok n) <| asc_cons (disk_Disk_Arm_ok ok n) <| asc_cons (world_Number_ok ok n) <| asc_cons (law4_after_ok ok n) <| asc_cons (jour_Store_Commit_ok ok n) <| asc_cons (disk_Disk_Down_ok ok n) <| asc_cons (pendulumsee_Is_ok ok n) <| asc_cons (jour_Store_Compact_ok ok n) <| asc_cons (law4_same_ok ok n) <| asc_cons (disk_Disk_Crash_ok ok n) <| asc_cons (jour_Open_ok ok n) <| asc_nil)
end
end Go.Proofs.YthbbokndogjopaaGreatDoor.Cm

/- Printed by cmtext.py: the code as plain functions. -/
import Derived.Test.YtgpoomkbkckbaaaDoorCmFo
import Derived.Test.YtgpoomkbkckbaaaDoorShelf
import Derived.Test.YtgpoomkbkckbaaaDoorCmMp
import Derived.Test.YtgpoomkbkckbaaaDoorCmMq
namespace Go.Proofs.YtgpoomkbkckbaaaDoor.Cm
open Go
noncomputable section
set_option linter.unusedVariables false
set_option maxRecDepth 100000
abbrev P := Tryd.prog
abbrev CC : Cfg := ⟨119, 84, 88, [(101, 4), (102, 5), (103, 3), (104, 0), (105, 6), (106, 7), (107, 8), (108, 9), (109, 10), (110, 11), (111, 12), (112, 13), (113, 14), (114, 15), (115, 16), (116, 17), (117, 18), (118, 2), (119, 1), (120, 19), (121, 20)], []⟩
abbrev ty0 : Ty := (.slice 5 (.int .u8))
abbrev ty4 : Ty := (.slice 3 (.int .i64))
abbrev ty3 : Ty := (.pair ty0 ty4)
abbrev ty2 : Ty := (.pair (.int .i64) ty3)
abbrev ty1 : Ty := (.pair (.int .i64) ty2)
abbrev ty5 : Ty := (.pair (.int .i64) ty0)
abbrev ty6 : Ty := (.slice 77 ty5)
abbrev ty7 : Ty := (.slice 52 ty1)
/-! ### pendulum/disk.New -/
abbrev disk_New_ins : Sh := ⟨[(.one (.val (.int .i64)))], []⟩
abbrev disk_New_outs : List Sh := [⟨[(.tup [(false, [(.ptr 0 0)]), (false, [(.val .err)])])], [(.obj 63 [(.val (.int .i64)), (.map 1), (.map 2), (.val (.int .i64)), (.val (.int .i64)), (.val .bool)]), (.map (.int .i64) ty0 false), (.map (.int .i64) ty0 false)]⟩, ⟨[(.tup [(false, [.nilp]), (false, [(.val .err)])])], []⟩]
def disk_New : Nat → disk_New_ins.T → Option (OutsT disk_New_outs)
  | 0, _ => none
  | n + 1, ((x1, _), _) =>
    if decide (x1 < 1) then
      some (.inr ((((((), ()), (ErrV.sent 104, ()), ()), ()), ())))
    else
      if decide (x1 > 16384) then
        some (.inr ((((((), ()), (ErrV.sent 104, ()), ()), ()), ())))
      else
        some (.inl (((((), ()), (ErrV.nil, ()), ()), ()), ((x1, (), (), 0, 0, false, ()), [], [], ())))
def disk_New_H (n : Nat) : Hints := ⟨[], fun _ => [], fun _ => none, fun _ => none⟩
def disk_New_O (n : Nat) : FuncId → List FSpec := asc []
def b11 : Code := bodyOf Tryd.f11
theorem disk_New_ok {S : Nat → Addr} (ok : CfgOk P CC S) : ∀ n, SpecOk P CC S 11 ⟨disk_New_ins, disk_New_outs, disk_New n⟩ :=
  fn_all ok (O := disk_New_O) (H := disk_New_H) (fn := Tryd.f11) (body := b11) (by kernel_rfl) (by kernel_rfl) (by kernel_rfl) (by decide) (by kernel_rfl)
    (fun x => by kernel_rfl) (fun n => by
      rintro ⟨⟨x1, ⟨⟩⟩, ⟨⟩⟩
      kernel_rfl)
    (fun n => obl_of (by kernel_rfl) (by kernel_rfl) (lz) (cn (cn (cn (cn (cn (cz) (by kernel_rfl)) (by kernel_rfl)) (by kernel_rfl)) (by kernel_rfl)) (by kernel_rfl)))
    (fun n ih => asc_nil)
/-! ### (*pendulum/disk.Disk).up -/
abbrev disk_Disk_up_ins : Sh := ⟨[(.one (.ptr 0 0))], [(.obj 63 [(.val (.int .i64)), (.map 1), (.map 2), (.val (.int .i64)), (.val (.int .i64)), (.val .bool)]), (.map (.int .i64) ty0 false), (.map (.int .i64) ty0 false)]⟩
abbrev disk_Disk_up_outs : List Sh := [⟨[(.one (.val .bool))], [(.obj 63 [(.val (.int .i64)), (.map 1), (.map 2), (.val (.int .i64)), (.val (.int .i64)), (.val .bool)]), (.map (.int .i64) ty0 false), (.map (.int .i64) ty0 false)]⟩]
abbrev disk_Disk_up_c4_h : Sh := ⟨[(.one (.ptr 0 0))], [(.obj 63 [(.val (.int .i64)), (.map 1), (.map 2), (.val (.int .i64)), (.val (.int .i64)), (.val .bool)]), (.map (.int .i64) ty0 false), (.map (.int .i64) ty0 false)]⟩
abbrev disk_Disk_up_c4_o : List Out := [⟨.normal, [0], ⟨[(.one (.ptr 0 0))], [(.obj 63 [(.val (.int .i64)), (.map 1), (.map 2), (.val (.int .i64)), (.val (.int .i64)), (.val .bool)]), (.map (.int .i64) ty0 false), (.map (.int .i64) ty0 false)]⟩⟩]
def disk_Disk_up_c4 (n : Nat) : disk_Disk_up_c4_h.T → Option (OutT disk_Disk_up_c4_o)
  | ((_, _), ((x1, _, _, x2, x3, x4, _), m5, m6, _)) =>
    if !x4 then
      if decide (x3 > 0) then
        let v7 : Int := IntKind.i64.wrap (x3 - 1)
        some (.inl (((), ()), ((x1, (), (), x2, v7, v7 == 0, ()), m5, m6, ())))
      else
        some (.inl (((), ()), ((x1, (), (), x2, x3, x4, ()), m5, m6, ())))
    else
      some (.inl (((), ()), ((x1, (), (), x2, x3, x4, ()), m5, m6, ())))
def disk_Disk_up : Nat → disk_Disk_up_ins.T → Option (OutsT disk_Disk_up_outs)
  | 0, _ => none
  | n + 1, ((_, _), ((x1, _, _, x2, x3, x4, _), m5, m6, _)) =>
    match disk_Disk_up_c4 n (((), ()), ((x1, (), (), x2, x3, x4, ()), m5, m6, ())) with
    | some (.inl ((_, _), ((x7, _, _, x8, x9, x10, _), m11, m12, _))) => (
      some ((!x10, ()), ((x7, (), (), x8, x9, x10, ()), m11, m12, ())))
    | some (.inr (_)) => none
    | none => none
def disk_Disk_up_H (n : Nat) : Hints := ⟨[], fun _ => [], fun _ => none, fun k => match k with | 4 => some ⟨[0], disk_Disk_up_c4_h, disk_Disk_up_c4_o, fun n => disk_Disk_up_c4 n⟩ | _ => none⟩
def disk_Disk_up_O (n : Nat) : FuncId → List FSpec := asc []
def b33 : Code := bodyOf Tryd.f33
theorem disk_Disk_up_c4_k1 (n : Nat) : CutOk P CC (disk_Disk_up_O n) n 3 35 (disk_Disk_up_H n) ⟨[0], disk_Disk_up_c4_h, disk_Disk_up_c4_o, fun n => disk_Disk_up_c4 n⟩ ((cutsOf b33).getD 1 (0, .skip)).2 := by
  rintro ⟨⟨⟨⟩, ⟨⟩⟩, ⟨⟨x1, ⟨⟩, ⟨⟩, x2, x3, x4, ⟨⟩⟩, x5, x6, ⟨⟩⟩⟩
  kernel_rfl
theorem disk_Disk_up_ok {S : Nat → Addr} (ok : CfgOk P CC S) : ∀ n, SpecOk P CC S 33 ⟨disk_Disk_up_ins, disk_Disk_up_outs, disk_Disk_up n⟩ :=
  fn_all ok (O := disk_Disk_up_O) (H := disk_Disk_up_H) (fn := Tryd.f33) (body := b33) (by kernel_rfl) (by kernel_rfl) (by kernel_rfl) (by decide) (by kernel_rfl)
    (fun x => by kernel_rfl) (fun n => by
      rintro ⟨⟨⟨⟩, ⟨⟩⟩, ⟨⟨x1, ⟨⟩, ⟨⟩, x2, x3, x4, ⟨⟩⟩, x5, x6, ⟨⟩⟩⟩
      kernel_rfl)
    (fun n => obl_of (by kernel_rfl) (by kernel_rfl) (lz) (cn (cn (cn (cs (cn (cz) (by kernel_rfl)) (by kernel_rfl) (disk_Disk_up_c4_k1 n)) (by kernel_rfl)) (by kernel_rfl)) (by kernel_rfl)))
    (fun n ih => asc_nil)
/-! ### slices.Clone[[]byte,byte] -/
abbrev slices_Clone_byte_byte_raw_ins : Sh := ⟨[(.one (.val ty0))], []⟩
abbrev slices_Clone_byte_byte_raw_outs : List Sh := [⟨[(.one (.arr 0))], [(.arr 5 (.int .u8))]⟩]
def slices_Clone_byte_byte_raw : Nat → slices_Clone_byte_byte_raw_ins.T → Option (OutsT slices_Clone_byte_byte_raw_outs)
  | 0, _ => none
  | n + 1, ((x1, _), _) =>
    if (x1.isEmpty || (Ty.size ((.int .u8) : Ty) == 0)) = true then
      both fun b2 =>
        if b2 then
          some (((), ()), ([], ()))
        else
          if (([] : List ((.int .u8) : Ty).T).length + x1.length) * 1 ≤ 140737488355328 then (
            some (((), ()), ([] ++ x1, ()))) else none
    else
      if (([] : List ((.int .u8) : Ty).T).length + x1.length) * 1 ≤ 140737488355328 then (
        some (((), ()), ([] ++ x1, ()))) else none
def slices_Clone_byte_byte_raw_H (n : Nat) : Hints := ⟨[], fun _ => [], fun _ => none, fun _ => none⟩
def slices_Clone_byte_byte_raw_O (n : Nat) : FuncId → List FSpec := asc []
def b34 : Code := bodyOf Tryd.f34
theorem slices_Clone_byte_byte_raw_ok {S : Nat → Addr} (ok : CfgOk P CC S) : ∀ n, SpecOk P CC S 34 ⟨slices_Clone_byte_byte_raw_ins, slices_Clone_byte_byte_raw_outs, slices_Clone_byte_byte_raw n⟩ :=
  fn_all ok (O := slices_Clone_byte_byte_raw_O) (H := slices_Clone_byte_byte_raw_H) (fn := Tryd.f34) (body := b34) (by kernel_rfl) (by kernel_rfl) (by kernel_rfl) (by decide) (by kernel_rfl)
    (fun x => by kernel_rfl) (fun n => by
      rintro ⟨⟨x1, ⟨⟩⟩, ⟨⟩⟩
      kernel_rfl)
    (fun n => obl_of (by kernel_rfl) (by kernel_rfl) (lz) (cn (cn (cn (cn (cn (cz) (by kernel_rfl)) (by kernel_rfl)) (by kernel_rfl)) (by kernel_rfl)) (by kernel_rfl)))
    (fun n ih => asc_nil)
abbrev slices_Clone_byte_byte_ins : Sh := slices_Clone_byte_byte_raw_ins
abbrev slices_Clone_byte_byte_outs : List Sh := slices_Clone_byte_byte_raw_outs
def slices_Clone_byte_byte : Nat → slices_Clone_byte_byte_ins.T → Option (OutsT slices_Clone_byte_byte_outs)
  | 0, _ => none
  | n + 1, ((x1, _), _) => if (([] : List ((.int .u8) : Ty).T).length + x1.length) * 1 ≤ 140737488355328 then (some (((), ()), (x1, ()))) else none
theorem slices_Clone_byte_byte_ok {S : Nat → Addr} (ok : CfgOk P CC S) : ∀ n, SpecOk P CC S 34 ⟨slices_Clone_byte_byte_ins, slices_Clone_byte_byte_outs, slices_Clone_byte_byte n⟩ := fun n => (slices_Clone_byte_byte_raw_ok ok n).weaken fun x y h => by
  cases n with
  | zero => cases h
  | succ n =>
    obtain ⟨⟨x1, ⟨⟩⟩, ⟨⟩⟩ := x
    simp only [slices_Clone_byte_byte] at h
    split at h
    · rename_i hc
      cases h
      simp only [slices_Clone_byte_byte_raw]
      split
      · rename_i he
        have h0 : x1 = [] := by simpa [Ty.size] using he
        subst h0
        exact both_same rfl rfl
      · first | rfl | (rw [if_pos hc]; rfl)
    · cases h
/-! ### (*pendulum/disk.Disk).Write -/
abbrev disk_Disk_Write_ins : Sh := ⟨[(.one (.ptr 0 0)), (.one (.val (.int .i64))), (.one (.arr 1))], [(.obj 63 [(.val (.int .i64)), (.map 2), (.map 3), (.val (.int .i64)), (.val (.int .i64)), (.val .bool)]), (.arr 5 (.int .u8)), (.map (.int .i64) ty0 false), (.map (.int .i64) ty0 false)]⟩
abbrev disk_Disk_Write_outs : List Sh := [⟨[(.one (.val .err))], [(.obj 63 [(.val (.int .i64)), (.map 2), (.map 3), (.val (.int .i64)), (.val (.int .i64)), (.val .bool)]), .dead, (.map (.int .i64) ty0 false), (.map (.int .i64) ty0 false)]⟩]
def disk_Disk_Write : Nat → disk_Disk_Write_ins.T → Option (OutsT disk_Disk_Write_outs)
  | 0, _ => none
  | n + 1, ((_, x1, _, _), ((x2, _, _, x3, x4, x5, _), l6, m7, m8, _)) =>
    match disk_Disk_up n (((), ()), ((x2, (), (), x3, x4, x5, ()), m7, m8, ())) with
    | some ((x9, _), ((x10, _, _, x11, x12, x13, _), m14, m15, _)) => (
      if !x9 then
        some ((ErrV.sent 119, ()), ((x10, (), (), x11, x12, x13, ()), (), m14, m15, ()))
      else
        if decide (x1 < 0) then
          some ((ErrV.sent 118, ()), ((x10, (), (), x11, x12, x13, ()), (), m14, m15, ()))
        else
          if decide (x1 ≥ x10) then
            some ((ErrV.sent 118, ()), ((x10, (), (), x11, x12, x13, ()), (), m14, m15, ()))
          else
            if decide ((l6.length : Int) > 128) then
              some ((ErrV.sent 103, ()), ((x10, (), (), x11, x12, x13, ()), (), m14, m15, ()))
            else
              match slices_Clone_byte_byte n ((l6, ()), ()) with
              | some ((_, _), (l16, _)) => (
                let v17 : Int := IntKind.i64.wrap (x11 + 1)
                some ((ErrV.nil, ()), ((x10, (), (), v17, x12, x13, ()), (), m14, mset (keyEq ((.int .i64) : Ty)) x1 l16 m15, ())))
              | none => none)
    | none => none
def disk_Disk_Write_H (n : Nat) : Hints := ⟨[], fun _ => [], fun _ => none, fun _ => none⟩
def disk_Disk_Write_O (n : Nat) : FuncId → List FSpec := asc [(33, ⟨disk_Disk_up_ins, disk_Disk_up_outs, disk_Disk_up n⟩), (34, ⟨slices_Clone_byte_byte_ins, slices_Clone_byte_byte_outs, slices_Clone_byte_byte n⟩)]
def b14 : Code := bodyOf Tryd.f14
theorem disk_Disk_Write_ok {S : Nat → Addr} (ok : CfgOk P CC S) : ∀ n, SpecOk P CC S 14 ⟨disk_Disk_Write_ins, disk_Disk_Write_outs, disk_Disk_Write n⟩ :=
  fn_all ok (O := disk_Disk_Write_O) (H := disk_Disk_Write_H) (fn := Tryd.f14) (body := b14) (by kernel_rfl) (by kernel_rfl) (by kernel_rfl) (by decide) (by kernel_rfl)
    (fun x => by kernel_rfl) (fun n => by
      rintro ⟨⟨⟨⟩, x1, ⟨⟩, ⟨⟩⟩, ⟨⟨x2, ⟨⟩, ⟨⟩, x3, x4, x5, ⟨⟩⟩, x6, x7, x8, ⟨⟩⟩⟩
      kernel_rfl)
    (fun n => obl_of (by kernel_rfl) (by kernel_rfl) (lz) (cn (cn (cn (cn (cn (cn (cn (cn (cn (cn (cn (cz) (by kernel_rfl)) (by kernel_rfl)) (by kernel_rfl)) (by kernel_rfl)) (by kernel_rfl)) (by kernel_rfl)) (by kernel_rfl)) (by kernel_rfl)) (by kernel_rfl)) (by kernel_rfl)) (by kernel_rfl)))
    (fun n ih => asc_cons (disk_Disk_up_ok ok n) <| asc_cons (slices_Clone_byte_byte_ok ok n) <| asc_nil)
/-! ### maps.Keys[map[int][]byte,int,[]byte] -/
abbrev maps_Keys_map_int_byte_int_byte_ins : Sh := ⟨[(.one (.map 0))], [(.map (.int .i64) ty0 false)]⟩
abbrev maps_Keys_map_int_byte_int_byte_outs : List Sh := [⟨[(.one (.fn 46 [1]))], [(.map (.int .i64) ty0 false), (.obj 61 [(.map 0)])]⟩]
def maps_Keys_map_int_byte_int_byte : Nat → maps_Keys_map_int_byte_int_byte_ins.T → Option (OutsT maps_Keys_map_int_byte_int_byte_outs)
  | 0, _ => none
  | n + 1, ((_, _), (m1, _)) =>
    some (((), ()), (m1, ((), ()), ()))
def maps_Keys_map_int_byte_int_byte_H (n : Nat) : Hints := ⟨[], fun _ => [], fun _ => none, fun _ => none⟩
def maps_Keys_map_int_byte_int_byte_O (n : Nat) : FuncId → List FSpec := asc []
def b37 : Code := bodyOf Tryd.f37
theorem maps_Keys_map_int_byte_int_byte_ok {S : Nat → Addr} (ok : CfgOk P CC S) : ∀ n, SpecOk P CC S 37 ⟨maps_Keys_map_int_byte_int_byte_ins, maps_Keys_map_int_byte_int_byte_outs, maps_Keys_map_int_byte_int_byte n⟩ :=
  fn_all ok (O := maps_Keys_map_int_byte_int_byte_O) (H := maps_Keys_map_int_byte_int_byte_H) (fn := Tryd.f37) (body := b37) (by kernel_rfl) (by kernel_rfl) (by kernel_rfl) (by decide) (by kernel_rfl)
    (fun x => by kernel_rfl) (fun n => by
      rintro ⟨⟨⟨⟩, ⟨⟩⟩, ⟨x1, ⟨⟩⟩⟩
      kernel_rfl)
    (fun n => obl_of (by kernel_rfl) (by kernel_rfl) (lz) (cn (cn (cz) (by kernel_rfl)) (by kernel_rfl)))
    (fun n ih => asc_nil)
/-! ### slices.Sorted[int] (by hand) -/
abbrev slices_Sorted_int_ins : Sh := ⟨[(.one (.fn 46 [0]))], [(.obj 61 [(.map 1)]), (.map (.int .i64) ty0 false)]⟩
abbrev slices_Sorted_int_outs : List Sh := [⟨[(.one (.arr 2))], [(.obj 61 [(.map 1)]), (.map (.int .i64) ty0 false), (.arr 3 (.int .i64))]⟩]
def slices_Sorted_int : Nat → slices_Sorted_int_ins.T → Option (OutsT slices_Sorted_int_outs) := fun _ => sortedSem 61 3 ty0 false 46
theorem slices_Sorted_int_ok {S : Nat → Addr} (ok : CfgOk P CC S) : ∀ n, SpecOk P CC S 36 ⟨slices_Sorted_int_ins, slices_Sorted_int_outs, slices_Sorted_int n⟩ := fun n => sorted_spec (ty := 3) ⟨Tryd.f36, by kernel_rfl, by kernel_rfl, by kernel_rfl⟩ (by kernel_rfl) Sq.sorted_calls
/-! ### (*pendulum/disk.Disk).Crash -/
abbrev disk_Disk_Crash_ins : Sh := ⟨[(.one (.ptr 0 0)), (.one (.arr 1))], [(.obj 63 [(.val (.int .i64)), (.map 2), (.map 3), (.val (.int .i64)), (.val (.int .i64)), (.val .bool)]), (.arr 3 (.int .i64)), (.map (.int .i64) ty0 false), (.map (.int .i64) ty0 false)]⟩
abbrev disk_Disk_Crash_outs : List Sh := [⟨[(.tup [])], [(.obj 63 [(.val (.int .i64)), (.map 2), (.map 3), (.val (.int .i64)), (.val (.int .i64)), (.val .bool)]), (.arr 3 (.int .i64)), (.map (.int .i64) ty0 false), (.map (.int .i64) ty0 false)]⟩]
abbrev disk_Disk_Crash_l1_h : Sh := ⟨[(.one (.ptr 0 0)), (.one (.arr 1)), (.one (.arr 4)), (.one (.val (.int .i64))), (.one (.val (.int .i64)))], [(.obj 63 [(.val (.int .i64)), (.map 2), (.map 3), (.val (.int .i64)), (.val (.int .i64)), (.val .bool)]), (.arr 3 (.int .i64)), (.map (.int .i64) ty0 false), (.map (.int .i64) ty0 false), (.arr 3 (.int .i64))]⟩
abbrev disk_Disk_Crash_l1_o : List Out := [⟨(.exit 0), [0], ⟨[(.one (.ptr 0 0))], [(.obj 63 [(.val (.int .i64)), (.map 2), (.map 3), (.val (.int .i64)), (.val (.int .i64)), (.val .bool)]), (.arr 3 (.int .i64)), (.map (.int .i64) ty0 false), (.map (.int .i64) ty0 false)]⟩⟩]
def disk_Disk_Crash_l1 (n : Nat) : Nat → disk_Disk_Crash_l1_h.T → Option (OutT disk_Disk_Crash_l1_o)
  | 0, _ => none
  | k + 1, ((_, _, _, x1, x2, _), ((x3, _, _, x4, x5, x6, _), l7, m8, m9, l10, _)) =>
    if decide (x2 < x1) then
      if 0 ≤ x2 ∧ x2 < (l10.length : Int) then (
        let v11 : Int := rdT ((.int .i64) : Ty) l10 x2
        if decide (x2 < (l7.length : Int)) then
          if 0 ≤ x2 ∧ x2 < (l7.length : Int) then (
            let v12 : Int := rdT ((.int .i64) : Ty) l7 x2
            if bitsOp .and .i64 v12 1 == 1 then
              let v13 : List Int := (mfind (keyEq ((.int .i64) : Ty)) v11 m9).getD []
              let v14 : Int := IntKind.i64.wrap (x2 + 1)
              disk_Disk_Crash_l1 n k (((), (), (), x1, v14, ()), ((x3, (), (), x4, x5, x6, ()), l7, mset (keyEq ((.int .i64) : Ty)) v11 v13 m8, m9, l10, ()))
            else
              let v15 : Int := IntKind.i64.wrap (x2 + 1)
              disk_Disk_Crash_l1 n k (((), (), (), x1, v15, ()), ((x3, (), (), x4, x5, x6, ()), l7, m8, m9, l10, ()))) else none
        else
          let v16 : Int := IntKind.i64.wrap (x2 + 1)
          disk_Disk_Crash_l1 n k (((), (), (), x1, v16, ()), ((x3, (), (), x4, x5, x6, ()), l7, m8, m9, l10, ()))) else none
    else
      some (.inl (((), ()), ((x3, (), (), x4, x5, x6, ()), l7, m8, m9, ())))
def disk_Disk_Crash : Nat → disk_Disk_Crash_ins.T → Option (OutsT disk_Disk_Crash_outs)
  | 0, _ => none
  | n + 1, ((_, _, _), ((x1, _, _, x2, x3, x4, _), l5, m6, m7, _)) =>
    match maps_Keys_map_int_byte_int_byte n (((), ()), (m7, ())) with
    | some ((_, _), (m8, (_, _), _)) => (
      match slices_Sorted_int n (((), ()), (((), ()), m8, ())) with
      | some ((_, _), ((_, _), m9, l10, _)) => (
        match disk_Disk_Crash_l1 n n (((), (), (), (l10.length : Int), 0, ()), ((x1, (), (), x2, x3, x4, ()), l5, m6, m9, l10, ())) with
        | some (.inl ((_, _), ((x11, _, _, x12, x13, x14, _), l15, m16, m17, _))) => (
          some (((), ()), ((x11, (), (), x12, 0, false, ()), l15, m16, [], ())))
        | some (.inr (_)) => none
        | none => none)
      | none => none)
    | none => none
def disk_Disk_Crash_H (n : Nat) : Hints := ⟨[], fun _ => [], fun k => match k with | 1 => some ⟨[0, 1, 11, 12, 13], disk_Disk_Crash_l1_h, disk_Disk_Crash_l1_o, disk_Disk_Crash_l1 n⟩ | _ => none, fun _ => none⟩
def disk_Disk_Crash_O (n : Nat) : FuncId → List FSpec := asc [(36, ⟨slices_Sorted_int_ins, slices_Sorted_int_outs, slices_Sorted_int n⟩), (37, ⟨maps_Keys_map_int_byte_int_byte_ins, maps_Keys_map_int_byte_int_byte_outs, maps_Keys_map_int_byte_int_byte n⟩)]
def b19 : Code := bodyOf Tryd.f19
theorem disk_Disk_Crash_l1_k0 (n : Nat) : LoopOk P CC (disk_Disk_Crash_O n) n 4 52 (disk_Disk_Crash_H n) ⟨[0, 1, 11, 12, 13], disk_Disk_Crash_l1_h, disk_Disk_Crash_l1_o, disk_Disk_Crash_l1 n⟩ ((loopsOf b19).getD 0 .skip) := by
  refine ⟨fun _ => by kernel_rfl, ?_⟩
  rintro k ⟨⟨⟨⟩, ⟨⟩, ⟨⟩, x1, x2, ⟨⟩⟩, ⟨⟨x3, ⟨⟩, ⟨⟩, x4, x5, x6, ⟨⟩⟩, x7, x8, x9, x10, ⟨⟩⟩⟩
  kernel_rfl
theorem disk_Disk_Crash_ok {S : Nat → Addr} (ok : CfgOk P CC S) : ∀ n, SpecOk P CC S 19 ⟨disk_Disk_Crash_ins, disk_Disk_Crash_outs, disk_Disk_Crash n⟩ :=
  fn_all ok (O := disk_Disk_Crash_O) (H := disk_Disk_Crash_H) (fn := Tryd.f19) (body := b19) (by kernel_rfl) (by kernel_rfl) (by kernel_rfl) (by decide) (by kernel_rfl)
    (fun x => by kernel_rfl) (fun n => by
      rintro ⟨⟨⟨⟩, ⟨⟩, ⟨⟩⟩, ⟨⟨x1, ⟨⟩, ⟨⟩, x2, x3, x4, ⟨⟩⟩, x5, x6, x7, ⟨⟩⟩⟩
      kernel_rfl)
    (fun n => obl_of (by kernel_rfl) (by kernel_rfl) (ls (lz) (by kernel_rfl) (disk_Disk_Crash_l1_k0 n)) (cn (cn (cn (cn (cn (cn (cn (cn (cz) (by kernel_rfl)) (by kernel_rfl)) (by kernel_rfl)) (by kernel_rfl)) (by kernel_rfl)) (by kernel_rfl)) (by kernel_rfl)) (by kernel_rfl)))
    (fun n ih => asc_cons (slices_Sorted_int_ok ok n) <| asc_cons (maps_Keys_map_int_byte_int_byte_ok ok n) <| asc_nil)
/-! ### (*pendulum/disk.Disk).Read -/
abbrev disk_Disk_Read_ins : Sh := ⟨[(.one (.ptr 0 0)), (.one (.val (.int .i64)))], [(.obj 63 [(.val (.int .i64)), (.map 1), (.map 2), (.val (.int .i64)), (.val (.int .i64)), (.val .bool)]), (.map (.int .i64) ty0 false), (.map (.int .i64) ty0 false)]⟩
abbrev disk_Disk_Read_outs : List Sh := [⟨[(.tup [(false, [(.arr 3)]), (false, [(.val .bool)]), (false, [(.val .err)])])], [(.obj 63 [(.val (.int .i64)), (.map 1), (.map 2), (.val (.int .i64)), (.val (.int .i64)), (.val .bool)]), (.map (.int .i64) ty0 false), (.map (.int .i64) ty0 false), (.arr 5 (.int .u8))]⟩]
abbrev disk_Disk_Read_c8_h : Sh := ⟨[(.one (.ptr 0 0)), (.one (.val (.int .i64))), (.one (.val ty0)), (.one (.val .bool))], [(.obj 63 [(.val (.int .i64)), (.map 1), (.map 2), (.val (.int .i64)), (.val (.int .i64)), (.val .bool)]), (.map (.int .i64) ty0 false), (.map (.int .i64) ty0 false)]⟩
abbrev disk_Disk_Read_c8_o : List Out := [⟨.normal, [7, 8], ⟨[(.one (.val ty0)), (.one (.val .bool))], [(.obj 63 [(.val (.int .i64)), (.map 1), (.map 2), (.val (.int .i64)), (.val (.int .i64)), (.val .bool)]), (.map (.int .i64) ty0 false), (.map (.int .i64) ty0 false)]⟩⟩]
def disk_Disk_Read_c8 (n : Nat) : disk_Disk_Read_c8_h.T → Option (OutT disk_Disk_Read_c8_o)
  | ((_, x1, x2, x3, _), ((x4, _, _, x5, x6, x7, _), m8, m9, _)) =>
    if !x3 then
      let v10 : List Int := (mfind (keyEq ((.int .i64) : Ty)) x1 m8).getD []
      some (.inl ((v10, (mfind (keyEq ((.int .i64) : Ty)) x1 m8).isSome, ()), ((x4, (), (), x5, x6, x7, ()), m8, m9, ())))
    else
      some (.inl ((x2, x3, ()), ((x4, (), (), x5, x6, x7, ()), m8, m9, ())))
def disk_Disk_Read : Nat → disk_Disk_Read_ins.T → Option (OutsT disk_Disk_Read_outs)
  | 0, _ => none
  | n + 1, ((_, x1, _), ((x2, _, _, x3, x4, x5, _), m6, m7, _)) =>
    if x5 then
      some (((((), ()), (false, ()), (ErrV.sent 119, ()), ()), ()), ((x2, (), (), x3, x4, x5, ()), m6, m7, [], ()))
    else
      if decide (x1 < 0) then
        some (((((), ()), (false, ()), (ErrV.sent 118, ()), ()), ()), ((x2, (), (), x3, x4, x5, ()), m6, m7, [], ()))
      else
        if decide (x1 ≥ x2) then
          some (((((), ()), (false, ()), (ErrV.sent 118, ()), ()), ()), ((x2, (), (), x3, x4, x5, ()), m6, m7, [], ()))
        else
          let v8 : List Int := (mfind (keyEq ((.int .i64) : Ty)) x1 m7).getD []
          match disk_Disk_Read_c8 n (((), x1, v8, (mfind (keyEq ((.int .i64) : Ty)) x1 m7).isSome, ()), ((x2, (), (), x3, x4, x5, ()), m6, m7, ())) with
          | some (.inl ((x9, x10, _), ((x11, _, _, x12, x13, x14, _), m15, m16, _))) => (
            match slices_Clone_byte_byte n ((x9, ()), ()) with
            | some ((_, _), (l17, _)) => (
              some (((((), ()), (x10, ()), (ErrV.nil, ()), ()), ()), ((x11, (), (), x12, x13, x14, ()), m15, m16, l17, ())))
            | none => none)
          | some (.inr (_)) => none
          | none => none
def disk_Disk_Read_H (n : Nat) : Hints := ⟨[], fun _ => [], fun _ => none, fun k => match k with | 8 => some ⟨[0, 1, 7, 8], disk_Disk_Read_c8_h, disk_Disk_Read_c8_o, fun n => disk_Disk_Read_c8 n⟩ | _ => none⟩
def disk_Disk_Read_O (n : Nat) : FuncId → List FSpec := asc [(34, ⟨slices_Clone_byte_byte_ins, slices_Clone_byte_byte_outs, slices_Clone_byte_byte n⟩)]
def b15 : Code := bodyOf Tryd.f15
theorem disk_Disk_Read_c8_k8 (n : Nat) : CutOk P CC (disk_Disk_Read_O n) n 3 48 (disk_Disk_Read_H n) ⟨[0, 1, 7, 8], disk_Disk_Read_c8_h, disk_Disk_Read_c8_o, fun n => disk_Disk_Read_c8 n⟩ ((cutsOf b15).getD 8 (0, .skip)).2 := by
  rintro ⟨⟨⟨⟩, x1, x2, x3, ⟨⟩⟩, ⟨⟨x4, ⟨⟩, ⟨⟩, x5, x6, x7, ⟨⟩⟩, x8, x9, ⟨⟩⟩⟩
  kernel_rfl
theorem disk_Disk_Read_ok {S : Nat → Addr} (ok : CfgOk P CC S) : ∀ n, SpecOk P CC S 15 ⟨disk_Disk_Read_ins, disk_Disk_Read_outs, disk_Disk_Read n⟩ :=
  fn_all ok (O := disk_Disk_Read_O) (H := disk_Disk_Read_H) (fn := Tryd.f15) (body := b15) (by kernel_rfl) (by kernel_rfl) (by kernel_rfl) (by decide) (by kernel_rfl)
    (fun x => by kernel_rfl) (fun n => by
      rintro ⟨⟨⟨⟩, x1, ⟨⟩⟩, ⟨⟨x2, ⟨⟩, ⟨⟩, x3, x4, x5, ⟨⟩⟩, x6, x7, ⟨⟩⟩⟩
      kernel_rfl)
    (fun n => obl_of (by kernel_rfl) (by kernel_rfl) (lz) (cn (cn (cs (cn (cn (cn (cn (cn (cn (cn (cn (cz) (by kernel_rfl)) (by kernel_rfl)) (by kernel_rfl)) (by kernel_rfl)) (by kernel_rfl)) (by kernel_rfl)) (by kernel_rfl)) (by kernel_rfl)) (by kernel_rfl) (disk_Disk_Read_c8_k8 n)) (by kernel_rfl)) (by kernel_rfl)))
    (fun n ih => asc_cons (slices_Clone_byte_byte_ok ok n) <| asc_nil)
/-! ### pendulum/pendulumlaw3.first -/
abbrev law3_first_ins : Sh := ⟨[], []⟩
abbrev law3_first_outs : List Sh := [⟨[(.one (.val .bool))], []⟩]
def law3_first : Nat → law3_first_ins.T → Option (OutsT law3_first_outs)
  | 0, _ => none
  | n + 1, (_, _) =>
    match disk_New n ((4, ()), ()) with
    | some (.inl ((((_, _), (x1, _), _), _), ((x2, _, _, x3, x4, x5, _), m6, m7, _))) => (
      if !(errNil x1) then
        some ((false, ()), ())
      else
        match disk_Disk_Write n (((), 0, (), ()), ((x2, (), (), x3, x4, x5, ()), [1], m6, m7, ())) with
        | some ((x9, _), ((x10, _, _, x11, x12, x13, _), _, m14, m15, _)) => (
          if !(errNil x9) then
            some ((false, ()), ())
          else
            match disk_Disk_Crash n (((), (), ()), ((x10, (), (), x11, x12, x13, ()), [], m14, m15, ())) with
            | some ((_, _), ((x16, _, _, x17, x18, x19, _), l20, m21, m22, _)) => (
              match disk_Disk_Read n (((), 0, ()), ((x16, (), (), x17, x18, x19, ()), m21, m22, ())) with
              | some ((((_, _), (x23, _), (x24, _), _), _), ((x25, _, _, x26, x27, x28, _), m29, m30, l31, _)) => (
                some ((!x23, ()), ()))
              | none => none)
            | none => none)
        | none => none)
    | some (.inr (((((_, _), (x8, _), _), _), _))) => (
      some ((false, ()), ()))
    | none => none
def law3_first_H (n : Nat) : Hints := ⟨[], fun _ => [], fun _ => none, fun _ => none⟩
def law3_first_O (n : Nat) : FuncId → List FSpec := asc [(11, ⟨disk_New_ins, disk_New_outs, disk_New n⟩), (14, ⟨disk_Disk_Write_ins, disk_Disk_Write_outs, disk_Disk_Write n⟩), (15, ⟨disk_Disk_Read_ins, disk_Disk_Read_outs, disk_Disk_Read n⟩), (19, ⟨disk_Disk_Crash_ins, disk_Disk_Crash_outs, disk_Disk_Crash n⟩)]
def b9 : Code := bodyOf Tryd.f9
theorem law3_first_ok {S : Nat → Addr} (ok : CfgOk P CC S) : ∀ n, SpecOk P CC S 9 ⟨law3_first_ins, law3_first_outs, law3_first n⟩ :=
  fn_all ok (O := law3_first_O) (H := law3_first_H) (fn := Tryd.f9) (body := b9) (by kernel_rfl) (by kernel_rfl) (by kernel_rfl) (by decide) (by kernel_rfl)
    (fun x => by kernel_rfl) (fun n => by
      rintro ⟨⟨⟩, ⟨⟩⟩
      kernel_rfl)
    (fun n => obl_of (by kernel_rfl) (by kernel_rfl) (lz) (cn (cn (cn (cn (cn (cn (cn (cn (cz) (by kernel_rfl)) (by kernel_rfl)) (by kernel_rfl)) (by kernel_rfl)) (by kernel_rfl)) (by kernel_rfl)) (by kernel_rfl)) (by kernel_rfl)))
    (fun n ih => asc_cons (disk_New_ok ok n) <| asc_cons (disk_Disk_Write_ok ok n) <| asc_cons (disk_Disk_Read_ok ok n) <| asc_cons (disk_Disk_Crash_ok ok n) <| asc_nil)
/-! ### pendulum/pendulumref3.New -/
abbrev ref3_New_ins : Sh := ⟨[(.one (.val (.int .i64)))], []⟩
abbrev ref3_New_outs : List Sh := [⟨[(.tup [(false, [(.ptr 0 0)]), (false, [(.val (.int .i64))])])], [(.obj 57 [(.val (.int .i64)), (.val (.int .i64)), (.emp true), (.emp true), (.val (.int .i64)), (.val .bool)])]⟩, ⟨[(.tup [(false, [.nilp]), (false, [(.val (.int .i64))])])], []⟩]
def ref3_New : Nat → ref3_New_ins.T → Option (OutsT ref3_New_outs)
  | 0, _ => none
  | n + 1, ((x1, _), _) =>
    if decide (x1 < 1) then
      some (.inr ((((((), ()), (104, ()), ()), ()), ())))
    else
      if decide (x1 > 16384) then
        some (.inr ((((((), ()), (104, ()), ()), ()), ())))
      else
        some (.inl (((((), ()), (0, ()), ()), ()), ((x1, 0, (), (), 0, false, ()), ())))
def ref3_New_H (n : Nat) : Hints := ⟨[], fun _ => [], fun _ => none, fun _ => none⟩
def ref3_New_O (n : Nat) : FuncId → List FSpec := asc []
def b25 : Code := bodyOf Tryd.f25
theorem ref3_New_ok {S : Nat → Addr} (ok : CfgOk P CC S) : ∀ n, SpecOk P CC S 25 ⟨ref3_New_ins, ref3_New_outs, ref3_New n⟩ :=
  fn_all ok (O := ref3_New_O) (H := ref3_New_H) (fn := Tryd.f25) (body := b25) (by kernel_rfl) (by kernel_rfl) (by kernel_rfl) (by decide) (by kernel_rfl)
    (fun x => by kernel_rfl) (fun n => by
      rintro ⟨⟨x1, ⟨⟩⟩, ⟨⟩⟩
      kernel_rfl)
    (fun n => obl_of (by kernel_rfl) (by kernel_rfl) (lz) (cn (cn (cn (cn (cn (cz) (by kernel_rfl)) (by kernel_rfl)) (by kernel_rfl)) (by kernel_rfl)) (by kernel_rfl)))
    (fun n ih => asc_nil)
/-! ### pendulum/pendulumref.Bare -/
abbrev ref_Bare_ins : Sh := ⟨[(.one (.val (.int .i64)))], []⟩
abbrev ref_Bare_outs : List Sh := [⟨[(.agg [(.val (.int .i64)), (.val .bool), (.val .bool), (.val (.int .i64)), (.val (.int .i64))])], []⟩]
def ref_Bare : Nat → ref_Bare_ins.T → Option (OutsT ref_Bare_outs)
  | 0, _ => none
  | n + 1, ((x1, _), _) =>
    some (((x1, false, false, 0, 0, ()), ()), ())
def ref_Bare_H (n : Nat) : Hints := ⟨[], fun _ => [], fun _ => none, fun _ => none⟩
def ref_Bare_O (n : Nat) : FuncId → List FSpec := asc []
def b32 : Code := bodyOf Tryd.f32
theorem ref_Bare_ok {S : Nat → Addr} (ok : CfgOk P CC S) : ∀ n, SpecOk P CC S 32 ⟨ref_Bare_ins, ref_Bare_outs, ref_Bare n⟩ :=
  fn_all ok (O := ref_Bare_O) (H := ref_Bare_H) (fn := Tryd.f32) (body := b32) (by kernel_rfl) (by kernel_rfl) (by kernel_rfl) (by decide) (by kernel_rfl)
    (fun x => by kernel_rfl) (fun n => by
      rintro ⟨⟨x1, ⟨⟩⟩, ⟨⟩⟩
      kernel_rfl)
    (fun n => obl_of (by kernel_rfl) (by kernel_rfl) (lz) (cn (cn (cz) (by kernel_rfl)) (by kernel_rfl)))
    (fun n ih => asc_nil)
/-! ### pendulum/pendulumref.None -/
abbrev ref_None_ins : Sh := ⟨[], []⟩
abbrev ref_None_outs : List Sh := [⟨[(.agg [(.val (.int .i64)), (.val .bool), (.val .bool), (.val (.int .i64)), (.val (.int .i64))])], []⟩]
def ref_None : Nat → ref_None_ins.T → Option (OutsT ref_None_outs)
  | 0, _ => none
  | n + 1, (_, _) =>
    some (((0, false, false, 0, 0, ()), ()), ())
def ref_None_H (n : Nat) : Hints := ⟨[], fun _ => [], fun _ => none, fun _ => none⟩
def ref_None_O (n : Nat) : FuncId → List FSpec := asc []
def b48 : Code := bodyOf Tryd.f48
theorem ref_None_ok {S : Nat → Addr} (ok : CfgOk P CC S) : ∀ n, SpecOk P CC S 48 ⟨ref_None_ins, ref_None_outs, ref_None n⟩ :=
  fn_all ok (O := ref_None_O) (H := ref_None_H) (fn := Tryd.f48) (body := b48) (by kernel_rfl) (by kernel_rfl) (by kernel_rfl) (by decide) (by kernel_rfl)
    (fun x => by kernel_rfl) (fun n => by
      rintro ⟨⟨⟩, ⟨⟩⟩
      kernel_rfl)
    (fun n => obl_of (by kernel_rfl) (by kernel_rfl) (lz) (cn (cn (cz) (by kernel_rfl)) (by kernel_rfl)))
    (fun n ih => asc_nil)
/-! ### pendulum/pendulumsee.sentinels -/
abbrev pendulumsee_sentinels_ins : Sh := ⟨[], []⟩
abbrev pendulumsee_sentinels_outs : List Sh := [⟨[(.one (.arr 0))], [(.arr 26 .err)]⟩]
def pendulumsee_sentinels : Nat → pendulumsee_sentinels_ins.T → Option (OutsT pendulumsee_sentinels_outs)
  | 0, _ => none
  | n + 1, (_, _) =>
    some (((), ()), ([ErrV.sent 101, ErrV.sent 102, ErrV.sent 103, ErrV.sent 104, ErrV.sent 105, ErrV.sent 106, ErrV.sent 107, ErrV.sent 108, ErrV.sent 109, ErrV.sent 110, ErrV.sent 111, ErrV.sent 112, ErrV.sent 113, ErrV.sent 114, ErrV.sent 115, ErrV.sent 116, ErrV.sent 117, ErrV.sent 118, ErrV.sent 119, ErrV.sent 120, ErrV.sent 121], ()))
def pendulumsee_sentinels_H (n : Nat) : Hints := ⟨[], fun _ => [], fun _ => none, fun _ => none⟩
def pendulumsee_sentinels_O (n : Nat) : FuncId → List FSpec := asc []
def b55 : Code := bodyOf Tryd.f55
theorem pendulumsee_sentinels_ok {S : Nat → Addr} (ok : CfgOk P CC S) : ∀ n, SpecOk P CC S 55 ⟨pendulumsee_sentinels_ins, pendulumsee_sentinels_outs, pendulumsee_sentinels n⟩ :=
  fn_all ok (O := pendulumsee_sentinels_O) (H := pendulumsee_sentinels_H) (fn := Tryd.f55) (body := b55) (by kernel_rfl) (by kernel_rfl) (by kernel_rfl) (by decide) (by kernel_rfl)
    (fun x => by kernel_rfl) (fun n => by
      rintro ⟨⟨⟩, ⟨⟩⟩
      kernel_rfl)
    (fun n => obl_of (by kernel_rfl) (by kernel_rfl) (lz) (cn (cn (cz) (by kernel_rfl)) (by kernel_rfl)))
    (fun n ih => asc_nil)
/-! ### pendulum/pendulumsee.Alike -/
abbrev pendulumsee_Alike_ins : Sh := ⟨[(.one (.val .err)), (.one (.val .err))], []⟩
abbrev pendulumsee_Alike_outs : List Sh := [⟨[(.one (.val .bool))], []⟩]
def pendulumsee_Alike : Nat → pendulumsee_Alike_ins.T → Option (OutsT pendulumsee_Alike_outs)
  | 0, _ => none
  | n + 1, ((x1, x2, _), _) =>
    if errNil x1 then
      if errNil x1 then
        some ((errNil x2, ()), ())
      else
        some ((false, ()), ())
    else
      if errNil x2 then
        if errNil x1 then
          some ((errNil x2, ()), ())
        else
          some ((false, ()), ())
      else
        match errEq x1 x2 with
        | some b3 => (
          some ((b3, ()), ()))
        | none => none
def pendulumsee_Alike_H (n : Nat) : Hints := ⟨[], fun _ => [], fun _ => none, fun _ => none⟩
def pendulumsee_Alike_O (n : Nat) : FuncId → List FSpec := asc []
def b56 : Code := bodyOf Tryd.f56
theorem pendulumsee_Alike_ok {S : Nat → Addr} (ok : CfgOk P CC S) : ∀ n, SpecOk P CC S 56 ⟨pendulumsee_Alike_ins, pendulumsee_Alike_outs, pendulumsee_Alike n⟩ :=
  fn_all ok (O := pendulumsee_Alike_O) (H := pendulumsee_Alike_H) (fn := Tryd.f56) (body := b56) (by kernel_rfl) (by kernel_rfl) (by kernel_rfl) (by decide) (by kernel_rfl)
    (fun x => by kernel_rfl) (fun n => by
      rintro ⟨⟨x1, x2, ⟨⟩⟩, ⟨⟩⟩
      kernel_rfl)
    (fun n => obl_of (by kernel_rfl) (by kernel_rfl) (lz) (cn (cn (cn (cn (cn (cz) (by kernel_rfl)) (by kernel_rfl)) (by kernel_rfl)) (by kernel_rfl)) (by kernel_rfl)))
    (fun n ih => asc_nil)
/-! ### pendulum/pendulumsee.sentinel -/
abbrev pendulumsee_sentinel_ins : Sh := ⟨[(.one (.val .err))], []⟩
abbrev pendulumsee_sentinel_outs : List Sh := [⟨[(.one (.val (.int .i64)))], []⟩]
abbrev pendulumsee_sentinel_l3_h : Sh := ⟨[(.one (.val .err)), (.one (.arr 0)), (.one (.val (.int .i64)))], [(.arr 26 .err)]⟩
abbrev pendulumsee_sentinel_l3_o : List Out := [⟨(.exit 0), [], ⟨[], []⟩⟩, ⟨.ret, [2], ⟨[(.one (.val (.int .i64)))], []⟩⟩]
def pendulumsee_sentinel_l3 (n : Nat) : Nat → pendulumsee_sentinel_l3_h.T → Option (OutT pendulumsee_sentinel_l3_o)
  | 0, _ => none
  | k + 1, ((x1, _, x2, _), (l3, _)) =>
    if decide (x2 < (l3.length : Int)) then
      if 0 ≤ x2 ∧ x2 < (l3.length : Int) then (
        match pendulumsee_Alike n ((x1, rdT (.err : Ty) l3 x2, ()), ()) with
        | some ((x4, _), _) => (
          if x4 then
            let v5 : Int := IntKind.i64.wrap (101 + x2)
            some (.inr (.inl ((v5, ()), ())))
          else
            let v6 : Int := IntKind.i64.wrap (x2 + 1)
            pendulumsee_sentinel_l3 n k ((x1, (), v6, ()), (l3, ())))
        | none => none) else none
    else
      some (.inl ((), ()))
def pendulumsee_sentinel : Nat → pendulumsee_sentinel_ins.T → Option (OutsT pendulumsee_sentinel_outs)
  | 0, _ => none
  | n + 1, ((x1, _), _) =>
    match pendulumsee_sentinels n ((), ()) with
    | some ((_, _), (l2, _)) => (
      match pendulumsee_sentinel_l3 n n ((x1, (), 0, ()), (l2, ())) with
      | some (.inl (_, _)) => (
        some (((-1), ()), ()))
      | some (.inr (.inl ((x3, _), _))) => (
        some ((x3, ()), ()))
      | some (.inr (.inr (_))) => none
      | none => none)
    | none => none
def pendulumsee_sentinel_H (n : Nat) : Hints := ⟨[], fun _ => [], fun k => match k with | 3 => some ⟨[0, 3, 4], pendulumsee_sentinel_l3_h, pendulumsee_sentinel_l3_o, pendulumsee_sentinel_l3 n⟩ | _ => none, fun _ => none⟩
def pendulumsee_sentinel_O (n : Nat) : FuncId → List FSpec := asc [(55, ⟨pendulumsee_sentinels_ins, pendulumsee_sentinels_outs, pendulumsee_sentinels n⟩), (56, ⟨pendulumsee_Alike_ins, pendulumsee_Alike_outs, pendulumsee_Alike n⟩)]
def b49 : Code := bodyOf Tryd.f49
theorem pendulumsee_sentinel_l3_k0 (n : Nat) : LoopOk P CC (pendulumsee_sentinel_O n) n 0 20 (pendulumsee_sentinel_H n) ⟨[0, 3, 4], pendulumsee_sentinel_l3_h, pendulumsee_sentinel_l3_o, pendulumsee_sentinel_l3 n⟩ ((loopsOf b49).getD 0 .skip) := by
  refine ⟨fun _ => by kernel_rfl, ?_⟩
  rintro k ⟨⟨x1, ⟨⟩, x2, ⟨⟩⟩, ⟨x3, ⟨⟩⟩⟩
  kernel_rfl
theorem pendulumsee_sentinel_ok {S : Nat → Addr} (ok : CfgOk P CC S) : ∀ n, SpecOk P CC S 49 ⟨pendulumsee_sentinel_ins, pendulumsee_sentinel_outs, pendulumsee_sentinel n⟩ :=
  fn_all ok (O := pendulumsee_sentinel_O) (H := pendulumsee_sentinel_H) (fn := Tryd.f49) (body := b49) (by kernel_rfl) (by kernel_rfl) (by kernel_rfl) (by decide) (by kernel_rfl)
    (fun x => by kernel_rfl) (fun n => by
      rintro ⟨⟨x1, ⟨⟩⟩, ⟨⟩⟩
      kernel_rfl)
    (fun n => obl_of (by kernel_rfl) (by kernel_rfl) (ls (lz) (by kernel_rfl) (pendulumsee_sentinel_l3_k0 n)) (cn (cn (cn (cn (cn (cn (cn (cn (cn (cn (cz) (by kernel_rfl)) (by kernel_rfl)) (by kernel_rfl)) (by kernel_rfl)) (by kernel_rfl)) (by kernel_rfl)) (by kernel_rfl)) (by kernel_rfl)) (by kernel_rfl)) (by kernel_rfl)))
    (fun n ih => asc_cons (pendulumsee_sentinels_ok ok n) <| asc_cons (pendulumsee_Alike_ok ok n) <| asc_nil)
/-! ### pendulum/pendulumref.Placed -/
abbrev ref_Placed_ins : Sh := ⟨[(.one (.val (.int .i64))), (.one (.val (.int .i64)))], []⟩
abbrev ref_Placed_outs : List Sh := [⟨[(.agg [(.val (.int .i64)), (.val .bool), (.val .bool), (.val (.int .i64)), (.val (.int .i64))])], []⟩]
def ref_Placed : Nat → ref_Placed_ins.T → Option (OutsT ref_Placed_outs)
  | 0, _ => none
  | n + 1, ((x1, x2, _), _) =>
    if x1 == 0 then
      match ref_None n ((), ()) with
      | some (((x3, x4, x5, x6, x7, _), _), _) => (
        some (((x3, x4, x5, x6, x7, ()), ()), ()))
      | none => none
    else
      some (((x1, true, false, x2, 0, ()), ()), ())
def ref_Placed_H (n : Nat) : Hints := ⟨[], fun _ => [], fun _ => none, fun _ => none⟩
def ref_Placed_O (n : Nat) : FuncId → List FSpec := asc [(48, ⟨ref_None_ins, ref_None_outs, ref_None n⟩)]
def b51 : Code := bodyOf Tryd.f51
theorem ref_Placed_ok {S : Nat → Addr} (ok : CfgOk P CC S) : ∀ n, SpecOk P CC S 51 ⟨ref_Placed_ins, ref_Placed_outs, ref_Placed n⟩ :=
  fn_all ok (O := ref_Placed_O) (H := ref_Placed_H) (fn := Tryd.f51) (body := b51) (by kernel_rfl) (by kernel_rfl) (by kernel_rfl) (by decide) (by kernel_rfl)
    (fun x => by kernel_rfl) (fun n => by
      rintro ⟨⟨x1, x2, ⟨⟩⟩, ⟨⟩⟩
      kernel_rfl)
    (fun n => obl_of (by kernel_rfl) (by kernel_rfl) (lz) (cn (cn (cn (cn (cn (cz) (by kernel_rfl)) (by kernel_rfl)) (by kernel_rfl)) (by kernel_rfl)) (by kernel_rfl)))
    (fun n ih => asc_cons (ref_None_ok ok n) <| asc_nil)
/-! ### pendulum/pendulumref.Around -/
abbrev ref_Around_ins : Sh := ⟨[(.agg [(.val (.int .i64)), (.val .bool), (.val .bool), (.val (.int .i64)), (.val (.int .i64))]), (.one (.val (.int .i64)))], []⟩
abbrev ref_Around_outs : List Sh := [⟨[(.agg [(.val (.int .i64)), (.val .bool), (.val .bool), (.val (.int .i64)), (.val (.int .i64))])], []⟩]
def ref_Around : Nat → ref_Around_ins.T → Option (OutsT ref_Around_outs)
  | 0, _ => none
  | n + 1, (((x1, x2, x3, x4, x5, _), x6, _), _) =>
    if x1 == 0 then
      match ref_None n ((), ()) with
      | some (((x7, x8, x9, x10, x11, _), _), _) => (
        some (((x7, x8, x9, x10, x11, ()), ()), ()))
      | none => none
    else
      if x2 then
        some (((x1, true, true, x6, x4, ()), ()), ())
      else
        some (((x1, true, false, x6, 0, ()), ()), ())
def ref_Around_H (n : Nat) : Hints := ⟨[], fun _ => [], fun _ => none, fun _ => none⟩
def ref_Around_O (n : Nat) : FuncId → List FSpec := asc [(48, ⟨ref_None_ins, ref_None_outs, ref_None n⟩)]
def b50 : Code := bodyOf Tryd.f50
theorem ref_Around_ok {S : Nat → Addr} (ok : CfgOk P CC S) : ∀ n, SpecOk P CC S 50 ⟨ref_Around_ins, ref_Around_outs, ref_Around n⟩ :=
  fn_all ok (O := ref_Around_O) (H := ref_Around_H) (fn := Tryd.f50) (body := b50) (by kernel_rfl) (by kernel_rfl) (by kernel_rfl) (by decide) (by kernel_rfl)
    (fun x => by kernel_rfl) (fun n => by
      rintro ⟨⟨⟨x1, x2, x3, x4, x5, ⟨⟩⟩, x6, ⟨⟩⟩, ⟨⟩⟩
      kernel_rfl)
    (fun n => obl_of (by kernel_rfl) (by kernel_rfl) (lz) (cn (cn (cn (cn (cn (cn (cn (cn (cz) (by kernel_rfl)) (by kernel_rfl)) (by kernel_rfl)) (by kernel_rfl)) (by kernel_rfl)) (by kernel_rfl)) (by kernel_rfl)) (by kernel_rfl)))
    (fun n ih => asc_cons (ref_None_ok ok n) <| asc_nil)
/-! ### pendulum/pendulumsee.Fault -/
abbrev pendulumsee_Fault_ins : Sh := ⟨[(.one (.val .err))], []⟩
abbrev pendulumsee_Fault_outs : List Sh := [⟨[(.agg [(.val (.int .i64)), (.val .bool), (.val .bool), (.val (.int .i64)), (.val (.int .i64))])], []⟩]
def pendulumsee_Fault : Nat → pendulumsee_Fault_ins.T → Option (OutsT pendulumsee_Fault_outs)
  | 0, _ => none
  | n + 1, ((x1, _), _) =>
    if errNil x1 then
      match ref_None n ((), ()) with
      | some (((x2, x3, x4, x5, x6, _), _), _) => (
        some (((x2, x3, x4, x5, x6, ()), ()), ()))
      | none => none
    else
      if !(errIsAt x1) then
        match pendulumsee_sentinel n ((x1, ()), ()) with
        | some ((x7, _), _) => (
          match ref_Bare n ((x7, ()), ()) with
          | some (((x8, x9, x10, x11, x12, _), _), _) => (
            some (((x8, x9, x10, x11, x12, ()), ()), ()))
          | none => none)
        | none => none
      else
        if Option.isNone (errAt x1) then
          match ref_Bare n (((-1), ()), ()) with
          | some (((x14, x15, x16, x17, x18, _), _), _) => (
            some (((x14, x15, x16, x17, x18, ()), ()), ()))
          | none => none
        else
          match errAt x1 with
          | some x13 => (
            if errNil x13.2 then
              match ref_Bare n (((-1), ()), ()) with
              | some (((x19, x20, x21, x22, x23, _), _), _) => (
                some (((x19, x20, x21, x22, x23, ()), ()), ()))
              | none => none
            else
              match errAt x1 with
              | some x24 => (
                if errIsAt x24.2 then
                  if Option.isNone (errAt x24.2) then
                    match ref_Bare n (((-1), ()), ()) with
                    | some (((x26, x27, x28, x29, x30, _), _), _) => (
                      some (((x26, x27, x28, x29, x30, ()), ()), ()))
                    | none => none
                  else
                    match errAt x24.2 with
                    | some x25 => (
                      if errNil x25.2 then
                        match ref_Bare n (((-1), ()), ()) with
                        | some (((x31, x32, x33, x34, x35, _), _), _) => (
                          some (((x31, x32, x33, x34, x35, ()), ()), ()))
                        | none => none
                      else
                        match errAt x24.2 with
                        | some x36 => (
                          match pendulumsee_sentinel n ((x36.2, ()), ()) with
                          | some ((x37, _), _) => (
                            match errAt x24.2 with
                            | some x38 => (
                              match ref_Placed n ((x37, x38.1, ()), ()) with
                              | some (((x39, x40, x41, x42, x43, _), _), _) => (
                                match errAt x1 with
                                | some x44 => (
                                  match ref_Around n (((x39, x40, x41, x42, x43, ()), x44.1, ()), ()) with
                                  | some (((x45, x46, x47, x48, x49, _), _), _) => (
                                    some (((x45, x46, x47, x48, x49, ()), ()), ()))
                                  | none => none)
                                | none => none)
                              | none => none)
                            | none => none)
                          | none => none)
                        | none => none)
                    | none => none
                else
                  match errAt x1 with
                  | some x50 => (
                    match pendulumsee_sentinel n ((x50.2, ()), ()) with
                    | some ((x51, _), _) => (
                      match errAt x1 with
                      | some x52 => (
                        match ref_Placed n ((x51, x52.1, ()), ()) with
                        | some (((x53, x54, x55, x56, x57, _), _), _) => (
                          some (((x53, x54, x55, x56, x57, ()), ()), ()))
                        | none => none)
                      | none => none)
                    | none => none)
                  | none => none)
              | none => none)
          | none => none
def pendulumsee_Fault_H (n : Nat) : Hints := ⟨[], fun _ => [], fun _ => none, fun _ => none⟩
def pendulumsee_Fault_O (n : Nat) : FuncId → List FSpec := asc [(32, ⟨ref_Bare_ins, ref_Bare_outs, ref_Bare n⟩), (48, ⟨ref_None_ins, ref_None_outs, ref_None n⟩), (49, ⟨pendulumsee_sentinel_ins, pendulumsee_sentinel_outs, pendulumsee_sentinel n⟩), (50, ⟨ref_Around_ins, ref_Around_outs, ref_Around n⟩), (51, ⟨ref_Placed_ins, ref_Placed_outs, ref_Placed n⟩)]
def b43 : Code := bodyOf Tryd.f43
theorem pendulumsee_Fault_ok {S : Nat → Addr} (ok : CfgOk P CC S) : ∀ n, SpecOk P CC S 43 ⟨pendulumsee_Fault_ins, pendulumsee_Fault_outs, pendulumsee_Fault n⟩ :=
  fn_all ok (O := pendulumsee_Fault_O) (H := pendulumsee_Fault_H) (fn := Tryd.f43) (body := b43) (by kernel_rfl) (by kernel_rfl) (by kernel_rfl) (by decide) (by kernel_rfl)
    (fun x => by kernel_rfl) (fun n => by
      rintro ⟨⟨x1, ⟨⟩⟩, ⟨⟩⟩
      kernel_rfl)
    (fun n => obl_of (by kernel_rfl) (by kernel_rfl) (lz) (cn (cn (cn (cn (cn (cn (cn (cn (cn (cn (cn (cn (cn (cn (cn (cn (cn (cn (cn (cz) (by kernel_rfl)) (by kernel_rfl)) (by kernel_rfl)) (by kernel_rfl)) (by kernel_rfl)) (by kernel_rfl)) (by kernel_rfl)) (by kernel_rfl)) (by kernel_rfl)) (by kernel_rfl)) (by kernel_rfl)) (by kernel_rfl)) (by kernel_rfl)) (by kernel_rfl)) (by kernel_rfl)) (by kernel_rfl)) (by kernel_rfl)) (by kernel_rfl)) (by kernel_rfl)))
    (fun n ih => asc_cons (ref_Bare_ok ok n) <| asc_cons (ref_None_ok ok n) <| asc_cons (pendulumsee_sentinel_ok ok n) <| asc_cons (ref_Around_ok ok n) <| asc_cons (ref_Placed_ok ok n) <| asc_nil)
/-! ### pendulum/pendulumref.SameFault -/
abbrev ref_SameFault_ins : Sh := ⟨[(.agg [(.val (.int .i64)), (.val .bool), (.val .bool), (.val (.int .i64)), (.val (.int .i64))]), (.agg [(.val (.int .i64)), (.val .bool), (.val .bool), (.val (.int .i64)), (.val (.int .i64))])], []⟩
abbrev ref_SameFault_outs : List Sh := [⟨[(.one (.val .bool))], []⟩]
def ref_SameFault : Nat → ref_SameFault_ins.T → Option (OutsT ref_SameFault_outs)
  | 0, _ => none
  | n + 1, (((x1, x2, x3, x4, x5, _), (x6, x7, x8, x9, x10, _), _), _) =>
    if x1 == x6 then
      if x2 == x7 then
        if x4 == x9 then
          if x3 == x8 then
            some ((x5 == x10, ()), ())
          else
            some ((false, ()), ())
        else
          some ((false, ()), ())
      else
        some ((false, ()), ())
    else
      some ((false, ()), ())
def ref_SameFault_H (n : Nat) : Hints := ⟨[], fun _ => [], fun _ => none, fun _ => none⟩
def ref_SameFault_O (n : Nat) : FuncId → List FSpec := asc []
def b42 : Code := bodyOf Tryd.f42
theorem ref_SameFault_ok {S : Nat → Addr} (ok : CfgOk P CC S) : ∀ n, SpecOk P CC S 42 ⟨ref_SameFault_ins, ref_SameFault_outs, ref_SameFault n⟩ :=
  fn_all ok (O := ref_SameFault_O) (H := ref_SameFault_H) (fn := Tryd.f42) (body := b42) (by kernel_rfl) (by kernel_rfl) (by kernel_rfl) (by decide) (by kernel_rfl)
    (fun x => by kernel_rfl) (fun n => by
      rintro ⟨⟨⟨x1, x2, x3, x4, x5, ⟨⟩⟩, ⟨x6, x7, x8, x9, x10, ⟨⟩⟩, ⟨⟩⟩, ⟨⟩⟩
      kernel_rfl)
    (fun n => obl_of (by kernel_rfl) (by kernel_rfl) (lz) (cn (cn (cz) (by kernel_rfl)) (by kernel_rfl)))
    (fun n ih => asc_nil)
/-! ### pendulum/pendulumsee.Same -/
abbrev pendulumsee_Same_ins : Sh := ⟨[(.one (.val .err)), (.agg [(.val (.int .i64)), (.val .bool), (.val .bool), (.val (.int .i64)), (.val (.int .i64))])], []⟩
abbrev pendulumsee_Same_outs : List Sh := [⟨[(.one (.val .bool))], []⟩]
def pendulumsee_Same : Nat → pendulumsee_Same_ins.T → Option (OutsT pendulumsee_Same_outs)
  | 0, _ => none
  | n + 1, ((x1, (x2, x3, x4, x5, x6, _), _), _) =>
    match pendulumsee_Fault n ((x1, ()), ()) with
    | some (((x7, x8, x9, x10, x11, _), _), _) => (
      match ref_SameFault n (((x7, x8, x9, x10, x11, ()), (x2, x3, x4, x5, x6, ()), ()), ()) with
      | some ((x12, _), _) => (
        some ((x12, ()), ()))
      | none => none)
    | none => none
def pendulumsee_Same_H (n : Nat) : Hints := ⟨[], fun _ => [], fun _ => none, fun _ => none⟩
def pendulumsee_Same_O (n : Nat) : FuncId → List FSpec := asc [(42, ⟨ref_SameFault_ins, ref_SameFault_outs, ref_SameFault n⟩), (43, ⟨pendulumsee_Fault_ins, pendulumsee_Fault_outs, pendulumsee_Fault n⟩)]
def b31 : Code := bodyOf Tryd.f31
theorem pendulumsee_Same_ok {S : Nat → Addr} (ok : CfgOk P CC S) : ∀ n, SpecOk P CC S 31 ⟨pendulumsee_Same_ins, pendulumsee_Same_outs, pendulumsee_Same n⟩ :=
  fn_all ok (O := pendulumsee_Same_O) (H := pendulumsee_Same_H) (fn := Tryd.f31) (body := b31) (by kernel_rfl) (by kernel_rfl) (by kernel_rfl) (by decide) (by kernel_rfl)
    (fun x => by kernel_rfl) (fun n => by
      rintro ⟨⟨x1, ⟨x2, x3, x4, x5, x6, ⟨⟩⟩, ⟨⟩⟩, ⟨⟩⟩
      kernel_rfl)
    (fun n => obl_of (by kernel_rfl) (by kernel_rfl) (lz) (cn (cn (cz) (by kernel_rfl)) (by kernel_rfl)))
    (fun n ih => asc_cons (ref_SameFault_ok ok n) <| asc_cons (pendulumsee_Fault_ok ok n) <| asc_nil)
/-! ### pendulum/pendulumsee.Is -/
abbrev pendulumsee_Is_ins : Sh := ⟨[(.one (.val .err)), (.one (.val (.int .i64)))], []⟩
abbrev pendulumsee_Is_outs : List Sh := [⟨[(.one (.val .bool))], []⟩]
def pendulumsee_Is : Nat → pendulumsee_Is_ins.T → Option (OutsT pendulumsee_Is_outs)
  | 0, _ => none
  | n + 1, ((x1, x2, _), _) =>
    match ref_Bare n ((x2, ()), ()) with
    | some (((x3, x4, x5, x6, x7, _), _), _) => (
      match pendulumsee_Same n ((x1, (x3, x4, x5, x6, x7, ()), ()), ()) with
      | some ((x8, _), _) => (
        some ((x8, ()), ()))
      | none => none)
    | none => none
def pendulumsee_Is_H (n : Nat) : Hints := ⟨[], fun _ => [], fun _ => none, fun _ => none⟩
def pendulumsee_Is_O (n : Nat) : FuncId → List FSpec := asc [(31, ⟨pendulumsee_Same_ins, pendulumsee_Same_outs, pendulumsee_Same n⟩), (32, ⟨ref_Bare_ins, ref_Bare_outs, ref_Bare n⟩)]
def b12 : Code := bodyOf Tryd.f12
theorem pendulumsee_Is_ok {S : Nat → Addr} (ok : CfgOk P CC S) : ∀ n, SpecOk P CC S 12 ⟨pendulumsee_Is_ins, pendulumsee_Is_outs, pendulumsee_Is n⟩ :=
  fn_all ok (O := pendulumsee_Is_O) (H := pendulumsee_Is_H) (fn := Tryd.f12) (body := b12) (by kernel_rfl) (by kernel_rfl) (by kernel_rfl) (by decide) (by kernel_rfl)
    (fun x => by kernel_rfl) (fun n => by
      rintro ⟨⟨x1, x2, ⟨⟩⟩, ⟨⟩⟩
      kernel_rfl)
    (fun n => obl_of (by kernel_rfl) (by kernel_rfl) (lz) (cn (cn (cz) (by kernel_rfl)) (by kernel_rfl)))
    (fun n ih => asc_cons (pendulumsee_Same_ok ok n) <| asc_cons (ref_Bare_ok ok n) <| asc_nil)
/-! ### maps.Clone[map[int][]byte,int,[]byte] (by hand) -/
abbrev maps_Clone_ins : Sh := ⟨[(.one (.map 0))], [(.map (.int .i64) ty0 false)]⟩
abbrev maps_Clone_outs : List Sh := [⟨[(.one (.map 1))], [(.map (.int .i64) ty0 false), (.map (.int .i64) ty0 false)]⟩]
def maps_Clone : Nat → maps_Clone_ins.T → Option (OutsT maps_Clone_outs) := fun _ => cloneSem ty0 false
theorem maps_Clone_ok {S : Nat → Addr} (ok : CfgOk P CC S) : ∀ n, SpecOk P CC S 38 ⟨maps_Clone_ins, maps_Clone_outs, maps_Clone n⟩ := fun n => mclone_spec ⟨Tryd.f38, by kernel_rfl, by kernel_rfl, by kernel_rfl⟩ Sq.clone_calls
/-! ### (*pendulum/disk.Disk).Clone -/
abbrev disk_Disk_Clone_ins : Sh := ⟨[(.one (.ptr 0 0))], [(.obj 63 [(.val (.int .i64)), (.map 1), (.map 2), (.val (.int .i64)), (.val (.int .i64)), (.val .bool)]), (.map (.int .i64) ty0 false), (.map (.int .i64) ty0 false)]⟩
abbrev disk_Disk_Clone_outs : List Sh := [⟨[(.one (.ptr 3 0))], [(.obj 63 [(.val (.int .i64)), (.map 1), (.map 2), (.val (.int .i64)), (.val (.int .i64)), (.val .bool)]), (.map (.int .i64) ty0 false), (.map (.int .i64) ty0 false), (.obj 63 [(.val (.int .i64)), (.map 4), (.map 5), (.val (.int .i64)), (.val (.int .i64)), (.val .bool)]), (.map (.int .i64) ty0 false), (.map (.int .i64) ty0 false)]⟩]
def disk_Disk_Clone : Nat → disk_Disk_Clone_ins.T → Option (OutsT disk_Disk_Clone_outs)
  | 0, _ => none
  | n + 1, ((_, _), ((x1, _, _, x2, x3, x4, _), m5, m6, _)) =>
    match maps_Clone n (((), ()), (m5, ())) with
    | some ((_, _), (m7, m8, _)) => (
      match maps_Clone n (((), ()), (m6, ())) with
      | some ((_, _), (m9, m10, _)) => (
        some (((), ()), ((x1, (), (), x2, x3, x4, ()), m7, m9, (x1, (), (), x2, x3, x4, ()), m8, m10, ())))
      | none => none)
    | none => none
def disk_Disk_Clone_H (n : Nat) : Hints := ⟨[], fun _ => [], fun _ => none, fun _ => none⟩
def disk_Disk_Clone_O (n : Nat) : FuncId → List FSpec := asc [(38, ⟨maps_Clone_ins, maps_Clone_outs, maps_Clone n⟩)]
def b24 : Code := bodyOf Tryd.f24
theorem disk_Disk_Clone_ok {S : Nat → Addr} (ok : CfgOk P CC S) : ∀ n, SpecOk P CC S 24 ⟨disk_Disk_Clone_ins, disk_Disk_Clone_outs, disk_Disk_Clone n⟩ :=
  fn_all ok (O := disk_Disk_Clone_O) (H := disk_Disk_Clone_H) (fn := Tryd.f24) (body := b24) (by kernel_rfl) (by kernel_rfl) (by kernel_rfl) (by decide) (by kernel_rfl)
    (fun x => by kernel_rfl) (fun n => by
      rintro ⟨⟨⟨⟩, ⟨⟩⟩, ⟨⟨x1, ⟨⟩, ⟨⟩, x2, x3, x4, ⟨⟩⟩, x5, x6, ⟨⟩⟩⟩
      kernel_rfl)
    (fun n => obl_of (by kernel_rfl) (by kernel_rfl) (lz) (cn (cn (cn (cn (cz) (by kernel_rfl)) (by kernel_rfl)) (by kernel_rfl)) (by kernel_rfl)))
    (fun n ih => asc_cons (maps_Clone_ok ok n) <| asc_nil)
/-! ### (*pendulum/disk.Disk).Calls -/
abbrev disk_Disk_Calls_ins : Sh := ⟨[(.one (.ptr 0 0))], [(.obj 63 [(.val (.int .i64)), (.map 1), (.map 2), (.val (.int .i64)), (.val (.int .i64)), (.val .bool)]), (.map (.int .i64) ty0 false), (.map (.int .i64) ty0 false)]⟩
abbrev disk_Disk_Calls_outs : List Sh := [⟨[(.one (.val (.int .i64)))], [(.obj 63 [(.val (.int .i64)), (.map 1), (.map 2), (.val (.int .i64)), (.val (.int .i64)), (.val .bool)]), (.map (.int .i64) ty0 false), (.map (.int .i64) ty0 false)]⟩]
def disk_Disk_Calls : Nat → disk_Disk_Calls_ins.T → Option (OutsT disk_Disk_Calls_outs)
  | 0, _ => none
  | n + 1, ((_, _), ((x1, _, _, x2, x3, x4, _), m5, m6, _)) =>
    some ((x2, ()), ((x1, (), (), x2, x3, x4, ()), m5, m6, ()))
def disk_Disk_Calls_H (n : Nat) : Hints := ⟨[], fun _ => [], fun _ => none, fun _ => none⟩
def disk_Disk_Calls_O (n : Nat) : FuncId → List FSpec := asc []
def b17 : Code := bodyOf Tryd.f17
theorem disk_Disk_Calls_ok {S : Nat → Addr} (ok : CfgOk P CC S) : ∀ n, SpecOk P CC S 17 ⟨disk_Disk_Calls_ins, disk_Disk_Calls_outs, disk_Disk_Calls n⟩ :=
  fn_all ok (O := disk_Disk_Calls_O) (H := disk_Disk_Calls_H) (fn := Tryd.f17) (body := b17) (by kernel_rfl) (by kernel_rfl) (by kernel_rfl) (by decide) (by kernel_rfl)
    (fun x => by kernel_rfl) (fun n => by
      rintro ⟨⟨⟨⟩, ⟨⟩⟩, ⟨⟨x1, ⟨⟩, ⟨⟩, x2, x3, x4, ⟨⟩⟩, x5, x6, ⟨⟩⟩⟩
      kernel_rfl)
    (fun n => obl_of (by kernel_rfl) (by kernel_rfl) (lz) (cn (cn (cz) (by kernel_rfl)) (by kernel_rfl)))
    (fun n ih => asc_nil)
/-! ### (*pendulum/disk.Disk).Write -/
abbrev disk_Disk_Write_2_ins : Sh := ⟨[(.one (.ptr 0 0)), (.one (.val (.int .i64))), (.one (.val ty0))], [(.obj 63 [(.val (.int .i64)), (.map 1), (.map 2), (.val (.int .i64)), (.val (.int .i64)), (.val .bool)]), (.map (.int .i64) ty0 false), (.map (.int .i64) ty0 false)]⟩
abbrev disk_Disk_Write_2_outs : List Sh := [⟨[(.one (.val .err))], [(.obj 63 [(.val (.int .i64)), (.map 1), (.map 2), (.val (.int .i64)), (.val (.int .i64)), (.val .bool)]), (.map (.int .i64) ty0 false), (.map (.int .i64) ty0 false)]⟩]
def disk_Disk_Write_2 : Nat → disk_Disk_Write_2_ins.T → Option (OutsT disk_Disk_Write_2_outs)
  | 0, _ => none
  | n + 1, ((_, x1, x2, _), ((x3, _, _, x4, x5, x6, _), m7, m8, _)) =>
    match disk_Disk_up n (((), ()), ((x3, (), (), x4, x5, x6, ()), m7, m8, ())) with
    | some ((x9, _), ((x10, _, _, x11, x12, x13, _), m14, m15, _)) => (
      if !x9 then
        some ((ErrV.sent 119, ()), ((x10, (), (), x11, x12, x13, ()), m14, m15, ()))
      else
        if decide (x1 < 0) then
          some ((ErrV.sent 118, ()), ((x10, (), (), x11, x12, x13, ()), m14, m15, ()))
        else
          if decide (x1 ≥ x10) then
            some ((ErrV.sent 118, ()), ((x10, (), (), x11, x12, x13, ()), m14, m15, ()))
          else
            if decide ((x2.length : Int) > 128) then
              some ((ErrV.sent 103, ()), ((x10, (), (), x11, x12, x13, ()), m14, m15, ()))
            else
              match slices_Clone_byte_byte n ((x2, ()), ()) with
              | some ((_, _), (l16, _)) => (
                let v17 : Int := IntKind.i64.wrap (x11 + 1)
                some ((ErrV.nil, ()), ((x10, (), (), v17, x12, x13, ()), m14, mset (keyEq ((.int .i64) : Ty)) x1 l16 m15, ())))
              | none => none)
    | none => none
def disk_Disk_Write_2_H (n : Nat) : Hints := ⟨[], fun _ => [], fun _ => none, fun _ => none⟩
def disk_Disk_Write_2_O (n : Nat) : FuncId → List FSpec := asc [(33, ⟨disk_Disk_up_ins, disk_Disk_up_outs, disk_Disk_up n⟩), (34, ⟨slices_Clone_byte_byte_ins, slices_Clone_byte_byte_outs, slices_Clone_byte_byte n⟩)]
theorem disk_Disk_Write_2_ok {S : Nat → Addr} (ok : CfgOk P CC S) : ∀ n, SpecOk P CC S 14 ⟨disk_Disk_Write_2_ins, disk_Disk_Write_2_outs, disk_Disk_Write_2 n⟩ :=
  fn_all ok (O := disk_Disk_Write_2_O) (H := disk_Disk_Write_2_H) (fn := Tryd.f14) (body := b14) (by kernel_rfl) (by kernel_rfl) (by kernel_rfl) (by decide) (by kernel_rfl)
    (fun x => by kernel_rfl) (fun n => by
      rintro ⟨⟨⟨⟩, x1, x2, ⟨⟩⟩, ⟨⟨x3, ⟨⟩, ⟨⟩, x4, x5, x6, ⟨⟩⟩, x7, x8, ⟨⟩⟩⟩
      kernel_rfl)
    (fun n => obl_of (by kernel_rfl) (by kernel_rfl) (lz) (cn (cn (cn (cn (cn (cn (cn (cn (cn (cn (cn (cz) (by kernel_rfl)) (by kernel_rfl)) (by kernel_rfl)) (by kernel_rfl)) (by kernel_rfl)) (by kernel_rfl)) (by kernel_rfl)) (by kernel_rfl)) (by kernel_rfl)) (by kernel_rfl)) (by kernel_rfl)))
    (fun n ih => asc_cons (disk_Disk_up_ok ok n) <| asc_cons (slices_Clone_byte_byte_ok ok n) <| asc_nil)
/-! ### (*pendulum/pendulumref3.Disk).power -/
abbrev ref3_Disk_power_ins : Sh := ⟨[(.one (.ptr 0 0))], [(.obj 57 [(.val (.int .i64)), (.val (.int .i64)), (.emp true), (.emp true), (.val (.int .i64)), (.val .bool)])]⟩
abbrev ref3_Disk_power_outs : List Sh := [⟨[(.one (.val .bool))], [(.obj 57 [(.val (.int .i64)), (.val (.int .i64)), (.emp true), (.emp true), (.val (.int .i64)), (.val .bool)])]⟩]
def ref3_Disk_power : Nat → ref3_Disk_power_ins.T → Option (OutsT ref3_Disk_power_outs)
  | 0, _ => none
  | n + 1, ((_, _), ((x1, x2, _, _, x3, x4, _), _)) =>
    if x4 then
      some ((false, ()), ((x1, x2, (), (), x3, x4, ()), ()))
    else
      if decide (x3 > 0) then
        let v5 : Int := IntKind.i64.wrap (x3 - 1)
        if v5 == 0 then
          some ((false, ()), ((x1, x2, (), (), v5, true, ()), ()))
        else
          some ((true, ()), ((x1, x2, (), (), v5, x4, ()), ()))
      else
        some ((true, ()), ((x1, x2, (), (), x3, x4, ()), ()))
def ref3_Disk_power_H (n : Nat) : Hints := ⟨[], fun _ => [], fun _ => none, fun _ => none⟩
def ref3_Disk_power_O (n : Nat) : FuncId → List FSpec := asc []
def b39 : Code := bodyOf Tryd.f39
theorem ref3_Disk_power_ok {S : Nat → Addr} (ok : CfgOk P CC S) : ∀ n, SpecOk P CC S 39 ⟨ref3_Disk_power_ins, ref3_Disk_power_outs, ref3_Disk_power n⟩ :=
  fn_all ok (O := ref3_Disk_power_O) (H := ref3_Disk_power_H) (fn := Tryd.f39) (body := b39) (by kernel_rfl) (by kernel_rfl) (by kernel_rfl) (by decide) (by kernel_rfl)
    (fun x => by kernel_rfl) (fun n => by
      rintro ⟨⟨⟨⟩, ⟨⟩⟩, ⟨⟨x1, x2, ⟨⟩, ⟨⟩, x3, x4, ⟨⟩⟩, ⟨⟩⟩⟩
      kernel_rfl)
    (fun n => obl_of (by kernel_rfl) (by kernel_rfl) (lz) (cn (cn (cn (cn (cn (cn (cn (cn (cn (cn (cn (cz) (by kernel_rfl)) (by kernel_rfl)) (by kernel_rfl)) (by kernel_rfl)) (by kernel_rfl)) (by kernel_rfl)) (by kernel_rfl)) (by kernel_rfl)) (by kernel_rfl)) (by kernel_rfl)) (by kernel_rfl)))
    (fun n ih => asc_nil)
/-! ### pendulum/pendulumref.Bytes -/
abbrev ref_Bytes_ins : Sh := ⟨[(.one (.val ty0))], []⟩
abbrev ref_Bytes_outs : List Sh := [⟨[(.one (.arr 0))], [(.arr 5 (.int .u8))]⟩]
abbrev ref_Bytes_l3_h : Sh := ⟨[(.one (.val ty0)), (.one (.arr 0)), (.one (.val (.int .i64)))], [(.arr 5 (.int .u8))]⟩
abbrev ref_Bytes_l3_o : List Out := [⟨(.exit 0), [3], ⟨[(.one (.arr 0))], [(.arr 5 (.int .u8))]⟩⟩]
def ref_Bytes_l3 (n : Nat) : Nat → ref_Bytes_l3_h.T → Option (OutT ref_Bytes_l3_o)
  | 0, _ => none
  | k + 1, ((x1, _, x2, _), (l3, _)) =>
    if decide (x2 < (x1.length : Int)) then
      if 0 ≤ x2 ∧ x2 < (x1.length : Int) then (
        let v4 : Int := rdT ((.int .u8) : Ty) x1 x2
        if (l3.length + ([v4] : List ((.int .u8) : Ty).T).length) * 1 ≤ 140737488355328 then (
          let v5 : Int := IntKind.i64.wrap (x2 + 1)
          ref_Bytes_l3 n k ((x1, (), v5, ()), (l3 ++ [v4], ()))) else none) else none
    else
      some (.inl (((), ()), (l3, ())))
def ref_Bytes : Nat → ref_Bytes_ins.T → Option (OutsT ref_Bytes_outs)
  | 0, _ => none
  | n + 1, ((x1, _), _) =>
    if 0 ≤ (0 : Int) ∧ (0 : Int) ≤ (x1.length : Int) ∧ (x1.length : Int) * ((1 : Nat) : Int) ≤ 140737488355328 ∧ (x1.length : Int) ≤ 140737488355328 then (
      match ref_Bytes_l3 n n ((x1, (), 0, ()), (List.replicate (0 : Int).toNat 0, ())) with
      | some (.inl ((_, _), (l2, _))) => (
        some (((), ()), (l2, ())))
      | some (.inr (_)) => none
      | none => none) else none
def ref_Bytes_H (n : Nat) : Hints := ⟨[], fun _ => [], fun k => match k with | 3 => some ⟨[0, 3, 4], ref_Bytes_l3_h, ref_Bytes_l3_o, ref_Bytes_l3 n⟩ | _ => none, fun _ => none⟩
def ref_Bytes_O (n : Nat) : FuncId → List FSpec := asc []
def b23 : Code := bodyOf Tryd.f23
theorem ref_Bytes_l3_k0 (n : Nat) : LoopOk P CC (ref_Bytes_O n) n 0 22 (ref_Bytes_H n) ⟨[0, 3, 4], ref_Bytes_l3_h, ref_Bytes_l3_o, ref_Bytes_l3 n⟩ ((loopsOf b23).getD 0 .skip) := by
  refine ⟨fun _ => by kernel_rfl, ?_⟩
  rintro k ⟨⟨x1, ⟨⟩, x2, ⟨⟩⟩, ⟨x3, ⟨⟩⟩⟩
  kernel_rfl
theorem ref_Bytes_ok {S : Nat → Addr} (ok : CfgOk P CC S) : ∀ n, SpecOk P CC S 23 ⟨ref_Bytes_ins, ref_Bytes_outs, ref_Bytes n⟩ :=
  fn_all ok (O := ref_Bytes_O) (H := ref_Bytes_H) (fn := Tryd.f23) (body := b23) (by kernel_rfl) (by kernel_rfl) (by kernel_rfl) (by decide) (by kernel_rfl)
    (fun x => by kernel_rfl) (fun n => by
      rintro ⟨⟨x1, ⟨⟩⟩, ⟨⟩⟩
      kernel_rfl)
    (fun n => obl_of (by kernel_rfl) (by kernel_rfl) (ls (lz) (by kernel_rfl) (ref_Bytes_l3_k0 n)) (cn (cn (cn (cn (cn (cn (cn (cn (cz) (by kernel_rfl)) (by kernel_rfl)) (by kernel_rfl)) (by kernel_rfl)) (by kernel_rfl)) (by kernel_rfl)) (by kernel_rfl)) (by kernel_rfl)))
    (fun n ih => asc_nil)
/-! ### pendulum/pendulumref3.with -/
abbrev ref3_with_ins : Sh := ⟨[(.one (.arr 0)), (.agg [(.val (.int .i64)), (.val ty0)])], [(.arr 77 ty5)]⟩
abbrev ref3_with_outs : List Sh := [⟨[(.one (.val ty6))], [(.arr 77 ty5)]⟩]
abbrev ref3_with_c9_h : Sh := ⟨[(.one (.arr 0)), (.one (.ptr 1 0)), (.one (.arr 2)), (.one (.val .bool)), (.one (.val (.int .i64)))], [(.arr 77 ty5), (.obj 77 [(.val (.int .i64)), (.val ty0)]), (.arr 77 ty5)]⟩
abbrev ref3_with_c9_o : List Out := [⟨.normal, [0, 3, 5, 6, 7], ⟨[(.one (.arr 0)), (.one (.ptr 1 0)), (.one (.arr 2)), (.one (.val .bool)), (.one (.val (.int .i64)))], [(.arr 77 ty5), (.obj 77 [(.val (.int .i64)), (.val ty0)]), (.arr 77 ty5)]⟩⟩]
def ref3_with_c9 (n : Nat) : ref3_with_c9_h.T → Option (OutT ref3_with_c9_o)
  | ((_, _, _, x1, x2, _), (l3, (x4, x5, _), l6, _)) =>
    if !x1 then
      if 0 ≤ x2 ∧ x2 < (l3.length : Int) then (
        if decide ((rdT ty5 l3 x2).1 ≥ x4) then
          if (l6.length + ([(x4, x5)] : List ty5.T).length) * 32 ≤ 140737488355328 then (
            some (.inl (((), (), (), true, x2, ()), (l3, (x4, x5, ()), l6 ++ [(x4, x5)], ())))) else none
        else
          some (.inl (((), (), (), x1, x2, ()), (l3, (x4, x5, ()), l6, ())))) else none
    else
      some (.inl (((), (), (), x1, x2, ()), (l3, (x4, x5, ()), l6, ())))
abbrev ref3_with_l4_h : Sh := ⟨[(.one (.arr 0)), (.one (.ptr 1 0)), (.one (.arr 2)), (.one (.val .bool)), (.one (.val (.int .i64)))], [(.arr 77 ty5), (.obj 77 [(.val (.int .i64)), (.val ty0)]), (.arr 77 ty5)]⟩
abbrev ref3_with_l4_o : List Out := [⟨(.exit 0), [3, 5, 6], ⟨[(.one (.ptr 1 0)), (.one (.arr 2)), (.one (.val .bool))], [(.arr 77 ty5), (.obj 77 [(.val (.int .i64)), (.val ty0)]), (.arr 77 ty5)]⟩⟩]
def ref3_with_l4 (n : Nat) : Nat → ref3_with_l4_h.T → Option (OutT ref3_with_l4_o)
  | 0, _ => none
  | k + 1, ((_, _, _, x1, x2, _), (l3, (x4, x5, _), l6, _)) =>
    if decide (x2 < (l3.length : Int)) then
      match ref3_with_c9 n (((), (), (), x1, x2, ()), (l3, (x4, x5, ()), l6, ())) with
      | some (.inl ((_, _, _, x7, x8, _), (l9, (x10, x11, _), l12, _))) => (
        if 0 ≤ x8 ∧ x8 < (l9.length : Int) then (
          if (rdT ty5 l9 x8).1 != x10 then
            if 0 ≤ x8 ∧ x8 < (l9.length : Int) then (
              if (l12.length + ([(rdT ty5 l9 x8)] : List ty5.T).length) * 32 ≤ 140737488355328 then (
                let v13 : Int := IntKind.i64.wrap (x8 + 1)
                ref3_with_l4 n k (((), (), (), x7, v13, ()), (l9, (x10, x11, ()), l12 ++ [(rdT ty5 l9 x8)], ()))) else none) else none
          else
            let v14 : Int := IntKind.i64.wrap (x8 + 1)
            ref3_with_l4 n k (((), (), (), x7, v14, ()), (l9, (x10, x11, ()), l12, ()))) else none)
      | some (.inr (_)) => none
      | none => none
    else
      some (.inl (((), (), x1, ()), (l3, (x4, x5, ()), l6, ())))
def ref3_with : Nat → ref3_with_ins.T → Option (OutsT ref3_with_outs)
  | 0, _ => none
  | n + 1, ((_, (x1, x2, _), _), (l3, _)) =>
    match ref3_with_l4 n n (((), (), (), false, 0, ()), (l3, (x1, x2, ()), [], ())) with
    | some (.inl ((_, _, x4, _), (l5, (x6, x7, _), l8, _))) => (
      if !x4 then
        if (l8.length + ([(x6, x7)] : List ty5.T).length) * 32 ≤ 140737488355328 then (
          some ((l8 ++ [(x6, x7)], ()), (l5, ()))) else none
      else
        some ((l8, ()), (l5, ())))
    | some (.inr (_)) => none
    | none => none
def ref3_with_H (n : Nat) : Hints := ⟨[], fun _ => [], fun k => match k with | 4 => some ⟨[0, 3, 5, 6, 7], ref3_with_l4_h, ref3_with_l4_o, ref3_with_l4 n⟩ | _ => none, fun k => match k with | 9 => some ⟨[0, 3, 5, 6, 7], ref3_with_c9_h, ref3_with_c9_o, fun n => ref3_with_c9 n⟩ | _ => none⟩
def ref3_with_O (n : Nat) : FuncId → List FSpec := asc []
def b40 : Code := bodyOf Tryd.f40
theorem ref3_with_l4_k0 (n : Nat) : LoopOk P CC (ref3_with_O n) n 1 52 (ref3_with_H n) ⟨[0, 3, 5, 6, 7], ref3_with_l4_h, ref3_with_l4_o, ref3_with_l4 n⟩ ((loopsOf b40).getD 0 .skip) := by
  refine ⟨fun _ => by kernel_rfl, ?_⟩
  rintro k ⟨⟨⟨⟩, ⟨⟩, ⟨⟩, x1, x2, ⟨⟩⟩, ⟨x3, ⟨x4, x5, ⟨⟩⟩, x6, ⟨⟩⟩⟩
  kernel_rfl
theorem ref3_with_c9_k8 (n : Nat) : CutOk P CC (ref3_with_O n) n 1 52 (ref3_with_H n) ⟨[0, 3, 5, 6, 7], ref3_with_c9_h, ref3_with_c9_o, fun n => ref3_with_c9 n⟩ ((cutsOf b40).getD 8 (0, .skip)).2 := by
  rintro ⟨⟨⟨⟩, ⟨⟩, ⟨⟩, x1, x2, ⟨⟩⟩, ⟨x3, ⟨x4, x5, ⟨⟩⟩, x6, ⟨⟩⟩⟩
  kernel_rfl
theorem ref3_with_ok {S : Nat → Addr} (ok : CfgOk P CC S) : ∀ n, SpecOk P CC S 40 ⟨ref3_with_ins, ref3_with_outs, ref3_with n⟩ :=
  fn_all ok (O := ref3_with_O) (H := ref3_with_H) (fn := Tryd.f40) (body := b40) (by kernel_rfl) (by kernel_rfl) (by kernel_rfl) (by decide) (by kernel_rfl)
    (fun x => by kernel_rfl) (fun n => by
      rintro ⟨⟨⟨⟩, ⟨x1, x2, ⟨⟩⟩, ⟨⟩⟩, ⟨x3, ⟨⟩⟩⟩
      kernel_rfl)
    (fun n => obl_of (by kernel_rfl) (by kernel_rfl) (ls (lz) (by kernel_rfl) (ref3_with_l4_k0 n)) (cn (cn (cn (cn (cn (cn (cs (cn (cn (cn (cn (cn (cn (cn (cn (cz) (by kernel_rfl)) (by kernel_rfl)) (by kernel_rfl)) (by kernel_rfl)) (by kernel_rfl)) (by kernel_rfl)) (by kernel_rfl)) (by kernel_rfl)) (by kernel_rfl) (ref3_with_c9_k8 n)) (by kernel_rfl)) (by kernel_rfl)) (by kernel_rfl)) (by kernel_rfl)) (by kernel_rfl)) (by kernel_rfl)))
    (fun n ih => asc_nil)
/-! ### (*pendulum/pendulumref3.Disk).Write -/
abbrev ref3_Disk_Write_ins : Sh := ⟨[(.one (.ptr 0 0)), (.one (.val (.int .i64))), (.one (.val ty0))], [(.obj 57 [(.val (.int .i64)), (.val (.int .i64)), (.emp true), (.emp true), (.val (.int .i64)), (.val .bool)])]⟩
abbrev ref3_Disk_Write_outs : List Sh := [⟨[(.one (.val (.int .i64)))], [(.obj 57 [(.val (.int .i64)), (.val (.int .i64)), (.emp true), (.val ty6), (.val (.int .i64)), (.val .bool)])]⟩]
def ref3_Disk_Write : Nat → ref3_Disk_Write_ins.T → Option (OutsT ref3_Disk_Write_outs)
  | 0, _ => none
  | n + 1, ((_, x1, x2, _), ((x3, x4, _, _, x5, x6, _), _)) =>
    match ref3_Disk_power n (((), ()), ((x3, x4, (), (), x5, x6, ()), ())) with
    | some ((x7, _), ((x8, x9, _, _, x10, x11, _), _)) => (
      if !x7 then
        some ((119, ()), ((x8, x9, (), [], x10, x11, ()), ()))
      else
        if decide (x1 < 0) then
          some ((118, ()), ((x8, x9, (), [], x10, x11, ()), ()))
        else
          if decide (x1 ≥ x8) then
            some ((118, ()), ((x8, x9, (), [], x10, x11, ()), ()))
          else
            if decide ((x2.length : Int) > 128) then
              some ((103, ()), ((x8, x9, (), [], x10, x11, ()), ()))
            else
              match ref_Bytes n ((x2, ()), ()) with
              | some ((_, _), (l12, _)) => (
                match ref3_with n (((), (x1, l12, ()), ()), ([], ())) with
                | some ((x13, _), (l14, _)) => (
                  let v15 : Int := IntKind.i64.wrap (x9 + 1)
                  some ((0, ()), ((x8, v15, (), x13, x10, x11, ()), ())))
                | none => none)
              | none => none)
    | none => none
def ref3_Disk_Write_H (n : Nat) : Hints := ⟨[], fun _ => [], fun _ => none, fun _ => none⟩
def ref3_Disk_Write_O (n : Nat) : FuncId → List FSpec := asc [(23, ⟨ref_Bytes_ins, ref_Bytes_outs, ref_Bytes n⟩), (39, ⟨ref3_Disk_power_ins, ref3_Disk_power_outs, ref3_Disk_power n⟩), (40, ⟨ref3_with_ins, ref3_with_outs, ref3_with n⟩)]
def b26 : Code := bodyOf Tryd.f26
theorem ref3_Disk_Write_ok {S : Nat → Addr} (ok : CfgOk P CC S) : ∀ n, SpecOk P CC S 26 ⟨ref3_Disk_Write_ins, ref3_Disk_Write_outs, ref3_Disk_Write n⟩ :=
  fn_all ok (O := ref3_Disk_Write_O) (H := ref3_Disk_Write_H) (fn := Tryd.f26) (body := b26) (by kernel_rfl) (by kernel_rfl) (by kernel_rfl) (by decide) (by kernel_rfl)
    (fun x => by kernel_rfl) (fun n => by
      rintro ⟨⟨⟨⟩, x1, x2, ⟨⟩⟩, ⟨⟨x3, x4, ⟨⟩, ⟨⟩, x5, x6, ⟨⟩⟩, ⟨⟩⟩⟩
      kernel_rfl)
    (fun n => obl_of (by kernel_rfl) (by kernel_rfl) (lz) (cn (cn (cn (cn (cn (cn (cn (cn (cn (cn (cn (cn (cn (cz) (by kernel_rfl)) (by kernel_rfl)) (by kernel_rfl)) (by kernel_rfl)) (by kernel_rfl)) (by kernel_rfl)) (by kernel_rfl)) (by kernel_rfl)) (by kernel_rfl)) (by kernel_rfl)) (by kernel_rfl)) (by kernel_rfl)) (by kernel_rfl)))
    (fun n ih => asc_cons (ref_Bytes_ok ok n) <| asc_cons (ref3_Disk_power_ok ok n) <| asc_cons (ref3_with_ok ok n) <| asc_nil)
/-! ### maps.Copy[map[int][]byte,map[int][]byte,int,[]byte] (by hand) -/
abbrev maps_Copy_ins : Sh := ⟨[(.one (.map 0)), (.one (.map 1))], [(.map (.int .i64) ty0 false), (.map (.int .i64) ty0 false)]⟩
abbrev maps_Copy_outs : List Sh := [⟨[(.tup [])], [(.map (.int .i64) ty0 false), (.map (.int .i64) ty0 false)]⟩]
def maps_Copy : Nat → maps_Copy_ins.T → Option (OutsT maps_Copy_outs) := fun _ => copySem ty0 false
theorem maps_Copy_ok {S : Nat → Addr} (ok : CfgOk P CC S) : ∀ n, SpecOk P CC S 35 ⟨maps_Copy_ins, maps_Copy_outs, maps_Copy n⟩ := fun n => copy_spec (ty := 3) (vT := 32) ⟨Tryd.f35, by kernel_rfl, by kernel_rfl, by kernel_rfl⟩ (by kernel_rfl) Sq.copy_calls
/-! ### (*pendulum/disk.Disk).Flush -/
abbrev disk_Disk_Flush_ins : Sh := ⟨[(.one (.ptr 0 0))], [(.obj 63 [(.val (.int .i64)), (.map 1), (.map 2), (.val (.int .i64)), (.val (.int .i64)), (.val .bool)]), (.map (.int .i64) ty0 false), (.map (.int .i64) ty0 false)]⟩
abbrev disk_Disk_Flush_outs : List Sh := [⟨[(.one (.val .err))], [(.obj 63 [(.val (.int .i64)), (.map 1), (.map 2), (.val (.int .i64)), (.val (.int .i64)), (.val .bool)]), (.map (.int .i64) ty0 false), (.map (.int .i64) ty0 false)]⟩]
def disk_Disk_Flush : Nat → disk_Disk_Flush_ins.T → Option (OutsT disk_Disk_Flush_outs)
  | 0, _ => none
  | n + 1, ((_, _), ((x1, _, _, x2, x3, x4, _), m5, m6, _)) =>
    match disk_Disk_up n (((), ()), ((x1, (), (), x2, x3, x4, ()), m5, m6, ())) with
    | some ((x7, _), ((x8, _, _, x9, x10, x11, _), m12, m13, _)) => (
      if !x7 then
        some ((ErrV.sent 119, ()), ((x8, (), (), x9, x10, x11, ()), m12, m13, ()))
      else
        match maps_Copy n (((), (), ()), (m12, m13, ())) with
        | some ((_, _), (m14, m15, _)) => (
          let v16 : Int := IntKind.i64.wrap (x9 + 1)
          some ((ErrV.nil, ()), ((x8, (), (), v16, x10, x11, ()), m14, [], ())))
        | none => none)
    | none => none
def disk_Disk_Flush_H (n : Nat) : Hints := ⟨[], fun _ => [], fun _ => none, fun _ => none⟩
def disk_Disk_Flush_O (n : Nat) : FuncId → List FSpec := asc [(33, ⟨disk_Disk_up_ins, disk_Disk_up_outs, disk_Disk_up n⟩), (35, ⟨maps_Copy_ins, maps_Copy_outs, maps_Copy n⟩)]
def b18 : Code := bodyOf Tryd.f18
theorem disk_Disk_Flush_ok {S : Nat → Addr} (ok : CfgOk P CC S) : ∀ n, SpecOk P CC S 18 ⟨disk_Disk_Flush_ins, disk_Disk_Flush_outs, disk_Disk_Flush n⟩ :=
  fn_all ok (O := disk_Disk_Flush_O) (H := disk_Disk_Flush_H) (fn := Tryd.f18) (body := b18) (by kernel_rfl) (by kernel_rfl) (by kernel_rfl) (by decide) (by kernel_rfl)
    (fun x => by kernel_rfl) (fun n => by
      rintro ⟨⟨⟨⟩, ⟨⟩⟩, ⟨⟨x1, ⟨⟩, ⟨⟩, x2, x3, x4, ⟨⟩⟩, x5, x6, ⟨⟩⟩⟩
      kernel_rfl)
    (fun n => obl_of (by kernel_rfl) (by kernel_rfl) (lz) (cn (cn (cn (cn (cn (cn (cn (cn (cz) (by kernel_rfl)) (by kernel_rfl)) (by kernel_rfl)) (by kernel_rfl)) (by kernel_rfl)) (by kernel_rfl)) (by kernel_rfl)) (by kernel_rfl)))
    (fun n ih => asc_cons (disk_Disk_up_ok ok n) <| asc_cons (maps_Copy_ok ok n) <| asc_nil)
/-! ### (*pendulum/pendulumref3.Disk).Flush -/
abbrev ref3_Disk_Flush_ins : Sh := ⟨[(.one (.ptr 0 0))], [(.obj 57 [(.val (.int .i64)), (.val (.int .i64)), (.emp true), (.emp true), (.val (.int .i64)), (.val .bool)])]⟩
abbrev ref3_Disk_Flush_outs : List Sh := [⟨[(.one (.val (.int .i64)))], [(.obj 57 [(.val (.int .i64)), (.val (.int .i64)), (.emp true), (.emp true), (.val (.int .i64)), (.val .bool)])]⟩]
abbrev ref3_Disk_Flush_l4_h : Sh := ⟨[(.one (.ptr 0 0)), (.one (.val (.int .i64)))], [(.obj 57 [(.val (.int .i64)), (.val (.int .i64)), (.emp true), (.emp true), (.val (.int .i64)), (.val .bool)])]⟩
abbrev ref3_Disk_Flush_l4_o : List Out := [⟨(.exit 0), [0], ⟨[(.one (.ptr 0 0))], [(.obj 57 [(.val (.int .i64)), (.val (.int .i64)), (.emp true), (.emp true), (.val (.int .i64)), (.val .bool)])]⟩⟩]
def ref3_Disk_Flush_l4 (n : Nat) : Nat → ref3_Disk_Flush_l4_h.T → Option (OutT ref3_Disk_Flush_l4_o)
  | 0, _ => none
  | k + 1, ((_, x1, _), ((x2, x3, _, _, x4, x5, _), _)) =>
    if decide (x1 < 0) then
      none
    else
      some (.inl (((), ()), ((x2, x3, (), (), x4, x5, ()), ())))
def ref3_Disk_Flush : Nat → ref3_Disk_Flush_ins.T → Option (OutsT ref3_Disk_Flush_outs)
  | 0, _ => none
  | n + 1, ((_, _), ((x1, x2, _, _, x3, x4, _), _)) =>
    match ref3_Disk_power n (((), ()), ((x1, x2, (), (), x3, x4, ()), ())) with
    | some ((x5, _), ((x6, x7, _, _, x8, x9, _), _)) => (
      if !x5 then
        some ((119, ()), ((x6, x7, (), (), x8, x9, ()), ()))
      else
        match ref3_Disk_Flush_l4 n n (((), 0, ()), ((x6, x7, (), (), x8, x9, ()), ())) with
        | some (.inl ((_, _), ((x10, x11, _, _, x12, x13, _), _))) => (
          let v14 : Int := IntKind.i64.wrap (x11 + 1)
          some ((0, ()), ((x10, v14, (), (), x12, x13, ()), ())))
        | some (.inr (_)) => none
        | none => none)
    | none => none
def ref3_Disk_Flush_H (n : Nat) : Hints := ⟨[], fun _ => [], fun k => match k with | 4 => some ⟨[0, 3], ref3_Disk_Flush_l4_h, ref3_Disk_Flush_l4_o, ref3_Disk_Flush_l4 n⟩ | _ => none, fun _ => none⟩
def ref3_Disk_Flush_O (n : Nat) : FuncId → List FSpec := asc [(39, ⟨ref3_Disk_power_ins, ref3_Disk_power_outs, ref3_Disk_power n⟩)]
def b27 : Code := bodyOf Tryd.f27
theorem ref3_Disk_Flush_l4_k0 (n : Nat) : LoopOk P CC (ref3_Disk_Flush_O n) n 1 42 (ref3_Disk_Flush_H n) ⟨[0, 3], ref3_Disk_Flush_l4_h, ref3_Disk_Flush_l4_o, ref3_Disk_Flush_l4 n⟩ ((loopsOf b27).getD 0 .skip) := by
  refine ⟨fun _ => by kernel_rfl, ?_⟩
  rintro k ⟨⟨⟨⟩, x1, ⟨⟩⟩, ⟨⟨x2, x3, ⟨⟩, ⟨⟩, x4, x5, ⟨⟩⟩, ⟨⟩⟩⟩
  kernel_rfl
theorem ref3_Disk_Flush_ok {S : Nat → Addr} (ok : CfgOk P CC S) : ∀ n, SpecOk P CC S 27 ⟨ref3_Disk_Flush_ins, ref3_Disk_Flush_outs, ref3_Disk_Flush n⟩ :=
  fn_all ok (O := ref3_Disk_Flush_O) (H := ref3_Disk_Flush_H) (fn := Tryd.f27) (body := b27) (by kernel_rfl) (by kernel_rfl) (by kernel_rfl) (by decide) (by kernel_rfl)
    (fun x => by kernel_rfl) (fun n => by
      rintro ⟨⟨⟨⟩, ⟨⟩⟩, ⟨⟨x1, x2, ⟨⟩, ⟨⟩, x3, x4, ⟨⟩⟩, ⟨⟩⟩⟩
      kernel_rfl)
    (fun n => obl_of (by kernel_rfl) (by kernel_rfl) (ls (lz) (by kernel_rfl) (ref3_Disk_Flush_l4_k0 n)) (cn (cn (cn (cn (cn (cn (cn (cn (cn (cn (cn (cn (cz) (by kernel_rfl)) (by kernel_rfl)) (by kernel_rfl)) (by kernel_rfl)) (by kernel_rfl)) (by kernel_rfl)) (by kernel_rfl)) (by kernel_rfl)) (by kernel_rfl)) (by kernel_rfl)) (by kernel_rfl)) (by kernel_rfl)))
    (fun n ih => asc_cons (ref3_Disk_power_ok ok n) <| asc_nil)
/-! ### (*pendulum/disk.Disk).Arm -/
abbrev disk_Disk_Arm_ins : Sh := ⟨[(.one (.ptr 0 0)), (.one (.val (.int .i64)))], [(.obj 63 [(.val (.int .i64)), (.map 1), (.map 2), (.val (.int .i64)), (.val (.int .i64)), (.val .bool)]), (.map (.int .i64) ty0 false), (.map (.int .i64) ty0 false)]⟩
abbrev disk_Disk_Arm_outs : List Sh := [⟨[(.tup [])], [(.obj 63 [(.val (.int .i64)), (.map 1), (.map 2), (.val (.int .i64)), (.val (.int .i64)), (.val .bool)]), (.map (.int .i64) ty0 false), (.map (.int .i64) ty0 false)]⟩]
def disk_Disk_Arm : Nat → disk_Disk_Arm_ins.T → Option (OutsT disk_Disk_Arm_outs)
  | 0, _ => none
  | n + 1, ((_, x1, _), ((x2, _, _, x3, x4, x5, _), m6, m7, _)) =>
    some (((), ()), ((x2, (), (), x3, mx x1 0, x5, ()), m6, m7, ()))
def disk_Disk_Arm_H (n : Nat) : Hints := ⟨[], fun _ => [], fun _ => none, fun _ => none⟩
def disk_Disk_Arm_O (n : Nat) : FuncId → List FSpec := asc []
def b21 : Code := bodyOf Tryd.f21
theorem disk_Disk_Arm_ok {S : Nat → Addr} (ok : CfgOk P CC S) : ∀ n, SpecOk P CC S 21 ⟨disk_Disk_Arm_ins, disk_Disk_Arm_outs, disk_Disk_Arm n⟩ :=
  fn_all ok (O := disk_Disk_Arm_O) (H := disk_Disk_Arm_H) (fn := Tryd.f21) (body := b21) (by kernel_rfl) (by kernel_rfl) (by kernel_rfl) (by decide) (by kernel_rfl)
    (fun x => by kernel_rfl) (fun n => by
      rintro ⟨⟨⟨⟩, x1, ⟨⟩⟩, ⟨⟨x2, ⟨⟩, ⟨⟩, x3, x4, x5, ⟨⟩⟩, x6, x7, ⟨⟩⟩⟩
      kernel_rfl)
    (fun n => obl_of (by kernel_rfl) (by kernel_rfl) (lz) (cz))
    (fun n ih => asc_nil)
/-! ### (*pendulum/pendulumref3.Disk).Arm -/
abbrev ref3_Disk_Arm_ins : Sh := ⟨[(.one (.ptr 0 0)), (.one (.val (.int .i64)))], [(.obj 57 [(.val (.int .i64)), (.val (.int .i64)), (.emp true), (.emp true), (.val (.int .i64)), (.val .bool)])]⟩
abbrev ref3_Disk_Arm_outs : List Sh := [⟨[(.tup [])], [(.obj 57 [(.val (.int .i64)), (.val (.int .i64)), (.emp true), (.emp true), (.val (.int .i64)), (.val .bool)])]⟩]
def ref3_Disk_Arm : Nat → ref3_Disk_Arm_ins.T → Option (OutsT ref3_Disk_Arm_outs)
  | 0, _ => none
  | n + 1, ((_, x1, _), ((x2, x3, _, _, x4, x5, _), _)) =>
    some (((), ()), ((x2, x3, (), (), mx x1 0, x5, ()), ()))
def ref3_Disk_Arm_H (n : Nat) : Hints := ⟨[], fun _ => [], fun _ => none, fun _ => none⟩
def ref3_Disk_Arm_O (n : Nat) : FuncId → List FSpec := asc []
def b28 : Code := bodyOf Tryd.f28
theorem ref3_Disk_Arm_ok {S : Nat → Addr} (ok : CfgOk P CC S) : ∀ n, SpecOk P CC S 28 ⟨ref3_Disk_Arm_ins, ref3_Disk_Arm_outs, ref3_Disk_Arm n⟩ :=
  fn_all ok (O := ref3_Disk_Arm_O) (H := ref3_Disk_Arm_H) (fn := Tryd.f28) (body := b28) (by kernel_rfl) (by kernel_rfl) (by kernel_rfl) (by decide) (by kernel_rfl)
    (fun x => by kernel_rfl) (fun n => by
      rintro ⟨⟨⟨⟩, x1, ⟨⟩⟩, ⟨⟨x2, x3, ⟨⟩, ⟨⟩, x4, x5, ⟨⟩⟩, ⟨⟩⟩⟩
      kernel_rfl)
    (fun n => obl_of (by kernel_rfl) (by kernel_rfl) (lz) (cz))
    (fun n ih => asc_nil)
/-! ### (*pendulum/disk.Disk).Crash -/
abbrev disk_Disk_Crash_2_ins : Sh := ⟨[(.one (.ptr 0 0)), (.one (.val ty4))], [(.obj 63 [(.val (.int .i64)), (.map 1), (.map 2), (.val (.int .i64)), (.val (.int .i64)), (.val .bool)]), (.map (.int .i64) ty0 false), (.map (.int .i64) ty0 false)]⟩
abbrev disk_Disk_Crash_2_outs : List Sh := [⟨[(.tup [])], [(.obj 63 [(.val (.int .i64)), (.map 1), (.map 2), (.val (.int .i64)), (.val (.int .i64)), (.val .bool)]), (.map (.int .i64) ty0 false), (.map (.int .i64) ty0 false)]⟩]
abbrev disk_Disk_Crash_2_l1_h : Sh := ⟨[(.one (.ptr 0 0)), (.one (.val ty4)), (.one (.arr 3)), (.one (.val (.int .i64))), (.one (.val (.int .i64)))], [(.obj 63 [(.val (.int .i64)), (.map 1), (.map 2), (.val (.int .i64)), (.val (.int .i64)), (.val .bool)]), (.map (.int .i64) ty0 false), (.map (.int .i64) ty0 false), (.arr 3 (.int .i64))]⟩
abbrev disk_Disk_Crash_2_l1_o : List Out := [⟨(.exit 0), [0], ⟨[(.one (.ptr 0 0))], [(.obj 63 [(.val (.int .i64)), (.map 1), (.map 2), (.val (.int .i64)), (.val (.int .i64)), (.val .bool)]), (.map (.int .i64) ty0 false), (.map (.int .i64) ty0 false)]⟩⟩]
def disk_Disk_Crash_2_l1 (n : Nat) : Nat → disk_Disk_Crash_2_l1_h.T → Option (OutT disk_Disk_Crash_2_l1_o)
  | 0, _ => none
  | k + 1, ((_, x1, _, x2, x3, _), ((x4, _, _, x5, x6, x7, _), m8, m9, l10, _)) =>
    if decide (x3 < x2) then
      if 0 ≤ x3 ∧ x3 < (l10.length : Int) then (
        let v11 : Int := rdT ((.int .i64) : Ty) l10 x3
        if decide (x3 < (x1.length : Int)) then
          if 0 ≤ x3 ∧ x3 < (x1.length : Int) then (
            let v12 : Int := rdT ((.int .i64) : Ty) x1 x3
            if bitsOp .and .i64 v12 1 == 1 then
              let v13 : List Int := (mfind (keyEq ((.int .i64) : Ty)) v11 m9).getD []
              let v14 : Int := IntKind.i64.wrap (x3 + 1)
              disk_Disk_Crash_2_l1 n k (((), x1, (), x2, v14, ()), ((x4, (), (), x5, x6, x7, ()), mset (keyEq ((.int .i64) : Ty)) v11 v13 m8, m9, l10, ()))
            else
              let v15 : Int := IntKind.i64.wrap (x3 + 1)
              disk_Disk_Crash_2_l1 n k (((), x1, (), x2, v15, ()), ((x4, (), (), x5, x6, x7, ()), m8, m9, l10, ()))) else none
        else
          let v16 : Int := IntKind.i64.wrap (x3 + 1)
          disk_Disk_Crash_2_l1 n k (((), x1, (), x2, v16, ()), ((x4, (), (), x5, x6, x7, ()), m8, m9, l10, ()))) else none
    else
      some (.inl (((), ()), ((x4, (), (), x5, x6, x7, ()), m8, m9, ())))
def disk_Disk_Crash_2 : Nat → disk_Disk_Crash_2_ins.T → Option (OutsT disk_Disk_Crash_2_outs)
  | 0, _ => none
  | n + 1, ((_, x1, _), ((x2, _, _, x3, x4, x5, _), m6, m7, _)) =>
    match maps_Keys_map_int_byte_int_byte n (((), ()), (m7, ())) with
    | some ((_, _), (m8, (_, _), _)) => (
      match slices_Sorted_int n (((), ()), (((), ()), m8, ())) with
      | some ((_, _), ((_, _), m9, l10, _)) => (
        match disk_Disk_Crash_2_l1 n n (((), x1, (), (l10.length : Int), 0, ()), ((x2, (), (), x3, x4, x5, ()), m6, m9, l10, ())) with
        | some (.inl ((_, _), ((x11, _, _, x12, x13, x14, _), m15, m16, _))) => (
          some (((), ()), ((x11, (), (), x12, 0, false, ()), m15, [], ())))
        | some (.inr (_)) => none
        | none => none)
      | none => none)
    | none => none
def disk_Disk_Crash_2_H (n : Nat) : Hints := ⟨[], fun _ => [], fun k => match k with | 1 => some ⟨[0, 1, 11, 12, 13], disk_Disk_Crash_2_l1_h, disk_Disk_Crash_2_l1_o, disk_Disk_Crash_2_l1 n⟩ | _ => none, fun _ => none⟩
def disk_Disk_Crash_2_O (n : Nat) : FuncId → List FSpec := asc [(36, ⟨slices_Sorted_int_ins, slices_Sorted_int_outs, slices_Sorted_int n⟩), (37, ⟨maps_Keys_map_int_byte_int_byte_ins, maps_Keys_map_int_byte_int_byte_outs, maps_Keys_map_int_byte_int_byte n⟩)]
theorem disk_Disk_Crash_2_l1_k0 (n : Nat) : LoopOk P CC (disk_Disk_Crash_2_O n) n 3 52 (disk_Disk_Crash_2_H n) ⟨[0, 1, 11, 12, 13], disk_Disk_Crash_2_l1_h, disk_Disk_Crash_2_l1_o, disk_Disk_Crash_2_l1 n⟩ ((loopsOf b19).getD 0 .skip) := by
  refine ⟨fun _ => by kernel_rfl, ?_⟩
  rintro k ⟨⟨⟨⟩, x1, ⟨⟩, x2, x3, ⟨⟩⟩, ⟨⟨x4, ⟨⟩, ⟨⟩, x5, x6, x7, ⟨⟩⟩, x8, x9, x10, ⟨⟩⟩⟩
  kernel_rfl
theorem disk_Disk_Crash_2_ok {S : Nat → Addr} (ok : CfgOk P CC S) : ∀ n, SpecOk P CC S 19 ⟨disk_Disk_Crash_2_ins, disk_Disk_Crash_2_outs, disk_Disk_Crash_2 n⟩ :=
  fn_all ok (O := disk_Disk_Crash_2_O) (H := disk_Disk_Crash_2_H) (fn := Tryd.f19) (body := b19) (by kernel_rfl) (by kernel_rfl) (by kernel_rfl) (by decide) (by kernel_rfl)
    (fun x => by kernel_rfl) (fun n => by
      rintro ⟨⟨⟨⟩, x1, ⟨⟩⟩, ⟨⟨x2, ⟨⟩, ⟨⟩, x3, x4, x5, ⟨⟩⟩, x6, x7, ⟨⟩⟩⟩
      kernel_rfl)
    (fun n => obl_of (by kernel_rfl) (by kernel_rfl) (ls (lz) (by kernel_rfl) (disk_Disk_Crash_2_l1_k0 n)) (cn (cn (cn (cn (cn (cn (cn (cn (cz) (by kernel_rfl)) (by kernel_rfl)) (by kernel_rfl)) (by kernel_rfl)) (by kernel_rfl)) (by kernel_rfl)) (by kernel_rfl)) (by kernel_rfl)))
    (fun n ih => asc_cons (slices_Sorted_int_ok ok n) <| asc_cons (maps_Keys_map_int_byte_int_byte_ok ok n) <| asc_nil)
/-! ### (*pendulum/pendulumref3.Disk).Crash -/
abbrev ref3_Disk_Crash_ins : Sh := ⟨[(.one (.ptr 0 0)), (.one (.val ty4))], [(.obj 57 [(.val (.int .i64)), (.val (.int .i64)), (.emp true), (.emp true), (.val (.int .i64)), (.val .bool)])]⟩
abbrev ref3_Disk_Crash_outs : List Sh := [⟨[(.tup [])], [(.obj 57 [(.val (.int .i64)), (.val (.int .i64)), (.emp true), (.emp true), (.val (.int .i64)), (.val .bool)])]⟩]
abbrev ref3_Disk_Crash_l1_h : Sh := ⟨[(.one (.ptr 0 0)), (.one (.val ty4)), (.one (.val (.int .i64)))], [(.obj 57 [(.val (.int .i64)), (.val (.int .i64)), (.emp true), (.emp true), (.val (.int .i64)), (.val .bool)])]⟩
abbrev ref3_Disk_Crash_l1_o : List Out := [⟨(.exit 0), [0], ⟨[(.one (.ptr 0 0))], [(.obj 57 [(.val (.int .i64)), (.val (.int .i64)), (.emp true), (.emp true), (.val (.int .i64)), (.val .bool)])]⟩⟩]
def ref3_Disk_Crash_l1 (n : Nat) : Nat → ref3_Disk_Crash_l1_h.T → Option (OutT ref3_Disk_Crash_l1_o)
  | 0, _ => none
  | k + 1, ((_, x1, x2, _), ((x3, x4, _, _, x5, x6, _), _)) =>
    if decide (x2 < 0) then
      if decide (x2 < (x1.length : Int)) then
        if 0 ≤ x2 ∧ x2 < (x1.length : Int) then (
          let v7 : Int := rdT ((.int .i64) : Ty) x1 x2
          if bitsOp .and .i64 v7 1 == 1 then
            none
          else
            let v8 : Int := IntKind.i64.wrap (x2 + 1)
            ref3_Disk_Crash_l1 n k (((), x1, v8, ()), ((x3, x4, (), (), x5, x6, ()), ()))) else none
      else
        let v9 : Int := IntKind.i64.wrap (x2 + 1)
        ref3_Disk_Crash_l1 n k (((), x1, v9, ()), ((x3, x4, (), (), x5, x6, ()), ()))
    else
      some (.inl (((), ()), ((x3, x4, (), (), x5, x6, ()), ())))
def ref3_Disk_Crash : Nat → ref3_Disk_Crash_ins.T → Option (OutsT ref3_Disk_Crash_outs)
  | 0, _ => none
  | n + 1, ((_, x1, _), ((x2, x3, _, _, x4, x5, _), _)) =>
    match ref3_Disk_Crash_l1 n n (((), x1, 0, ()), ((x2, x3, (), (), x4, x5, ()), ())) with
    | some (.inl ((_, _), ((x6, x7, _, _, x8, x9, _), _))) => (
      some (((), ()), ((x6, x7, (), (), 0, false, ()), ())))
    | some (.inr (_)) => none
    | none => none
def ref3_Disk_Crash_H (n : Nat) : Hints := ⟨[], fun _ => [], fun k => match k with | 1 => some ⟨[0, 1, 4], ref3_Disk_Crash_l1_h, ref3_Disk_Crash_l1_o, ref3_Disk_Crash_l1 n⟩ | _ => none, fun _ => none⟩
def ref3_Disk_Crash_O (n : Nat) : FuncId → List FSpec := asc []
def b29 : Code := bodyOf Tryd.f29
theorem ref3_Disk_Crash_l1_k0 (n : Nat) : LoopOk P CC (ref3_Disk_Crash_O n) n 1 50 (ref3_Disk_Crash_H n) ⟨[0, 1, 4], ref3_Disk_Crash_l1_h, ref3_Disk_Crash_l1_o, ref3_Disk_Crash_l1 n⟩ ((loopsOf b29).getD 0 .skip) := by
  refine ⟨fun _ => by kernel_rfl, ?_⟩
  rintro k ⟨⟨⟨⟩, x1, x2, ⟨⟩⟩, ⟨⟨x3, x4, ⟨⟩, ⟨⟩, x5, x6, ⟨⟩⟩, ⟨⟩⟩⟩
  kernel_rfl
theorem ref3_Disk_Crash_ok {S : Nat → Addr} (ok : CfgOk P CC S) : ∀ n, SpecOk P CC S 29 ⟨ref3_Disk_Crash_ins, ref3_Disk_Crash_outs, ref3_Disk_Crash n⟩ :=
  fn_all ok (O := ref3_Disk_Crash_O) (H := ref3_Disk_Crash_H) (fn := Tryd.f29) (body := b29) (by kernel_rfl) (by kernel_rfl) (by kernel_rfl) (by decide) (by kernel_rfl)
    (fun x => by kernel_rfl) (fun n => by
      rintro ⟨⟨⟨⟩, x1, ⟨⟩⟩, ⟨⟨x2, x3, ⟨⟩, ⟨⟩, x4, x5, ⟨⟩⟩, ⟨⟩⟩⟩
      kernel_rfl)
    (fun n => obl_of (by kernel_rfl) (by kernel_rfl) (ls (lz) (by kernel_rfl) (ref3_Disk_Crash_l1_k0 n)) (cn (cn (cn (cn (cn (cn (cn (cn (cz) (by kernel_rfl)) (by kernel_rfl)) (by kernel_rfl)) (by kernel_rfl)) (by kernel_rfl)) (by kernel_rfl)) (by kernel_rfl)) (by kernel_rfl)))
    (fun n ih => asc_nil)
/-! ### (*pendulum/disk.Disk).Sectors -/
abbrev disk_Disk_Sectors_ins : Sh := ⟨[(.one (.ptr 0 0))], [(.obj 63 [(.val (.int .i64)), (.map 1), (.map 2), (.val (.int .i64)), (.val (.int .i64)), (.val .bool)]), (.map (.int .i64) ty0 false), (.map (.int .i64) ty0 false)]⟩
abbrev disk_Disk_Sectors_outs : List Sh := [⟨[(.one (.val (.int .i64)))], [(.obj 63 [(.val (.int .i64)), (.map 1), (.map 2), (.val (.int .i64)), (.val (.int .i64)), (.val .bool)]), (.map (.int .i64) ty0 false), (.map (.int .i64) ty0 false)]⟩]
def disk_Disk_Sectors : Nat → disk_Disk_Sectors_ins.T → Option (OutsT disk_Disk_Sectors_outs)
  | 0, _ => none
  | n + 1, ((_, _), ((x1, _, _, x2, x3, x4, _), m5, m6, _)) =>
    some ((x1, ()), ((x1, (), (), x2, x3, x4, ()), m5, m6, ()))
def disk_Disk_Sectors_H (n : Nat) : Hints := ⟨[], fun _ => [], fun _ => none, fun _ => none⟩
def disk_Disk_Sectors_O (n : Nat) : FuncId → List FSpec := asc []
def b13 : Code := bodyOf Tryd.f13
theorem disk_Disk_Sectors_ok {S : Nat → Addr} (ok : CfgOk P CC S) : ∀ n, SpecOk P CC S 13 ⟨disk_Disk_Sectors_ins, disk_Disk_Sectors_outs, disk_Disk_Sectors n⟩ :=
  fn_all ok (O := disk_Disk_Sectors_O) (H := disk_Disk_Sectors_H) (fn := Tryd.f13) (body := b13) (by kernel_rfl) (by kernel_rfl) (by kernel_rfl) (by decide) (by kernel_rfl)
    (fun x => by kernel_rfl) (fun n => by
      rintro ⟨⟨⟨⟩, ⟨⟩⟩, ⟨⟨x1, ⟨⟩, ⟨⟩, x2, x3, x4, ⟨⟩⟩, x5, x6, ⟨⟩⟩⟩
      kernel_rfl)
    (fun n => obl_of (by kernel_rfl) (by kernel_rfl) (lz) (cn (cn (cz) (by kernel_rfl)) (by kernel_rfl)))
    (fun n ih => asc_nil)
/-! ### (*pendulum/disk.Disk).Pending -/
abbrev disk_Disk_Pending_ins : Sh := ⟨[(.one (.ptr 0 0))], [(.obj 63 [(.val (.int .i64)), (.map 1), (.map 2), (.val (.int .i64)), (.val (.int .i64)), (.val .bool)]), (.map (.int .i64) ty0 false), (.map (.int .i64) ty0 false)]⟩
abbrev disk_Disk_Pending_outs : List Sh := [⟨[(.one (.val (.int .i64)))], [(.obj 63 [(.val (.int .i64)), (.map 1), (.map 2), (.val (.int .i64)), (.val (.int .i64)), (.val .bool)]), (.map (.int .i64) ty0 false), (.map (.int .i64) ty0 false)]⟩]
def disk_Disk_Pending : Nat → disk_Disk_Pending_ins.T → Option (OutsT disk_Disk_Pending_outs)
  | 0, _ => none
  | n + 1, ((_, _), ((x1, _, _, x2, x3, x4, _), m5, m6, _)) =>
    some (((m6.length : Int), ()), ((x1, (), (), x2, x3, x4, ()), m5, m6, ()))
def disk_Disk_Pending_H (n : Nat) : Hints := ⟨[], fun _ => [], fun _ => none, fun _ => none⟩
def disk_Disk_Pending_O (n : Nat) : FuncId → List FSpec := asc []
def b16 : Code := bodyOf Tryd.f16
theorem disk_Disk_Pending_ok {S : Nat → Addr} (ok : CfgOk P CC S) : ∀ n, SpecOk P CC S 16 ⟨disk_Disk_Pending_ins, disk_Disk_Pending_outs, disk_Disk_Pending n⟩ :=
  fn_all ok (O := disk_Disk_Pending_O) (H := disk_Disk_Pending_H) (fn := Tryd.f16) (body := b16) (by kernel_rfl) (by kernel_rfl) (by kernel_rfl) (by decide) (by kernel_rfl)
    (fun x => by kernel_rfl) (fun n => by
      rintro ⟨⟨⟨⟩, ⟨⟩⟩, ⟨⟨x1, ⟨⟩, ⟨⟩, x2, x3, x4, ⟨⟩⟩, x5, x6, ⟨⟩⟩⟩
      kernel_rfl)
    (fun n => obl_of (by kernel_rfl) (by kernel_rfl) (lz) (cn (cn (cz) (by kernel_rfl)) (by kernel_rfl)))
    (fun n ih => asc_nil)
/-! ### (*pendulum/disk.Disk).Down -/
abbrev disk_Disk_Down_ins : Sh := ⟨[(.one (.ptr 0 0))], [(.obj 63 [(.val (.int .i64)), (.map 1), (.map 2), (.val (.int .i64)), (.val (.int .i64)), (.val .bool)]), (.map (.int .i64) ty0 false), (.map (.int .i64) ty0 false)]⟩
abbrev disk_Disk_Down_outs : List Sh := [⟨[(.one (.val .bool))], [(.obj 63 [(.val (.int .i64)), (.map 1), (.map 2), (.val (.int .i64)), (.val (.int .i64)), (.val .bool)]), (.map (.int .i64) ty0 false), (.map (.int .i64) ty0 false)]⟩]
def disk_Disk_Down : Nat → disk_Disk_Down_ins.T → Option (OutsT disk_Disk_Down_outs)
  | 0, _ => none
  | n + 1, ((_, _), ((x1, _, _, x2, x3, x4, _), m5, m6, _)) =>
    some ((x4, ()), ((x1, (), (), x2, x3, x4, ()), m5, m6, ()))
def disk_Disk_Down_H (n : Nat) : Hints := ⟨[], fun _ => [], fun _ => none, fun _ => none⟩
def disk_Disk_Down_O (n : Nat) : FuncId → List FSpec := asc []
def b22 : Code := bodyOf Tryd.f22
theorem disk_Disk_Down_ok {S : Nat → Addr} (ok : CfgOk P CC S) : ∀ n, SpecOk P CC S 22 ⟨disk_Disk_Down_ins, disk_Disk_Down_outs, disk_Disk_Down n⟩ :=
  fn_all ok (O := disk_Disk_Down_O) (H := disk_Disk_Down_H) (fn := Tryd.f22) (body := b22) (by kernel_rfl) (by kernel_rfl) (by kernel_rfl) (by decide) (by kernel_rfl)
    (fun x => by kernel_rfl) (fun n => by
      rintro ⟨⟨⟨⟩, ⟨⟩⟩, ⟨⟨x1, ⟨⟩, ⟨⟩, x2, x3, x4, ⟨⟩⟩, x5, x6, ⟨⟩⟩⟩
      kernel_rfl)
    (fun n => obl_of (by kernel_rfl) (by kernel_rfl) (lz) (cn (cn (cz) (by kernel_rfl)) (by kernel_rfl)))
    (fun n ih => asc_nil)
/-! ### pendulum/pendulumref3.find -/
abbrev ref3_find_ins : Sh := ⟨[(.one (.val ty6)), (.one (.val (.int .i64)))], []⟩
abbrev ref3_find_outs : List Sh := [⟨[(.one (.val (.int .i64)))], []⟩]
abbrev ref3_find_l2_h : Sh := ⟨[(.one (.val ty6)), (.one (.val (.int .i64))), (.one (.val (.int .i64)))], []⟩
abbrev ref3_find_l2_o : List Out := [⟨(.exit 0), [], ⟨[], []⟩⟩, ⟨.ret, [4], ⟨[(.one (.val (.int .i64)))], []⟩⟩]
def ref3_find_l2 (n : Nat) : Nat → ref3_find_l2_h.T → Option (OutT ref3_find_l2_o)
  | 0, _ => none
  | k + 1, ((x1, x2, x3, _), _) =>
    if decide (x3 < (x1.length : Int)) then
      if 0 ≤ x3 ∧ x3 < (x1.length : Int) then (
        if (rdT ty5 x1 x3).1 == x2 then
          some (.inr (.inl ((x3, ()), ())))
        else
          let v4 : Int := IntKind.i64.wrap (x3 + 1)
          ref3_find_l2 n k ((x1, x2, v4, ()), ())) else none
    else
      some (.inl ((), ()))
def ref3_find : Nat → ref3_find_ins.T → Option (OutsT ref3_find_outs)
  | 0, _ => none
  | n + 1, ((x1, x2, _), _) =>
    match ref3_find_l2 n n ((x1, x2, 0, ()), ()) with
    | some (.inl (_, _)) => (
      some (((-1), ()), ()))
    | some (.inr (.inl ((x3, _), _))) => (
      some ((x3, ()), ()))
    | some (.inr (.inr (_))) => none
    | none => none
def ref3_find_H (n : Nat) : Hints := ⟨[], fun _ => [], fun k => match k with | 2 => some ⟨[0, 1, 5], ref3_find_l2_h, ref3_find_l2_o, ref3_find_l2 n⟩ | _ => none, fun _ => none⟩
def ref3_find_O (n : Nat) : FuncId → List FSpec := asc []
def b41 : Code := bodyOf Tryd.f41
theorem ref3_find_l2_k0 (n : Nat) : LoopOk P CC (ref3_find_O n) n 0 20 (ref3_find_H n) ⟨[0, 1, 5], ref3_find_l2_h, ref3_find_l2_o, ref3_find_l2 n⟩ ((loopsOf b41).getD 0 .skip) := by
  refine ⟨fun _ => by kernel_rfl, ?_⟩
  rintro k ⟨⟨x1, x2, x3, ⟨⟩⟩, ⟨⟩⟩
  kernel_rfl
theorem ref3_find_ok {S : Nat → Addr} (ok : CfgOk P CC S) : ∀ n, SpecOk P CC S 41 ⟨ref3_find_ins, ref3_find_outs, ref3_find n⟩ :=
  fn_all ok (O := ref3_find_O) (H := ref3_find_H) (fn := Tryd.f41) (body := b41) (by kernel_rfl) (by kernel_rfl) (by kernel_rfl) (by decide) (by kernel_rfl)
    (fun x => by kernel_rfl) (fun n => by
      rintro ⟨⟨x1, x2, ⟨⟩⟩, ⟨⟩⟩
      kernel_rfl)
    (fun n => obl_of (by kernel_rfl) (by kernel_rfl) (ls (lz) (by kernel_rfl) (ref3_find_l2_k0 n)) (cn (cn (cn (cn (cn (cn (cn (cn (cn (cz) (by kernel_rfl)) (by kernel_rfl)) (by kernel_rfl)) (by kernel_rfl)) (by kernel_rfl)) (by kernel_rfl)) (by kernel_rfl)) (by kernel_rfl)) (by kernel_rfl)))
    (fun n ih => asc_nil)
/-! ### pendulum/pendulumref3.find -/
abbrev ref3_find_2_ins : Sh := ⟨[(.one (.arr 0)), (.one (.val (.int .i64)))], [(.arr 77 ty5)]⟩
abbrev ref3_find_2_outs : List Sh := [⟨[(.one (.val (.int .i64)))], [(.arr 77 ty5)]⟩]
abbrev ref3_find_2_l2_h : Sh := ⟨[(.one (.arr 0)), (.one (.val (.int .i64))), (.one (.val (.int .i64)))], [(.arr 77 ty5)]⟩
abbrev ref3_find_2_l2_o : List Out := [⟨(.exit 0), [], ⟨[], [(.arr 77 ty5)]⟩⟩, ⟨.ret, [4], ⟨[(.one (.val (.int .i64)))], [(.arr 77 ty5)]⟩⟩]
def ref3_find_2_l2 (n : Nat) : Nat → ref3_find_2_l2_h.T → Option (OutT ref3_find_2_l2_o)
  | 0, _ => none
  | k + 1, ((_, x1, x2, _), (l3, _)) =>
    if decide (x2 < (l3.length : Int)) then
      if 0 ≤ x2 ∧ x2 < (l3.length : Int) then (
        if (rdT ty5 l3 x2).1 == x1 then
          some (.inr (.inl ((x2, ()), (l3, ()))))
        else
          let v4 : Int := IntKind.i64.wrap (x2 + 1)
          ref3_find_2_l2 n k (((), x1, v4, ()), (l3, ()))) else none
    else
      some (.inl ((), (l3, ())))
def ref3_find_2 : Nat → ref3_find_2_ins.T → Option (OutsT ref3_find_2_outs)
  | 0, _ => none
  | n + 1, ((_, x1, _), (l2, _)) =>
    match ref3_find_2_l2 n n (((), x1, 0, ()), (l2, ())) with
    | some (.inl (_, (l3, _))) => (
      some (((-1), ()), (l3, ())))
    | some (.inr (.inl ((x4, _), (l5, _)))) => (
      some ((x4, ()), (l5, ())))
    | some (.inr (.inr (_))) => none
    | none => none
def ref3_find_2_H (n : Nat) : Hints := ⟨[], fun _ => [], fun k => match k with | 2 => some ⟨[0, 1, 5], ref3_find_2_l2_h, ref3_find_2_l2_o, ref3_find_2_l2 n⟩ | _ => none, fun _ => none⟩
def ref3_find_2_O (n : Nat) : FuncId → List FSpec := asc []
theorem ref3_find_2_l2_k0 (n : Nat) : LoopOk P CC (ref3_find_2_O n) n 1 20 (ref3_find_2_H n) ⟨[0, 1, 5], ref3_find_2_l2_h, ref3_find_2_l2_o, ref3_find_2_l2 n⟩ ((loopsOf b41).getD 0 .skip) := by
  refine ⟨fun _ => by kernel_rfl, ?_⟩
  rintro k ⟨⟨⟨⟩, x1, x2, ⟨⟩⟩, ⟨x3, ⟨⟩⟩⟩
  kernel_rfl
theorem ref3_find_2_ok {S : Nat → Addr} (ok : CfgOk P CC S) : ∀ n, SpecOk P CC S 41 ⟨ref3_find_2_ins, ref3_find_2_outs, ref3_find_2 n⟩ :=
  fn_all ok (O := ref3_find_2_O) (H := ref3_find_2_H) (fn := Tryd.f41) (body := b41) (by kernel_rfl) (by kernel_rfl) (by kernel_rfl) (by decide) (by kernel_rfl)
    (fun x => by kernel_rfl) (fun n => by
      rintro ⟨⟨⟨⟩, x1, ⟨⟩⟩, ⟨x2, ⟨⟩⟩⟩
      kernel_rfl)
    (fun n => obl_of (by kernel_rfl) (by kernel_rfl) (ls (lz) (by kernel_rfl) (ref3_find_2_l2_k0 n)) (cn (cn (cn (cn (cn (cn (cn (cn (cn (cz) (by kernel_rfl)) (by kernel_rfl)) (by kernel_rfl)) (by kernel_rfl)) (by kernel_rfl)) (by kernel_rfl)) (by kernel_rfl)) (by kernel_rfl)) (by kernel_rfl)))
    (fun n ih => asc_nil)
/-! ### (*pendulum/pendulumref3.Disk).Read -/
abbrev ref3_Disk_Read_ins : Sh := ⟨[(.one (.ptr 0 0)), (.one (.val (.int .i64)))], [(.obj 57 [(.val (.int .i64)), (.val (.int .i64)), (.emp true), (.val ty6), (.val (.int .i64)), (.val .bool)])]⟩
abbrev ref3_Disk_Read_outs : List Sh := [⟨[(.tup [(false, [(.val ty0)]), (false, [(.val .bool)]), (false, [(.val (.int .i64))])])], [(.obj 57 [(.val (.int .i64)), (.val (.int .i64)), (.emp true), (.val ty6), (.val (.int .i64)), (.val .bool)])]⟩]
def ref3_Disk_Read : Nat → ref3_Disk_Read_ins.T → Option (OutsT ref3_Disk_Read_outs)
  | 0, _ => none
  | n + 1, ((_, x1, _), ((x2, x3, _, x4, x5, x6, _), _)) =>
    if x6 then
      some (((([], ()), (false, ()), (119, ()), ()), ()), ((x2, x3, (), x4, x5, x6, ()), ()))
    else
      if decide (x1 < 0) then
        some (((([], ()), (false, ()), (118, ()), ()), ()), ((x2, x3, (), x4, x5, x6, ()), ()))
      else
        if decide (x1 ≥ x2) then
          some (((([], ()), (false, ()), (118, ()), ()), ()), ((x2, x3, (), x4, x5, x6, ()), ()))
        else
          match ref3_find n ((x4, x1, ()), ()) with
          | some ((x7, _), _) => (
            if decide (x7 ≥ 0) then
              if 0 ≤ x7 ∧ x7 < (x4.length : Int) then (
                some (((((rdT ty5 x4 x7).2, ()), (true, ()), (0, ()), ()), ()), ((x2, x3, (), x4, x5, x6, ()), ()))) else none
            else
              match ref3_find_2 n (((), x1, ()), ([], ())) with
              | some ((x8, _), (l9, _)) => (
                if decide (x8 ≥ 0) then
                  none
                else
                  some (((([], ()), (false, ()), (0, ()), ()), ()), ((x2, x3, (), x4, x5, x6, ()), ())))
              | none => none)
          | none => none
def ref3_Disk_Read_H (n : Nat) : Hints := ⟨[], fun _ => [], fun _ => none, fun _ => none⟩
def ref3_Disk_Read_O (n : Nat) : FuncId → List FSpec := asc [(41, ⟨ref3_find_2_ins, ref3_find_2_outs, ref3_find_2 n⟩), (41, ⟨ref3_find_ins, ref3_find_outs, ref3_find n⟩)]
def b30 : Code := bodyOf Tryd.f30
theorem ref3_Disk_Read_ok {S : Nat → Addr} (ok : CfgOk P CC S) : ∀ n, SpecOk P CC S 30 ⟨ref3_Disk_Read_ins, ref3_Disk_Read_outs, ref3_Disk_Read n⟩ :=
  fn_all ok (O := ref3_Disk_Read_O) (H := ref3_Disk_Read_H) (fn := Tryd.f30) (body := b30) (by kernel_rfl) (by kernel_rfl) (by kernel_rfl) (by decide) (by kernel_rfl)
    (fun x => by kernel_rfl) (fun n => by
      rintro ⟨⟨⟨⟩, x1, ⟨⟩⟩, ⟨⟨x2, x3, ⟨⟩, x4, x5, x6, ⟨⟩⟩, ⟨⟩⟩⟩
      kernel_rfl)
    (fun n => obl_of (by kernel_rfl) (by kernel_rfl) (lz) (cn (cn (cn (cn (cn (cn (cn (cn (cn (cn (cn (cn (cn (cn (cn (cn (cz) (by kernel_rfl)) (by kernel_rfl)) (by kernel_rfl)) (by kernel_rfl)) (by kernel_rfl)) (by kernel_rfl)) (by kernel_rfl)) (by kernel_rfl)) (by kernel_rfl)) (by kernel_rfl)) (by kernel_rfl)) (by kernel_rfl)) (by kernel_rfl)) (by kernel_rfl)) (by kernel_rfl)) (by kernel_rfl)))
    (fun n ih => asc_cons (ref3_find_2_ok ok n) <| asc_cons (ref3_find_ok ok n) <| asc_nil)
/-! ### pendulum/pendulumref.SameBytes -/
abbrev ref_SameBytes_ins : Sh := ⟨[(.one (.val ty0)), (.one (.val ty0))], []⟩
abbrev ref_SameBytes_outs : List Sh := [⟨[(.one (.val .bool))], []⟩]
abbrev ref_SameBytes_l4_h : Sh := ⟨[(.one (.val ty0)), (.one (.val ty0)), (.one (.val (.int .i64)))], []⟩
abbrev ref_SameBytes_l4_o : List Out := [⟨(.exit 0), [], ⟨[], []⟩⟩, ⟨.ret, [4], ⟨[(.one (.val .bool))], []⟩⟩]
def ref_SameBytes_l4 (n : Nat) : Nat → ref_SameBytes_l4_h.T → Option (OutT ref_SameBytes_l4_o)
  | 0, _ => none
  | k + 1, ((x1, x2, x3, _), _) =>
    if decide (x3 < (x1.length : Int)) then
      if 0 ≤ x3 ∧ x3 < (x1.length : Int) then (
        let v4 : Int := rdT ((.int .u8) : Ty) x1 x3
        if 0 ≤ x3 ∧ x3 < (x2.length : Int) then (
          let v5 : Int := rdT ((.int .u8) : Ty) x2 x3
          if !(v4 == v5) then
            some (.inr (.inl ((false, ()), ())))
          else
            let v6 : Int := IntKind.i64.wrap (x3 + 1)
            ref_SameBytes_l4 n k ((x1, x2, v6, ()), ())) else none) else none
    else
      some (.inl ((), ()))
def ref_SameBytes : Nat → ref_SameBytes_ins.T → Option (OutsT ref_SameBytes_outs)
  | 0, _ => none
  | n + 1, ((x1, x2, _), _) =>
    if (x1.length : Int) != (x2.length : Int) then
      some ((false, ()), ())
    else
      match ref_SameBytes_l4 n n ((x1, x2, 0, ()), ()) with
      | some (.inl (_, _)) => (
        some ((true, ()), ()))
      | some (.inr (.inl ((x3, _), _))) => (
        some ((x3, ()), ()))
      | some (.inr (.inr (_))) => none
      | none => none
def ref_SameBytes_H (n : Nat) : Hints := ⟨[], fun _ => [], fun k => match k with | 4 => some ⟨[0, 1, 5], ref_SameBytes_l4_h, ref_SameBytes_l4_o, ref_SameBytes_l4 n⟩ | _ => none, fun _ => none⟩
def ref_SameBytes_O (n : Nat) : FuncId → List FSpec := asc []
def b20 : Code := bodyOf Tryd.f20
theorem ref_SameBytes_l4_k0 (n : Nat) : LoopOk P CC (ref_SameBytes_O n) n 0 29 (ref_SameBytes_H n) ⟨[0, 1, 5], ref_SameBytes_l4_h, ref_SameBytes_l4_o, ref_SameBytes_l4 n⟩ ((loopsOf b20).getD 0 .skip) := by
  refine ⟨fun _ => by kernel_rfl, ?_⟩
  rintro k ⟨⟨x1, x2, x3, ⟨⟩⟩, ⟨⟩⟩
  kernel_rfl
theorem ref_SameBytes_ok {S : Nat → Addr} (ok : CfgOk P CC S) : ∀ n, SpecOk P CC S 20 ⟨ref_SameBytes_ins, ref_SameBytes_outs, ref_SameBytes n⟩ :=
  fn_all ok (O := ref_SameBytes_O) (H := ref_SameBytes_H) (fn := Tryd.f20) (body := b20) (by kernel_rfl) (by kernel_rfl) (by kernel_rfl) (by decide) (by kernel_rfl)
    (fun x => by kernel_rfl) (fun n => by
      rintro ⟨⟨x1, x2, ⟨⟩⟩, ⟨⟩⟩
      kernel_rfl)
    (fun n => obl_of (by kernel_rfl) (by kernel_rfl) (ls (lz) (by kernel_rfl) (ref_SameBytes_l4_k0 n)) (cn (cn (cn (cn (cn (cn (cn (cn (cn (cn (cn (cn (cn (cz) (by kernel_rfl)) (by kernel_rfl)) (by kernel_rfl)) (by kernel_rfl)) (by kernel_rfl)) (by kernel_rfl)) (by kernel_rfl)) (by kernel_rfl)) (by kernel_rfl)) (by kernel_rfl)) (by kernel_rfl)) (by kernel_rfl)) (by kernel_rfl)))
    (fun n ih => asc_nil)
/-! ### (*pendulum/pendulumref3.Disk).power -/
abbrev ref3_Disk_power_2_ins : Sh := ⟨[(.one (.ptr 0 0))], [(.obj 57 [(.val (.int .i64)), (.val (.int .i64)), (.emp true), (.val ty6), (.val (.int .i64)), (.val .bool)])]⟩
abbrev ref3_Disk_power_2_outs : List Sh := [⟨[(.one (.val .bool))], [(.obj 57 [(.val (.int .i64)), (.val (.int .i64)), (.emp true), (.val ty6), (.val (.int .i64)), (.val .bool)])]⟩]
def ref3_Disk_power_2 : Nat → ref3_Disk_power_2_ins.T → Option (OutsT ref3_Disk_power_2_outs)
  | 0, _ => none
  | n + 1, ((_, _), ((x1, x2, _, x3, x4, x5, _), _)) =>
    if x5 then
      some ((false, ()), ((x1, x2, (), x3, x4, x5, ()), ()))
    else
      if decide (x4 > 0) then
        let v6 : Int := IntKind.i64.wrap (x4 - 1)
        if v6 == 0 then
          some ((false, ()), ((x1, x2, (), x3, v6, true, ()), ()))
        else
          some ((true, ()), ((x1, x2, (), x3, v6, x5, ()), ()))
      else
        some ((true, ()), ((x1, x2, (), x3, x4, x5, ()), ()))
def ref3_Disk_power_2_H (n : Nat) : Hints := ⟨[], fun _ => [], fun _ => none, fun _ => none⟩
def ref3_Disk_power_2_O (n : Nat) : FuncId → List FSpec := asc []
theorem ref3_Disk_power_2_ok {S : Nat → Addr} (ok : CfgOk P CC S) : ∀ n, SpecOk P CC S 39 ⟨ref3_Disk_power_2_ins, ref3_Disk_power_2_outs, ref3_Disk_power_2 n⟩ :=
  fn_all ok (O := ref3_Disk_power_2_O) (H := ref3_Disk_power_2_H) (fn := Tryd.f39) (body := b39) (by kernel_rfl) (by kernel_rfl) (by kernel_rfl) (by decide) (by kernel_rfl)
    (fun x => by kernel_rfl) (fun n => by
      rintro ⟨⟨⟨⟩, ⟨⟩⟩, ⟨⟨x1, x2, ⟨⟩, x3, x4, x5, ⟨⟩⟩, ⟨⟩⟩⟩
      kernel_rfl)
    (fun n => obl_of (by kernel_rfl) (by kernel_rfl) (lz) (cn (cn (cn (cn (cn (cn (cn (cn (cn (cn (cn (cz) (by kernel_rfl)) (by kernel_rfl)) (by kernel_rfl)) (by kernel_rfl)) (by kernel_rfl)) (by kernel_rfl)) (by kernel_rfl)) (by kernel_rfl)) (by kernel_rfl)) (by kernel_rfl)) (by kernel_rfl)))
    (fun n ih => asc_nil)
/-! ### pendulum/pendulumref3.with -/
abbrev ref3_with_2_ins : Sh := ⟨[(.one (.val ty6)), (.agg [(.val (.int .i64)), (.val ty0)])], []⟩
abbrev ref3_with_2_outs : List Sh := [⟨[(.one (.val ty6))], []⟩]
abbrev ref3_with_2_c9_h : Sh := ⟨[(.one (.val ty6)), (.one (.ptr 0 0)), (.one (.arr 1)), (.one (.val .bool)), (.one (.val (.int .i64)))], [(.obj 77 [(.val (.int .i64)), (.val ty0)]), (.arr 77 ty5)]⟩
abbrev ref3_with_2_c9_o : List Out := [⟨.normal, [0, 3, 5, 6, 7], ⟨[(.one (.val ty6)), (.one (.ptr 0 0)), (.one (.arr 1)), (.one (.val .bool)), (.one (.val (.int .i64)))], [(.obj 77 [(.val (.int .i64)), (.val ty0)]), (.arr 77 ty5)]⟩⟩]
def ref3_with_2_c9 (n : Nat) : ref3_with_2_c9_h.T → Option (OutT ref3_with_2_c9_o)
  | ((x1, _, _, x2, x3, _), ((x4, x5, _), l6, _)) =>
    if !x2 then
      if 0 ≤ x3 ∧ x3 < (x1.length : Int) then (
        if decide ((rdT ty5 x1 x3).1 ≥ x4) then
          if (l6.length + ([(x4, x5)] : List ty5.T).length) * 32 ≤ 140737488355328 then (
            some (.inl ((x1, (), (), true, x3, ()), ((x4, x5, ()), l6 ++ [(x4, x5)], ())))) else none
        else
          some (.inl ((x1, (), (), x2, x3, ()), ((x4, x5, ()), l6, ())))) else none
    else
      some (.inl ((x1, (), (), x2, x3, ()), ((x4, x5, ()), l6, ())))
abbrev ref3_with_2_l4_h : Sh := ⟨[(.one (.val ty6)), (.one (.ptr 0 0)), (.one (.arr 1)), (.one (.val .bool)), (.one (.val (.int .i64)))], [(.obj 77 [(.val (.int .i64)), (.val ty0)]), (.arr 77 ty5)]⟩
abbrev ref3_with_2_l4_o : List Out := [⟨(.exit 0), [3, 5, 6], ⟨[(.one (.ptr 0 0)), (.one (.arr 1)), (.one (.val .bool))], [(.obj 77 [(.val (.int .i64)), (.val ty0)]), (.arr 77 ty5)]⟩⟩]
def ref3_with_2_l4 (n : Nat) : Nat → ref3_with_2_l4_h.T → Option (OutT ref3_with_2_l4_o)
  | 0, _ => none
  | k + 1, ((x1, _, _, x2, x3, _), ((x4, x5, _), l6, _)) =>
    if decide (x3 < (x1.length : Int)) then
      match ref3_with_2_c9 n ((x1, (), (), x2, x3, ()), ((x4, x5, ()), l6, ())) with
      | some (.inl ((x7, _, _, x8, x9, _), ((x10, x11, _), l12, _))) => (
        if 0 ≤ x9 ∧ x9 < (x7.length : Int) then (
          if (rdT ty5 x7 x9).1 != x10 then
            if 0 ≤ x9 ∧ x9 < (x7.length : Int) then (
              if (l12.length + ([(rdT ty5 x7 x9)] : List ty5.T).length) * 32 ≤ 140737488355328 then (
                let v13 : Int := IntKind.i64.wrap (x9 + 1)
                ref3_with_2_l4 n k ((x7, (), (), x8, v13, ()), ((x10, x11, ()), l12 ++ [(rdT ty5 x7 x9)], ()))) else none) else none
          else
            let v14 : Int := IntKind.i64.wrap (x9 + 1)
            ref3_with_2_l4 n k ((x7, (), (), x8, v14, ()), ((x10, x11, ()), l12, ()))) else none)
      | some (.inr (_)) => none
      | none => none
    else
      some (.inl (((), (), x2, ()), ((x4, x5, ()), l6, ())))
def ref3_with_2 : Nat → ref3_with_2_ins.T → Option (OutsT ref3_with_2_outs)
  | 0, _ => none
  | n + 1, ((x1, (x2, x3, _), _), _) =>
    match ref3_with_2_l4 n n ((x1, (), (), false, 0, ()), ((x2, x3, ()), [], ())) with
    | some (.inl ((_, _, x4, _), ((x5, x6, _), l7, _))) => (
      if !x4 then
        if (l7.length + ([(x5, x6)] : List ty5.T).length) * 32 ≤ 140737488355328 then (
          some ((l7 ++ [(x5, x6)], ()), ())) else none
      else
        some ((l7, ()), ()))
    | some (.inr (_)) => none
    | none => none
def ref3_with_2_H (n : Nat) : Hints := ⟨[], fun _ => [], fun k => match k with | 4 => some ⟨[0, 3, 5, 6, 7], ref3_with_2_l4_h, ref3_with_2_l4_o, ref3_with_2_l4 n⟩ | _ => none, fun k => match k with | 9 => some ⟨[0, 3, 5, 6, 7], ref3_with_2_c9_h, ref3_with_2_c9_o, fun n => ref3_with_2_c9 n⟩ | _ => none⟩
def ref3_with_2_O (n : Nat) : FuncId → List FSpec := asc []
theorem ref3_with_2_l4_k0 (n : Nat) : LoopOk P CC (ref3_with_2_O n) n 0 52 (ref3_with_2_H n) ⟨[0, 3, 5, 6, 7], ref3_with_2_l4_h, ref3_with_2_l4_o, ref3_with_2_l4 n⟩ ((loopsOf b40).getD 0 .skip) := by
  refine ⟨fun _ => by kernel_rfl, ?_⟩
  rintro k ⟨⟨x1, ⟨⟩, ⟨⟩, x2, x3, ⟨⟩⟩, ⟨⟨x4, x5, ⟨⟩⟩, x6, ⟨⟩⟩⟩
  kernel_rfl
theorem ref3_with_2_c9_k8 (n : Nat) : CutOk P CC (ref3_with_2_O n) n 0 52 (ref3_with_2_H n) ⟨[0, 3, 5, 6, 7], ref3_with_2_c9_h, ref3_with_2_c9_o, fun n => ref3_with_2_c9 n⟩ ((cutsOf b40).getD 8 (0, .skip)).2 := by
  rintro ⟨⟨x1, ⟨⟩, ⟨⟩, x2, x3, ⟨⟩⟩, ⟨⟨x4, x5, ⟨⟩⟩, x6, ⟨⟩⟩⟩
  kernel_rfl
theorem ref3_with_2_ok {S : Nat → Addr} (ok : CfgOk P CC S) : ∀ n, SpecOk P CC S 40 ⟨ref3_with_2_ins, ref3_with_2_outs, ref3_with_2 n⟩ :=
  fn_all ok (O := ref3_with_2_O) (H := ref3_with_2_H) (fn := Tryd.f40) (body := b40) (by kernel_rfl) (by kernel_rfl) (by kernel_rfl) (by decide) (by kernel_rfl)
    (fun x => by kernel_rfl) (fun n => by
      rintro ⟨⟨x1, ⟨x2, x3, ⟨⟩⟩, ⟨⟩⟩, ⟨⟩⟩
      kernel_rfl)
    (fun n => obl_of (by kernel_rfl) (by kernel_rfl) (ls (lz) (by kernel_rfl) (ref3_with_2_l4_k0 n)) (cn (cn (cn (cn (cn (cn (cs (cn (cn (cn (cn (cn (cn (cn (cn (cz) (by kernel_rfl)) (by kernel_rfl)) (by kernel_rfl)) (by kernel_rfl)) (by kernel_rfl)) (by kernel_rfl)) (by kernel_rfl)) (by kernel_rfl)) (by kernel_rfl) (ref3_with_2_c9_k8 n)) (by kernel_rfl)) (by kernel_rfl)) (by kernel_rfl)) (by kernel_rfl)) (by kernel_rfl)) (by kernel_rfl)))
    (fun n ih => asc_nil)
/-! ### (*pendulum/pendulumref3.Disk).Write -/
abbrev ref3_Disk_Write_2_ins : Sh := ⟨[(.one (.ptr 0 0)), (.one (.val (.int .i64))), (.one (.val ty0))], [(.obj 57 [(.val (.int .i64)), (.val (.int .i64)), (.emp true), (.val ty6), (.val (.int .i64)), (.val .bool)])]⟩
abbrev ref3_Disk_Write_2_outs : List Sh := [⟨[(.one (.val (.int .i64)))], [(.obj 57 [(.val (.int .i64)), (.val (.int .i64)), (.emp true), (.val ty6), (.val (.int .i64)), (.val .bool)])]⟩]
def ref3_Disk_Write_2 : Nat → ref3_Disk_Write_2_ins.T → Option (OutsT ref3_Disk_Write_2_outs)
  | 0, _ => none
  | n + 1, ((_, x1, x2, _), ((x3, x4, _, x5, x6, x7, _), _)) =>
    match ref3_Disk_power_2 n (((), ()), ((x3, x4, (), x5, x6, x7, ()), ())) with
    | some ((x8, _), ((x9, x10, _, x11, x12, x13, _), _)) => (
      if !x8 then
        some ((119, ()), ((x9, x10, (), x11, x12, x13, ()), ()))
      else
        if decide (x1 < 0) then
          some ((118, ()), ((x9, x10, (), x11, x12, x13, ()), ()))
        else
          if decide (x1 ≥ x9) then
            some ((118, ()), ((x9, x10, (), x11, x12, x13, ()), ()))
          else
            if decide ((x2.length : Int) > 128) then
              some ((103, ()), ((x9, x10, (), x11, x12, x13, ()), ()))
            else
              match ref_Bytes n ((x2, ()), ()) with
              | some ((_, _), (l14, _)) => (
                match ref3_with_2 n ((x11, (x1, l14, ()), ()), ()) with
                | some ((x15, _), _) => (
                  let v16 : Int := IntKind.i64.wrap (x10 + 1)
                  some ((0, ()), ((x9, v16, (), x15, x12, x13, ()), ())))
                | none => none)
              | none => none)
    | none => none
def ref3_Disk_Write_2_H (n : Nat) : Hints := ⟨[], fun _ => [], fun _ => none, fun _ => none⟩
def ref3_Disk_Write_2_O (n : Nat) : FuncId → List FSpec := asc [(23, ⟨ref_Bytes_ins, ref_Bytes_outs, ref_Bytes n⟩), (39, ⟨ref3_Disk_power_2_ins, ref3_Disk_power_2_outs, ref3_Disk_power_2 n⟩), (40, ⟨ref3_with_2_ins, ref3_with_2_outs, ref3_with_2 n⟩)]
theorem ref3_Disk_Write_2_ok {S : Nat → Addr} (ok : CfgOk P CC S) : ∀ n, SpecOk P CC S 26 ⟨ref3_Disk_Write_2_ins, ref3_Disk_Write_2_outs, ref3_Disk_Write_2 n⟩ :=
  fn_all ok (O := ref3_Disk_Write_2_O) (H := ref3_Disk_Write_2_H) (fn := Tryd.f26) (body := b26) (by kernel_rfl) (by kernel_rfl) (by kernel_rfl) (by decide) (by kernel_rfl)
    (fun x => by kernel_rfl) (fun n => by
      rintro ⟨⟨⟨⟩, x1, x2, ⟨⟩⟩, ⟨⟨x3, x4, ⟨⟩, x5, x6, x7, ⟨⟩⟩, ⟨⟩⟩⟩
      kernel_rfl)
    (fun n => obl_of (by kernel_rfl) (by kernel_rfl) (lz) (cn (cn (cn (cn (cn (cn (cn (cn (cn (cn (cn (cn (cn (cz) (by kernel_rfl)) (by kernel_rfl)) (by kernel_rfl)) (by kernel_rfl)) (by kernel_rfl)) (by kernel_rfl)) (by kernel_rfl)) (by kernel_rfl)) (by kernel_rfl)) (by kernel_rfl)) (by kernel_rfl)) (by kernel_rfl)) (by kernel_rfl)))
    (fun n ih => asc_cons (ref_Bytes_ok ok n) <| asc_cons (ref3_Disk_power_2_ok ok n) <| asc_cons (ref3_with_2_ok ok n) <| asc_nil)
/-! ### (*pendulum/pendulumref3.Disk).Flush -/
abbrev ref3_Disk_Flush_2_ins : Sh := ⟨[(.one (.ptr 0 0))], [(.obj 57 [(.val (.int .i64)), (.val (.int .i64)), (.emp true), (.val ty6), (.val (.int .i64)), (.val .bool)])]⟩
abbrev ref3_Disk_Flush_2_outs : List Sh := [⟨[(.one (.val (.int .i64)))], [(.obj 57 [(.val (.int .i64)), (.val (.int .i64)), (.val ty6), (.val ty6), (.val (.int .i64)), (.val .bool)])]⟩]
abbrev ref3_Disk_Flush_2_l4_h : Sh := ⟨[(.one (.ptr 0 0)), (.one (.val (.int .i64)))], [(.obj 57 [(.val (.int .i64)), (.val (.int .i64)), (.val ty6), (.val ty6), (.val (.int .i64)), (.val .bool)])]⟩
abbrev ref3_Disk_Flush_2_l4_o : List Out := [⟨(.exit 0), [0], ⟨[(.one (.ptr 0 0))], [(.obj 57 [(.val (.int .i64)), (.val (.int .i64)), (.val ty6), (.val ty6), (.val (.int .i64)), (.val .bool)])]⟩⟩]
def ref3_Disk_Flush_2_l4 (n : Nat) : Nat → ref3_Disk_Flush_2_l4_h.T → Option (OutT ref3_Disk_Flush_2_l4_o)
  | 0, _ => none
  | k + 1, ((_, x1, _), ((x2, x3, x4, x5, x6, x7, _), _)) =>
    if decide (x1 < (x5.length : Int)) then
      if 0 ≤ x1 ∧ x1 < (x5.length : Int) then (
        match ref3_with_2 n ((x4, ((rdT ty5 x5 x1).1, (rdT ty5 x5 x1).2, ()), ()), ()) with
        | some ((x8, _), _) => (
          let v9 : Int := IntKind.i64.wrap (x1 + 1)
          ref3_Disk_Flush_2_l4 n k (((), v9, ()), ((x2, x3, x8, x5, x6, x7, ()), ())))
        | none => none) else none
    else
      some (.inl (((), ()), ((x2, x3, x4, x5, x6, x7, ()), ())))
def ref3_Disk_Flush_2 : Nat → ref3_Disk_Flush_2_ins.T → Option (OutsT ref3_Disk_Flush_2_outs)
  | 0, _ => none
  | n + 1, ((_, _), ((x1, x2, _, x3, x4, x5, _), _)) =>
    match ref3_Disk_power_2 n (((), ()), ((x1, x2, (), x3, x4, x5, ()), ())) with
    | some ((x6, _), ((x7, x8, _, x9, x10, x11, _), _)) => (
      if !x6 then
        some ((119, ()), ((x7, x8, [], x9, x10, x11, ()), ()))
      else
        match ref3_Disk_Flush_2_l4 n n (((), 0, ()), ((x7, x8, [], x9, x10, x11, ()), ())) with
        | some (.inl ((_, _), ((x12, x13, x14, x15, x16, x17, _), _))) => (
          let v18 : Int := IntKind.i64.wrap (x13 + 1)
          some ((0, ()), ((x12, v18, x14, [], x16, x17, ()), ())))
        | some (.inr (_)) => none
        | none => none)
    | none => none
def ref3_Disk_Flush_2_H (n : Nat) : Hints := ⟨[], fun _ => [], fun k => match k with | 4 => some ⟨[0, 3], ref3_Disk_Flush_2_l4_h, ref3_Disk_Flush_2_l4_o, ref3_Disk_Flush_2_l4 n⟩ | _ => none, fun _ => none⟩
def ref3_Disk_Flush_2_O (n : Nat) : FuncId → List FSpec := asc [(39, ⟨ref3_Disk_power_2_ins, ref3_Disk_power_2_outs, ref3_Disk_power_2 n⟩), (40, ⟨ref3_with_2_ins, ref3_with_2_outs, ref3_with_2 n⟩)]
theorem ref3_Disk_Flush_2_l4_k0 (n : Nat) : LoopOk P CC (ref3_Disk_Flush_2_O n) n 1 42 (ref3_Disk_Flush_2_H n) ⟨[0, 3], ref3_Disk_Flush_2_l4_h, ref3_Disk_Flush_2_l4_o, ref3_Disk_Flush_2_l4 n⟩ ((loopsOf b27).getD 0 .skip) := by
  refine ⟨fun _ => by kernel_rfl, ?_⟩
  rintro k ⟨⟨⟨⟩, x1, ⟨⟩⟩, ⟨⟨x2, x3, x4, x5, x6, x7, ⟨⟩⟩, ⟨⟩⟩⟩
  kernel_rfl
theorem ref3_Disk_Flush_2_ok {S : Nat → Addr} (ok : CfgOk P CC S) : ∀ n, SpecOk P CC S 27 ⟨ref3_Disk_Flush_2_ins, ref3_Disk_Flush_2_outs, ref3_Disk_Flush_2 n⟩ :=
  fn_all ok (O := ref3_Disk_Flush_2_O) (H := ref3_Disk_Flush_2_H) (fn := Tryd.f27) (body := b27) (by kernel_rfl) (by kernel_rfl) (by kernel_rfl) (by decide) (by kernel_rfl)
    (fun x => by kernel_rfl) (fun n => by
      rintro ⟨⟨⟨⟩, ⟨⟩⟩, ⟨⟨x1, x2, ⟨⟩, x3, x4, x5, ⟨⟩⟩, ⟨⟩⟩⟩
      kernel_rfl)
    (fun n => obl_of (by kernel_rfl) (by kernel_rfl) (ls (lz) (by kernel_rfl) (ref3_Disk_Flush_2_l4_k0 n)) (cn (cn (cn (cn (cn (cn (cn (cn (cn (cn (cn (cn (cz) (by kernel_rfl)) (by kernel_rfl)) (by kernel_rfl)) (by kernel_rfl)) (by kernel_rfl)) (by kernel_rfl)) (by kernel_rfl)) (by kernel_rfl)) (by kernel_rfl)) (by kernel_rfl)) (by kernel_rfl)) (by kernel_rfl)))
    (fun n ih => asc_cons (ref3_Disk_power_2_ok ok n) <| asc_cons (ref3_with_2_ok ok n) <| asc_nil)
/-! ### (*pendulum/pendulumref3.Disk).Arm -/
abbrev ref3_Disk_Arm_2_ins : Sh := ⟨[(.one (.ptr 0 0)), (.one (.val (.int .i64)))], [(.obj 57 [(.val (.int .i64)), (.val (.int .i64)), (.emp true), (.val ty6), (.val (.int .i64)), (.val .bool)])]⟩
abbrev ref3_Disk_Arm_2_outs : List Sh := [⟨[(.tup [])], [(.obj 57 [(.val (.int .i64)), (.val (.int .i64)), (.emp true), (.val ty6), (.val (.int .i64)), (.val .bool)])]⟩]
def ref3_Disk_Arm_2 : Nat → ref3_Disk_Arm_2_ins.T → Option (OutsT ref3_Disk_Arm_2_outs)
  | 0, _ => none
  | n + 1, ((_, x1, _), ((x2, x3, _, x4, x5, x6, _), _)) =>
    some (((), ()), ((x2, x3, (), x4, mx x1 0, x6, ()), ()))
def ref3_Disk_Arm_2_H (n : Nat) : Hints := ⟨[], fun _ => [], fun _ => none, fun _ => none⟩
def ref3_Disk_Arm_2_O (n : Nat) : FuncId → List FSpec := asc []
theorem ref3_Disk_Arm_2_ok {S : Nat → Addr} (ok : CfgOk P CC S) : ∀ n, SpecOk P CC S 28 ⟨ref3_Disk_Arm_2_ins, ref3_Disk_Arm_2_outs, ref3_Disk_Arm_2 n⟩ :=
  fn_all ok (O := ref3_Disk_Arm_2_O) (H := ref3_Disk_Arm_2_H) (fn := Tryd.f28) (body := b28) (by kernel_rfl) (by kernel_rfl) (by kernel_rfl) (by decide) (by kernel_rfl)
    (fun x => by kernel_rfl) (fun n => by
      rintro ⟨⟨⟨⟩, x1, ⟨⟩⟩, ⟨⟨x2, x3, ⟨⟩, x4, x5, x6, ⟨⟩⟩, ⟨⟩⟩⟩
      kernel_rfl)
    (fun n => obl_of (by kernel_rfl) (by kernel_rfl) (lz) (cz))
    (fun n ih => asc_nil)
/-! ### (*pendulum/pendulumref3.Disk).Crash -/
abbrev ref3_Disk_Crash_2_ins : Sh := ⟨[(.one (.ptr 0 0)), (.one (.val ty4))], [(.obj 57 [(.val (.int .i64)), (.val (.int .i64)), (.emp true), (.val ty6), (.val (.int .i64)), (.val .bool)])]⟩
abbrev ref3_Disk_Crash_2_outs : List Sh := [⟨[(.tup [])], [(.obj 57 [(.val (.int .i64)), (.val (.int .i64)), (.val ty6), (.emp true), (.val (.int .i64)), (.val .bool)])]⟩]
abbrev ref3_Disk_Crash_2_l1_h : Sh := ⟨[(.one (.ptr 0 0)), (.one (.val ty4)), (.one (.val (.int .i64)))], [(.obj 57 [(.val (.int .i64)), (.val (.int .i64)), (.val ty6), (.val ty6), (.val (.int .i64)), (.val .bool)])]⟩
abbrev ref3_Disk_Crash_2_l1_o : List Out := [⟨(.exit 0), [0], ⟨[(.one (.ptr 0 0))], [(.obj 57 [(.val (.int .i64)), (.val (.int .i64)), (.val ty6), (.val ty6), (.val (.int .i64)), (.val .bool)])]⟩⟩]
def ref3_Disk_Crash_2_l1 (n : Nat) : Nat → ref3_Disk_Crash_2_l1_h.T → Option (OutT ref3_Disk_Crash_2_l1_o)
  | 0, _ => none
  | k + 1, ((_, x1, x2, _), ((x3, x4, x5, x6, x7, x8, _), _)) =>
    if decide (x2 < (x6.length : Int)) then
      if decide (x2 < (x1.length : Int)) then
        if 0 ≤ x2 ∧ x2 < (x1.length : Int) then (
          let v9 : Int := rdT ((.int .i64) : Ty) x1 x2
          if bitsOp .and .i64 v9 1 == 1 then
            if 0 ≤ x2 ∧ x2 < (x6.length : Int) then (
              match ref3_with_2 n ((x5, ((rdT ty5 x6 x2).1, (rdT ty5 x6 x2).2, ()), ()), ()) with
              | some ((x10, _), _) => (
                let v11 : Int := IntKind.i64.wrap (x2 + 1)
                ref3_Disk_Crash_2_l1 n k (((), x1, v11, ()), ((x3, x4, x10, x6, x7, x8, ()), ())))
              | none => none) else none
          else
            let v12 : Int := IntKind.i64.wrap (x2 + 1)
            ref3_Disk_Crash_2_l1 n k (((), x1, v12, ()), ((x3, x4, x5, x6, x7, x8, ()), ()))) else none
      else
        let v13 : Int := IntKind.i64.wrap (x2 + 1)
        ref3_Disk_Crash_2_l1 n k (((), x1, v13, ()), ((x3, x4, x5, x6, x7, x8, ()), ()))
    else
      some (.inl (((), ()), ((x3, x4, x5, x6, x7, x8, ()), ())))
def ref3_Disk_Crash_2 : Nat → ref3_Disk_Crash_2_ins.T → Option (OutsT ref3_Disk_Crash_2_outs)
  | 0, _ => none
  | n + 1, ((_, x1, _), ((x2, x3, _, x4, x5, x6, _), _)) =>
    match ref3_Disk_Crash_2_l1 n n (((), x1, 0, ()), ((x2, x3, [], x4, x5, x6, ()), ())) with
    | some (.inl ((_, _), ((x7, x8, x9, x10, x11, x12, _), _))) => (
      some (((), ()), ((x7, x8, x9, (), 0, false, ()), ())))
    | some (.inr (_)) => none
    | none => none
def ref3_Disk_Crash_2_H (n : Nat) : Hints := ⟨[], fun _ => [], fun k => match k with | 1 => some ⟨[0, 1, 4], ref3_Disk_Crash_2_l1_h, ref3_Disk_Crash_2_l1_o, ref3_Disk_Crash_2_l1 n⟩ | _ => none, fun _ => none⟩
def ref3_Disk_Crash_2_O (n : Nat) : FuncId → List FSpec := asc [(40, ⟨ref3_with_2_ins, ref3_with_2_outs, ref3_with_2 n⟩)]
theorem ref3_Disk_Crash_2_l1_k0 (n : Nat) : LoopOk P CC (ref3_Disk_Crash_2_O n) n 1 50 (ref3_Disk_Crash_2_H n) ⟨[0, 1, 4], ref3_Disk_Crash_2_l1_h, ref3_Disk_Crash_2_l1_o, ref3_Disk_Crash_2_l1 n⟩ ((loopsOf b29).getD 0 .skip) := by
  refine ⟨fun _ => by kernel_rfl, ?_⟩
  rintro k ⟨⟨⟨⟩, x1, x2, ⟨⟩⟩, ⟨⟨x3, x4, x5, x6, x7, x8, ⟨⟩⟩, ⟨⟩⟩⟩
  kernel_rfl
theorem ref3_Disk_Crash_2_ok {S : Nat → Addr} (ok : CfgOk P CC S) : ∀ n, SpecOk P CC S 29 ⟨ref3_Disk_Crash_2_ins, ref3_Disk_Crash_2_outs, ref3_Disk_Crash_2 n⟩ :=
  fn_all ok (O := ref3_Disk_Crash_2_O) (H := ref3_Disk_Crash_2_H) (fn := Tryd.f29) (body := b29) (by kernel_rfl) (by kernel_rfl) (by kernel_rfl) (by decide) (by kernel_rfl)
    (fun x => by kernel_rfl) (fun n => by
      rintro ⟨⟨⟨⟩, x1, ⟨⟩⟩, ⟨⟨x2, x3, ⟨⟩, x4, x5, x6, ⟨⟩⟩, ⟨⟩⟩⟩
      kernel_rfl)
    (fun n => obl_of (by kernel_rfl) (by kernel_rfl) (ls (lz) (by kernel_rfl) (ref3_Disk_Crash_2_l1_k0 n)) (cn (cn (cn (cn (cn (cn (cn (cn (cz) (by kernel_rfl)) (by kernel_rfl)) (by kernel_rfl)) (by kernel_rfl)) (by kernel_rfl)) (by kernel_rfl)) (by kernel_rfl)) (by kernel_rfl)))
    (fun n ih => asc_cons (ref3_with_2_ok ok n) <| asc_nil)
/-! ### (*pendulum/pendulumref3.Disk).Read -/
abbrev ref3_Disk_Read_2_ins : Sh := ⟨[(.one (.ptr 0 0)), (.one (.val (.int .i64)))], [(.obj 57 [(.val (.int .i64)), (.val (.int .i64)), (.val ty6), (.val ty6), (.val (.int .i64)), (.val .bool)])]⟩
abbrev ref3_Disk_Read_2_outs : List Sh := [⟨[(.tup [(false, [(.val ty0)]), (false, [(.val .bool)]), (false, [(.val (.int .i64))])])], [(.obj 57 [(.val (.int .i64)), (.val (.int .i64)), (.val ty6), (.val ty6), (.val (.int .i64)), (.val .bool)])]⟩]
def ref3_Disk_Read_2 : Nat → ref3_Disk_Read_2_ins.T → Option (OutsT ref3_Disk_Read_2_outs)
  | 0, _ => none
  | n + 1, ((_, x1, _), ((x2, x3, x4, x5, x6, x7, _), _)) =>
    if x7 then
      some (((([], ()), (false, ()), (119, ()), ()), ()), ((x2, x3, x4, x5, x6, x7, ()), ()))
    else
      if decide (x1 < 0) then
        some (((([], ()), (false, ()), (118, ()), ()), ()), ((x2, x3, x4, x5, x6, x7, ()), ()))
      else
        if decide (x1 ≥ x2) then
          some (((([], ()), (false, ()), (118, ()), ()), ()), ((x2, x3, x4, x5, x6, x7, ()), ()))
        else
          match ref3_find n ((x5, x1, ()), ()) with
          | some ((x8, _), _) => (
            if decide (x8 ≥ 0) then
              if 0 ≤ x8 ∧ x8 < (x5.length : Int) then (
                some (((((rdT ty5 x5 x8).2, ()), (true, ()), (0, ()), ()), ()), ((x2, x3, x4, x5, x6, x7, ()), ()))) else none
            else
              match ref3_find n ((x4, x1, ()), ()) with
              | some ((x9, _), _) => (
                if decide (x9 ≥ 0) then
                  if 0 ≤ x9 ∧ x9 < (x4.length : Int) then (
                    some (((((rdT ty5 x4 x9).2, ()), (true, ()), (0, ()), ()), ()), ((x2, x3, x4, x5, x6, x7, ()), ()))) else none
                else
                  some (((([], ()), (false, ()), (0, ()), ()), ()), ((x2, x3, x4, x5, x6, x7, ()), ())))
              | none => none)
          | none => none
def ref3_Disk_Read_2_H (n : Nat) : Hints := ⟨[], fun _ => [], fun _ => none, fun _ => none⟩
def ref3_Disk_Read_2_O (n : Nat) : FuncId → List FSpec := asc [(41, ⟨ref3_find_ins, ref3_find_outs, ref3_find n⟩)]
theorem ref3_Disk_Read_2_ok {S : Nat → Addr} (ok : CfgOk P CC S) : ∀ n, SpecOk P CC S 30 ⟨ref3_Disk_Read_2_ins, ref3_Disk_Read_2_outs, ref3_Disk_Read_2 n⟩ :=
  fn_all ok (O := ref3_Disk_Read_2_O) (H := ref3_Disk_Read_2_H) (fn := Tryd.f30) (body := b30) (by kernel_rfl) (by kernel_rfl) (by kernel_rfl) (by decide) (by kernel_rfl)
    (fun x => by kernel_rfl) (fun n => by
      rintro ⟨⟨⟨⟩, x1, ⟨⟩⟩, ⟨⟨x2, x3, x4, x5, x6, x7, ⟨⟩⟩, ⟨⟩⟩⟩
      kernel_rfl)
    (fun n => obl_of (by kernel_rfl) (by kernel_rfl) (lz) (cn (cn (cn (cn (cn (cn (cn (cn (cn (cn (cn (cn (cn (cn (cn (cn (cz) (by kernel_rfl)) (by kernel_rfl)) (by kernel_rfl)) (by kernel_rfl)) (by kernel_rfl)) (by kernel_rfl)) (by kernel_rfl)) (by kernel_rfl)) (by kernel_rfl)) (by kernel_rfl)) (by kernel_rfl)) (by kernel_rfl)) (by kernel_rfl)) (by kernel_rfl)) (by kernel_rfl)) (by kernel_rfl)))
    (fun n ih => asc_cons (ref3_find_ok ok n) <| asc_nil)
/-! ### (*pendulum/pendulumref3.Disk).power -/
abbrev ref3_Disk_power_3_ins : Sh := ⟨[(.one (.ptr 0 0))], [(.obj 57 [(.val (.int .i64)), (.val (.int .i64)), (.val ty6), (.val ty6), (.val (.int .i64)), (.val .bool)])]⟩
abbrev ref3_Disk_power_3_outs : List Sh := [⟨[(.one (.val .bool))], [(.obj 57 [(.val (.int .i64)), (.val (.int .i64)), (.val ty6), (.val ty6), (.val (.int .i64)), (.val .bool)])]⟩]
def ref3_Disk_power_3 : Nat → ref3_Disk_power_3_ins.T → Option (OutsT ref3_Disk_power_3_outs)
  | 0, _ => none
  | n + 1, ((_, _), ((x1, x2, x3, x4, x5, x6, _), _)) =>
    if x6 then
      some ((false, ()), ((x1, x2, x3, x4, x5, x6, ()), ()))
    else
      if decide (x5 > 0) then
        let v7 : Int := IntKind.i64.wrap (x5 - 1)
        if v7 == 0 then
          some ((false, ()), ((x1, x2, x3, x4, v7, true, ()), ()))
        else
          some ((true, ()), ((x1, x2, x3, x4, v7, x6, ()), ()))
      else
        some ((true, ()), ((x1, x2, x3, x4, x5, x6, ()), ()))
def ref3_Disk_power_3_H (n : Nat) : Hints := ⟨[], fun _ => [], fun _ => none, fun _ => none⟩
def ref3_Disk_power_3_O (n : Nat) : FuncId → List FSpec := asc []
theorem ref3_Disk_power_3_ok {S : Nat → Addr} (ok : CfgOk P CC S) : ∀ n, SpecOk P CC S 39 ⟨ref3_Disk_power_3_ins, ref3_Disk_power_3_outs, ref3_Disk_power_3 n⟩ :=
  fn_all ok (O := ref3_Disk_power_3_O) (H := ref3_Disk_power_3_H) (fn := Tryd.f39) (body := b39) (by kernel_rfl) (by kernel_rfl) (by kernel_rfl) (by decide) (by kernel_rfl)
    (fun x => by kernel_rfl) (fun n => by
      rintro ⟨⟨⟨⟩, ⟨⟩⟩, ⟨⟨x1, x2, x3, x4, x5, x6, ⟨⟩⟩, ⟨⟩⟩⟩
      kernel_rfl)
    (fun n => obl_of (by kernel_rfl) (by kernel_rfl) (lz) (cn (cn (cn (cn (cn (cn (cn (cn (cn (cn (cn (cz) (by kernel_rfl)) (by kernel_rfl)) (by kernel_rfl)) (by kernel_rfl)) (by kernel_rfl)) (by kernel_rfl)) (by kernel_rfl)) (by kernel_rfl)) (by kernel_rfl)) (by kernel_rfl)) (by kernel_rfl)))
    (fun n ih => asc_nil)
/-! ### (*pendulum/pendulumref3.Disk).Write -/
abbrev ref3_Disk_Write_3_ins : Sh := ⟨[(.one (.ptr 0 0)), (.one (.val (.int .i64))), (.one (.val ty0))], [(.obj 57 [(.val (.int .i64)), (.val (.int .i64)), (.val ty6), (.val ty6), (.val (.int .i64)), (.val .bool)])]⟩
abbrev ref3_Disk_Write_3_outs : List Sh := [⟨[(.one (.val (.int .i64)))], [(.obj 57 [(.val (.int .i64)), (.val (.int .i64)), (.val ty6), (.val ty6), (.val (.int .i64)), (.val .bool)])]⟩]
def ref3_Disk_Write_3 : Nat → ref3_Disk_Write_3_ins.T → Option (OutsT ref3_Disk_Write_3_outs)
  | 0, _ => none
  | n + 1, ((_, x1, x2, _), ((x3, x4, x5, x6, x7, x8, _), _)) =>
    match ref3_Disk_power_3 n (((), ()), ((x3, x4, x5, x6, x7, x8, ()), ())) with
    | some ((x9, _), ((x10, x11, x12, x13, x14, x15, _), _)) => (
      if !x9 then
        some ((119, ()), ((x10, x11, x12, x13, x14, x15, ()), ()))
      else
        if decide (x1 < 0) then
          some ((118, ()), ((x10, x11, x12, x13, x14, x15, ()), ()))
        else
          if decide (x1 ≥ x10) then
            some ((118, ()), ((x10, x11, x12, x13, x14, x15, ()), ()))
          else
            if decide ((x2.length : Int) > 128) then
              some ((103, ()), ((x10, x11, x12, x13, x14, x15, ()), ()))
            else
              match ref_Bytes n ((x2, ()), ()) with
              | some ((_, _), (l16, _)) => (
                match ref3_with_2 n ((x13, (x1, l16, ()), ()), ()) with
                | some ((x17, _), _) => (
                  let v18 : Int := IntKind.i64.wrap (x11 + 1)
                  some ((0, ()), ((x10, v18, x12, x17, x14, x15, ()), ())))
                | none => none)
              | none => none)
    | none => none
def ref3_Disk_Write_3_H (n : Nat) : Hints := ⟨[], fun _ => [], fun _ => none, fun _ => none⟩
def ref3_Disk_Write_3_O (n : Nat) : FuncId → List FSpec := asc [(23, ⟨ref_Bytes_ins, ref_Bytes_outs, ref_Bytes n⟩), (39, ⟨ref3_Disk_power_3_ins, ref3_Disk_power_3_outs, ref3_Disk_power_3 n⟩), (40, ⟨ref3_with_2_ins, ref3_with_2_outs, ref3_with_2 n⟩)]
theorem ref3_Disk_Write_3_ok {S : Nat → Addr} (ok : CfgOk P CC S) : ∀ n, SpecOk P CC S 26 ⟨ref3_Disk_Write_3_ins, ref3_Disk_Write_3_outs, ref3_Disk_Write_3 n⟩ :=
  fn_all ok (O := ref3_Disk_Write_3_O) (H := ref3_Disk_Write_3_H) (fn := Tryd.f26) (body := b26) (by kernel_rfl) (by kernel_rfl) (by kernel_rfl) (by decide) (by kernel_rfl)
    (fun x => by kernel_rfl) (fun n => by
      rintro ⟨⟨⟨⟩, x1, x2, ⟨⟩⟩, ⟨⟨x3, x4, x5, x6, x7, x8, ⟨⟩⟩, ⟨⟩⟩⟩
      kernel_rfl)
    (fun n => obl_of (by kernel_rfl) (by kernel_rfl) (lz) (cn (cn (cn (cn (cn (cn (cn (cn (cn (cn (cn (cn (cn (cz) (by kernel_rfl)) (by kernel_rfl)) (by kernel_rfl)) (by kernel_rfl)) (by kernel_rfl)) (by kernel_rfl)) (by kernel_rfl)) (by kernel_rfl)) (by kernel_rfl)) (by kernel_rfl)) (by kernel_rfl)) (by kernel_rfl)) (by kernel_rfl)))
    (fun n ih => asc_cons (ref_Bytes_ok ok n) <| asc_cons (ref3_Disk_power_3_ok ok n) <| asc_cons (ref3_with_2_ok ok n) <| asc_nil)
/-! ### (*pendulum/pendulumref3.Disk).Flush -/
abbrev ref3_Disk_Flush_3_ins : Sh := ⟨[(.one (.ptr 0 0))], [(.obj 57 [(.val (.int .i64)), (.val (.int .i64)), (.val ty6), (.val ty6), (.val (.int .i64)), (.val .bool)])]⟩
abbrev ref3_Disk_Flush_3_outs : List Sh := [⟨[(.one (.val (.int .i64)))], [(.obj 57 [(.val (.int .i64)), (.val (.int .i64)), (.val ty6), (.val ty6), (.val (.int .i64)), (.val .bool)])]⟩]
abbrev ref3_Disk_Flush_3_l4_h : Sh := ⟨[(.one (.ptr 0 0)), (.one (.val (.int .i64)))], [(.obj 57 [(.val (.int .i64)), (.val (.int .i64)), (.val ty6), (.val ty6), (.val (.int .i64)), (.val .bool)])]⟩
abbrev ref3_Disk_Flush_3_l4_o : List Out := [⟨(.exit 0), [0], ⟨[(.one (.ptr 0 0))], [(.obj 57 [(.val (.int .i64)), (.val (.int .i64)), (.val ty6), (.val ty6), (.val (.int .i64)), (.val .bool)])]⟩⟩]
def ref3_Disk_Flush_3_l4 (n : Nat) : Nat → ref3_Disk_Flush_3_l4_h.T → Option (OutT ref3_Disk_Flush_3_l4_o)
  | 0, _ => none
  | k + 1, ((_, x1, _), ((x2, x3, x4, x5, x6, x7, _), _)) =>
    if decide (x1 < (x5.length : Int)) then
      if 0 ≤ x1 ∧ x1 < (x5.length : Int) then (
        match ref3_with_2 n ((x4, ((rdT ty5 x5 x1).1, (rdT ty5 x5 x1).2, ()), ()), ()) with
        | some ((x8, _), _) => (
          let v9 : Int := IntKind.i64.wrap (x1 + 1)
          ref3_Disk_Flush_3_l4 n k (((), v9, ()), ((x2, x3, x8, x5, x6, x7, ()), ())))
        | none => none) else none
    else
      some (.inl (((), ()), ((x2, x3, x4, x5, x6, x7, ()), ())))
def ref3_Disk_Flush_3 : Nat → ref3_Disk_Flush_3_ins.T → Option (OutsT ref3_Disk_Flush_3_outs)
  | 0, _ => none
  | n + 1, ((_, _), ((x1, x2, x3, x4, x5, x6, _), _)) =>
    match ref3_Disk_power_3 n (((), ()), ((x1, x2, x3, x4, x5, x6, ()), ())) with
    | some ((x7, _), ((x8, x9, x10, x11, x12, x13, _), _)) => (
      if !x7 then
        some ((119, ()), ((x8, x9, x10, x11, x12, x13, ()), ()))
      else
        match ref3_Disk_Flush_3_l4 n n (((), 0, ()), ((x8, x9, x10, x11, x12, x13, ()), ())) with
        | some (.inl ((_, _), ((x14, x15, x16, x17, x18, x19, _), _))) => (
          let v20 : Int := IntKind.i64.wrap (x15 + 1)
          some ((0, ()), ((x14, v20, x16, [], x18, x19, ()), ())))
        | some (.inr (_)) => none
        | none => none)
    | none => none
def ref3_Disk_Flush_3_H (n : Nat) : Hints := ⟨[], fun _ => [], fun k => match k with | 4 => some ⟨[0, 3], ref3_Disk_Flush_3_l4_h, ref3_Disk_Flush_3_l4_o, ref3_Disk_Flush_3_l4 n⟩ | _ => none, fun _ => none⟩
def ref3_Disk_Flush_3_O (n : Nat) : FuncId → List FSpec := asc [(39, ⟨ref3_Disk_power_3_ins, ref3_Disk_power_3_outs, ref3_Disk_power_3 n⟩), (40, ⟨ref3_with_2_ins, ref3_with_2_outs, ref3_with_2 n⟩)]
theorem ref3_Disk_Flush_3_l4_k0 (n : Nat) : LoopOk P CC (ref3_Disk_Flush_3_O n) n 1 42 (ref3_Disk_Flush_3_H n) ⟨[0, 3], ref3_Disk_Flush_3_l4_h, ref3_Disk_Flush_3_l4_o, ref3_Disk_Flush_3_l4 n⟩ ((loopsOf b27).getD 0 .skip) := by
  refine ⟨fun _ => by kernel_rfl, ?_⟩
  rintro k ⟨⟨⟨⟩, x1, ⟨⟩⟩, ⟨⟨x2, x3, x4, x5, x6, x7, ⟨⟩⟩, ⟨⟩⟩⟩
  kernel_rfl
theorem ref3_Disk_Flush_3_ok {S : Nat → Addr} (ok : CfgOk P CC S) : ∀ n, SpecOk P CC S 27 ⟨ref3_Disk_Flush_3_ins, ref3_Disk_Flush_3_outs, ref3_Disk_Flush_3 n⟩ :=
  fn_all ok (O := ref3_Disk_Flush_3_O) (H := ref3_Disk_Flush_3_H) (fn := Tryd.f27) (body := b27) (by kernel_rfl) (by kernel_rfl) (by kernel_rfl) (by decide) (by kernel_rfl)
    (fun x => by kernel_rfl) (fun n => by
      rintro ⟨⟨⟨⟩, ⟨⟩⟩, ⟨⟨x1, x2, x3, x4, x5, x6, ⟨⟩⟩, ⟨⟩⟩⟩
      kernel_rfl)
    (fun n => obl_of (by kernel_rfl) (by kernel_rfl) (ls (lz) (by kernel_rfl) (ref3_Disk_Flush_3_l4_k0 n)) (cn (cn (cn (cn (cn (cn (cn (cn (cn (cn (cn (cn (cz) (by kernel_rfl)) (by kernel_rfl)) (by kernel_rfl)) (by kernel_rfl)) (by kernel_rfl)) (by kernel_rfl)) (by kernel_rfl)) (by kernel_rfl)) (by kernel_rfl)) (by kernel_rfl)) (by kernel_rfl)) (by kernel_rfl)))
    (fun n ih => asc_cons (ref3_Disk_power_3_ok ok n) <| asc_cons (ref3_with_2_ok ok n) <| asc_nil)
/-! ### (*pendulum/pendulumref3.Disk).Arm -/
abbrev ref3_Disk_Arm_3_ins : Sh := ⟨[(.one (.ptr 0 0)), (.one (.val (.int .i64)))], [(.obj 57 [(.val (.int .i64)), (.val (.int .i64)), (.val ty6), (.val ty6), (.val (.int .i64)), (.val .bool)])]⟩
abbrev ref3_Disk_Arm_3_outs : List Sh := [⟨[(.tup [])], [(.obj 57 [(.val (.int .i64)), (.val (.int .i64)), (.val ty6), (.val ty6), (.val (.int .i64)), (.val .bool)])]⟩]
def ref3_Disk_Arm_3 : Nat → ref3_Disk_Arm_3_ins.T → Option (OutsT ref3_Disk_Arm_3_outs)
  | 0, _ => none
  | n + 1, ((_, x1, _), ((x2, x3, x4, x5, x6, x7, _), _)) =>
    some (((), ()), ((x2, x3, x4, x5, mx x1 0, x7, ()), ()))
def ref3_Disk_Arm_3_H (n : Nat) : Hints := ⟨[], fun _ => [], fun _ => none, fun _ => none⟩
def ref3_Disk_Arm_3_O (n : Nat) : FuncId → List FSpec := asc []
theorem ref3_Disk_Arm_3_ok {S : Nat → Addr} (ok : CfgOk P CC S) : ∀ n, SpecOk P CC S 28 ⟨ref3_Disk_Arm_3_ins, ref3_Disk_Arm_3_outs, ref3_Disk_Arm_3 n⟩ :=
  fn_all ok (O := ref3_Disk_Arm_3_O) (H := ref3_Disk_Arm_3_H) (fn := Tryd.f28) (body := b28) (by kernel_rfl) (by kernel_rfl) (by kernel_rfl) (by decide) (by kernel_rfl)
    (fun x => by kernel_rfl) (fun n => by
      rintro ⟨⟨⟨⟩, x1, ⟨⟩⟩, ⟨⟨x2, x3, x4, x5, x6, x7, ⟨⟩⟩, ⟨⟩⟩⟩
      kernel_rfl)
    (fun n => obl_of (by kernel_rfl) (by kernel_rfl) (lz) (cz))
    (fun n ih => asc_nil)
/-! ### (*pendulum/pendulumref3.Disk).Crash -/
abbrev ref3_Disk_Crash_3_ins : Sh := ⟨[(.one (.ptr 0 0)), (.one (.val ty4))], [(.obj 57 [(.val (.int .i64)), (.val (.int .i64)), (.val ty6), (.val ty6), (.val (.int .i64)), (.val .bool)])]⟩
abbrev ref3_Disk_Crash_3_outs : List Sh := [⟨[(.tup [])], [(.obj 57 [(.val (.int .i64)), (.val (.int .i64)), (.val ty6), (.emp true), (.val (.int .i64)), (.val .bool)])]⟩]
abbrev ref3_Disk_Crash_3_l1_h : Sh := ⟨[(.one (.ptr 0 0)), (.one (.val ty4)), (.one (.val (.int .i64)))], [(.obj 57 [(.val (.int .i64)), (.val (.int .i64)), (.val ty6), (.val ty6), (.val (.int .i64)), (.val .bool)])]⟩
abbrev ref3_Disk_Crash_3_l1_o : List Out := [⟨(.exit 0), [0], ⟨[(.one (.ptr 0 0))], [(.obj 57 [(.val (.int .i64)), (.val (.int .i64)), (.val ty6), (.val ty6), (.val (.int .i64)), (.val .bool)])]⟩⟩]
def ref3_Disk_Crash_3_l1 (n : Nat) : Nat → ref3_Disk_Crash_3_l1_h.T → Option (OutT ref3_Disk_Crash_3_l1_o)
  | 0, _ => none
  | k + 1, ((_, x1, x2, _), ((x3, x4, x5, x6, x7, x8, _), _)) =>
    if decide (x2 < (x6.length : Int)) then
      if decide (x2 < (x1.length : Int)) then
        if 0 ≤ x2 ∧ x2 < (x1.length : Int) then (
          let v9 : Int := rdT ((.int .i64) : Ty) x1 x2
          if bitsOp .and .i64 v9 1 == 1 then
            if 0 ≤ x2 ∧ x2 < (x6.length : Int) then (
              match ref3_with_2 n ((x5, ((rdT ty5 x6 x2).1, (rdT ty5 x6 x2).2, ()), ()), ()) with
              | some ((x10, _), _) => (
                let v11 : Int := IntKind.i64.wrap (x2 + 1)
                ref3_Disk_Crash_3_l1 n k (((), x1, v11, ()), ((x3, x4, x10, x6, x7, x8, ()), ())))
              | none => none) else none
          else
            let v12 : Int := IntKind.i64.wrap (x2 + 1)
            ref3_Disk_Crash_3_l1 n k (((), x1, v12, ()), ((x3, x4, x5, x6, x7, x8, ()), ()))) else none
      else
        let v13 : Int := IntKind.i64.wrap (x2 + 1)
        ref3_Disk_Crash_3_l1 n k (((), x1, v13, ()), ((x3, x4, x5, x6, x7, x8, ()), ()))
    else
      some (.inl (((), ()), ((x3, x4, x5, x6, x7, x8, ()), ())))
def ref3_Disk_Crash_3 : Nat → ref3_Disk_Crash_3_ins.T → Option (OutsT ref3_Disk_Crash_3_outs)
  | 0, _ => none
  | n + 1, ((_, x1, _), ((x2, x3, x4, x5, x6, x7, _), _)) =>
    match ref3_Disk_Crash_3_l1 n n (((), x1, 0, ()), ((x2, x3, x4, x5, x6, x7, ()), ())) with
    | some (.inl ((_, _), ((x8, x9, x10, x11, x12, x13, _), _))) => (
      some (((), ()), ((x8, x9, x10, (), 0, false, ()), ())))
    | some (.inr (_)) => none
    | none => none
def ref3_Disk_Crash_3_H (n : Nat) : Hints := ⟨[], fun _ => [], fun k => match k with | 1 => some ⟨[0, 1, 4], ref3_Disk_Crash_3_l1_h, ref3_Disk_Crash_3_l1_o, ref3_Disk_Crash_3_l1 n⟩ | _ => none, fun _ => none⟩
def ref3_Disk_Crash_3_O (n : Nat) : FuncId → List FSpec := asc [(40, ⟨ref3_with_2_ins, ref3_with_2_outs, ref3_with_2 n⟩)]
theorem ref3_Disk_Crash_3_l1_k0 (n : Nat) : LoopOk P CC (ref3_Disk_Crash_3_O n) n 1 50 (ref3_Disk_Crash_3_H n) ⟨[0, 1, 4], ref3_Disk_Crash_3_l1_h, ref3_Disk_Crash_3_l1_o, ref3_Disk_Crash_3_l1 n⟩ ((loopsOf b29).getD 0 .skip) := by
  refine ⟨fun _ => by kernel_rfl, ?_⟩
  rintro k ⟨⟨⟨⟩, x1, x2, ⟨⟩⟩, ⟨⟨x3, x4, x5, x6, x7, x8, ⟨⟩⟩, ⟨⟩⟩⟩
  kernel_rfl
theorem ref3_Disk_Crash_3_ok {S : Nat → Addr} (ok : CfgOk P CC S) : ∀ n, SpecOk P CC S 29 ⟨ref3_Disk_Crash_3_ins, ref3_Disk_Crash_3_outs, ref3_Disk_Crash_3 n⟩ :=
  fn_all ok (O := ref3_Disk_Crash_3_O) (H := ref3_Disk_Crash_3_H) (fn := Tryd.f29) (body := b29) (by kernel_rfl) (by kernel_rfl) (by kernel_rfl) (by decide) (by kernel_rfl)
    (fun x => by kernel_rfl) (fun n => by
      rintro ⟨⟨⟨⟩, x1, ⟨⟩⟩, ⟨⟨x2, x3, x4, x5, x6, x7, ⟨⟩⟩, ⟨⟩⟩⟩
      kernel_rfl)
    (fun n => obl_of (by kernel_rfl) (by kernel_rfl) (ls (lz) (by kernel_rfl) (ref3_Disk_Crash_3_l1_k0 n)) (cn (cn (cn (cn (cn (cn (cn (cn (cz) (by kernel_rfl)) (by kernel_rfl)) (by kernel_rfl)) (by kernel_rfl)) (by kernel_rfl)) (by kernel_rfl)) (by kernel_rfl)) (by kernel_rfl)))
    (fun n ih => asc_cons (ref3_with_2_ok ok n) <| asc_nil)
end
end Go.Proofs.YtgpoomkbkckbaaaDoor.Cm

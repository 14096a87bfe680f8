/- Printed by cmtext.py: the code as plain functions. -/
import Derived.Test.YtgpoomkbkckbaaaDoorCmFo
import Derived.Test.YtgpoomkbkckbaaaDoorShelf
import Derived.Test.YtgpoomkbkckbaaaDoorCmMp
import Derived.Test.YtgpoomkbkckbaaaDoorCmMq
namespace Go.Proofs.YtgpoomkbkckbaaaDoor.Cm
open Go
noncomputable section
set_option linter.unusedVariables false
set_option maxRecDepth 100000
abbrev P := Tryd.prog
abbrev CC : Cfg := ⟨119, 84, 88, [(101, 4), (102, 5), (103, 3), (104, 0), (105, 6), (106, 7), (107, 8), (108, 9), (109, 10), (110, 11), (111, 12), (112, 13), (113, 14), (114, 15), (115, 16), (116, 17), (117, 18), (118, 2), (119, 1), (120, 19), (121, 20)], []⟩
abbrev ty0 : Ty := (.slice 5 (.int .u8))
abbrev ty1 : Ty := (.slice 3 (.int .i64))
/-! ### pendulum/disk.New -/
abbrev disk_New_ins : Sh := ⟨[(.one (.val (.int .i64)))], []⟩
abbrev disk_New_outs : List Sh := [⟨[(.tup [(false, [(.ptr 0 0)]), (false, [(.val .err)])])], [(.obj 63 [(.val (.int .i64)), (.map 1), (.map 2), (.val (.int .i64)), (.val (.int .i64)), (.val .bool)]), (.map (.int .i64) ty0 false), (.map (.int .i64) ty0 false)]⟩, ⟨[(.tup [(false, [.nilp]), (false, [(.val .err)])])], []⟩]
def disk_New : Nat → disk_New_ins.T → Option (OutsT disk_New_outs)
  | 0, _ => none
  | n + 1, ((x1, _), _) =>
    if decide (x1 < 1) then
      some (.inr ((((((), ()), (ErrV.sent 104, ()), ()), ()), ())))
    else
      if decide (x1 > 16384) then
        some (.inr ((((((), ()), (ErrV.sent 104, ()), ()), ()), ())))
      else
        some (.inl (((((), ()), (ErrV.nil, ()), ()), ()), ((x1, (), (), 0, 0, false, ()), [], [], ())))
def disk_New_H (n : Nat) : Hints := ⟨[], fun _ => [], fun _ => none, fun _ => none⟩
def disk_New_O (n : Nat) : FuncId → List FSpec := asc []
def b11 : Code := bodyOf Tryd.f11
theorem disk_New_ok {S : Nat → Addr} (ok : CfgOk P CC S) : ∀ n, SpecOk P CC S 11 ⟨disk_New_ins, disk_New_outs, disk_New n⟩ :=
  fn_all ok (O := disk_New_O) (H := disk_New_H) (fn := Tryd.f11) (body := b11) (by kernel_rfl) (by kernel_rfl) (by kernel_rfl) (by decide) (by kernel_rfl)
    (fun x => by kernel_rfl) (fun n => by
      rintro ⟨⟨x1, ⟨⟩⟩, ⟨⟩⟩
      kernel_rfl)
    (fun n => obl_of (by kernel_rfl) (by kernel_rfl) (lz) (cn (cn (cn (cn (cn (cz) (by kernel_rfl)) (by kernel_rfl)) (by kernel_rfl)) (by kernel_rfl)) (by kernel_rfl)))
    (fun n ih => asc_nil)
/-! ### (*pendulum/disk.Disk).up -/
abbrev disk_Disk_up_ins : Sh := ⟨[(.one (.ptr 0 0))], [(.obj 63 [(.val (.int .i64)), (.map 1), (.map 2), (.val (.int .i64)), (.val (.int .i64)), (.val .bool)]), (.map (.int .i64) ty0 false), (.map (.int .i64) ty0 false)]⟩
abbrev disk_Disk_up_outs : List Sh := [⟨[(.one (.val .bool))], [(.obj 63 [(.val (.int .i64)), (.map 1), (.map 2), (.val (.int .i64)), (.val (.int .i64)), (.val .bool)]), (.map (.int .i64) ty0 false), (.map (.int .i64) ty0 false)]⟩]
abbrev disk_Disk_up_c4_h : Sh := ⟨[(.one (.ptr 0 0))], [(.obj 63 [(.val (.int .i64)), (.map 1), (.map 2), (.val (.int .i64)), (.val (.int .i64)), (.val .bool)]), (.map (.int .i64) ty0 false), (.map (.int .i64) ty0 false)]⟩
abbrev disk_Disk_up_c4_o : List Out := [⟨.normal, [0], ⟨[(.one (.ptr 0 0))], [(.obj 63 [(.val (.int .i64)), (.map 1), (.map 2), (.val (.int .i64)), (.val (.int .i64)), (.val .bool)]), (.map (.int .i64) ty0 false), (.map (.int .i64) ty0 false)]⟩⟩]
def disk_Disk_up_c4 (n : Nat) : disk_Disk_up_c4_h.T → Option (OutT disk_Disk_up_c4_o)
  | ((_, _), ((x1, _, _, x2, x3, x4, _), m5, m6, _)) =>
    if !x4 then
      if decide (x3 > 0) then
        let v7 : Int := IntKind.i64.wrap (x3 - 1)
        some (.inl (((), ()), ((x1, (), (), x2, v7, v7 == 0, ()), m5, m6, ())))
      else
        some (.inl (((), ()), ((x1, (), (), x2, x3, x4, ()), m5, m6, ())))
    else
      some (.inl (((), ()), ((x1, (), (), x2, x3, x4, ()), m5, m6, ())))
def disk_Disk_up : Nat → disk_Disk_up_ins.T → Option (OutsT disk_Disk_up_outs)
  | 0, _ => none
  | n + 1, ((_, _), ((x1, _, _, x2, x3, x4, _), m5, m6, _)) =>
    match disk_Disk_up_c4 n (((), ()), ((x1, (), (), x2, x3, x4, ()), m5, m6, ())) with
    | some (.inl ((_, _), ((x7, _, _, x8, x9, x10, _), m11, m12, _))) => (
      some ((!x10, ()), ((x7, (), (), x8, x9, x10, ()), m11, m12, ())))
    | some (.inr (_)) => none
    | none => none
def disk_Disk_up_H (n : Nat) : Hints := ⟨[], fun _ => [], fun _ => none, fun k => match k with | 4 => some ⟨[0], disk_Disk_up_c4_h, disk_Disk_up_c4_o, fun n => disk_Disk_up_c4 n⟩ | _ => none⟩
def disk_Disk_up_O (n : Nat) : FuncId → List FSpec := asc []
def b33 : Code := bodyOf Tryd.f33
theorem disk_Disk_up_c4_k1 (n : Nat) : CutOk P CC (disk_Disk_up_O n) n 3 35 (disk_Disk_up_H n) ⟨[0], disk_Disk_up_c4_h, disk_Disk_up_c4_o, fun n => disk_Disk_up_c4 n⟩ ((cutsOf b33).getD 1 (0, .skip)).2 := by
  rintro ⟨⟨⟨⟩, ⟨⟩⟩, ⟨⟨x1, ⟨⟩, ⟨⟩, x2, x3, x4, ⟨⟩⟩, x5, x6, ⟨⟩⟩⟩
  kernel_rfl
theorem disk_Disk_up_ok {S : Nat → Addr} (ok : CfgOk P CC S) : ∀ n, SpecOk P CC S 33 ⟨disk_Disk_up_ins, disk_Disk_up_outs, disk_Disk_up n⟩ :=
  fn_all ok (O := disk_Disk_up_O) (H := disk_Disk_up_H) (fn := Tryd.f33) (body := b33) (by kernel_rfl) (by kernel_rfl) (by kernel_rfl) (by decide) (by kernel_rfl)
    (fun x => by kernel_rfl) (fun n => by
      rintro ⟨⟨⟨⟩, ⟨⟩⟩, ⟨⟨x1, ⟨⟩, ⟨⟩, x2, x3, x4, ⟨⟩⟩, x5, x6, ⟨⟩⟩⟩
      kernel_rfl)
    (fun n => obl_of (by kernel_rfl) (by kernel_rfl) (lz) (cn (cn (cn (cs (cn (cz) (by kernel_rfl)) (by kernel_rfl) (disk_Disk_up_c4_k1 n)) (by kernel_rfl)) (by kernel_rfl)) (by kernel_rfl)))
    (fun n ih => asc_nil)
/-! ### slices.Clone[[]byte,byte] -/
abbrev slices_Clone_byte_byte_raw_ins : Sh := ⟨[(.one (.val ty0))], []⟩
abbrev slices_Clone_byte_byte_raw_outs : List Sh := [⟨[(.one (.arr 0))], [(.arr 5 (.int .u8))]⟩]
def slices_Clone_byte_byte_raw : Nat → slices_Clone_byte_byte_raw_ins.T → Option (OutsT slices_Clone_byte_byte_raw_outs)
  | 0, _ => none
  | n + 1, ((x1, _), _) =>
    if (x1.isEmpty || (Ty.size ((.int .u8) : Ty) == 0)) = true then
      both fun b2 =>
        if b2 then
          some (((), ()), ([], ()))
        else
          if (([] : List ((.int .u8) : Ty).T).length + x1.length) * 1 ≤ 140737488355328 then (
            some (((), ()), ([] ++ x1, ()))) else none
    else
      if (([] : List ((.int .u8) : Ty).T).length + x1.length) * 1 ≤ 140737488355328 then (
        some (((), ()), ([] ++ x1, ()))) else none
def slices_Clone_byte_byte_raw_H (n : Nat) : Hints := ⟨[], fun _ => [], fun _ => none, fun _ => none⟩
def slices_Clone_byte_byte_raw_O (n : Nat) : FuncId → List FSpec := asc []
def b34 : Code := bodyOf Tryd.f34
theorem slices_Clone_byte_byte_raw_ok {S : Nat → Addr} (ok : CfgOk P CC S) : ∀ n, SpecOk P CC S 34 ⟨slices_Clone_byte_byte_raw_ins, slices_Clone_byte_byte_raw_outs, slices_Clone_byte_byte_raw n⟩ :=
  fn_all ok (O := slices_Clone_byte_byte_raw_O) (H := slices_Clone_byte_byte_raw_H) (fn := Tryd.f34) (body := b34) (by kernel_rfl) (by kernel_rfl) (by kernel_rfl) (by decide) (by kernel_rfl)
    (fun x => by kernel_rfl) (fun n => by
      rintro ⟨⟨x1, ⟨⟩⟩, ⟨⟩⟩
      kernel_rfl)
    (fun n => obl_of (by kernel_rfl) (by kernel_rfl) (lz) (cn (cn (cn (cn (cn (cz) (by kernel_rfl)) (by kernel_rfl)) (by kernel_rfl)) (by kernel_rfl)) (by kernel_rfl)))
    (fun n ih => asc_nil)
abbrev slices_Clone_byte_byte_ins : Sh := slices_Clone_byte_byte_raw_ins
abbrev slices_Clone_byte_byte_outs : List Sh := slices_Clone_byte_byte_raw_outs
def slices_Clone_byte_byte : Nat → slices_Clone_byte_byte_ins.T → Option (OutsT slices_Clone_byte_byte_outs)
  | 0, _ => none
  | n + 1, ((x1, _), _) => if (([] : List ((.int .u8) : Ty).T).length + x1.length) * 1 ≤ 140737488355328 then (some (((), ()), (x1, ()))) else none
theorem slices_Clone_byte_byte_ok {S : Nat → Addr} (ok : CfgOk P CC S) : ∀ n, SpecOk P CC S 34 ⟨slices_Clone_byte_byte_ins, slices_Clone_byte_byte_outs, slices_Clone_byte_byte n⟩ := fun n => (slices_Clone_byte_byte_raw_ok ok n).weaken fun x y h => by
  cases n with
  | zero => cases h
  | succ n =>
    obtain ⟨⟨x1, ⟨⟩⟩, ⟨⟩⟩ := x
    simp only [slices_Clone_byte_byte] at h
    split at h
    · rename_i hc
      cases h
      simp only [slices_Clone_byte_byte_raw]
      split
      · rename_i he
        have h0 : x1 = [] := by simpa [Ty.size] using he
        subst h0
        exact both_same rfl rfl
      · first | rfl | (rw [if_pos hc]; rfl)
    · cases h
/-! ### (*pendulum/disk.Disk).Write -/
abbrev disk_Disk_Write_ins : Sh := ⟨[(.one (.ptr 0 0)), (.one (.val (.int .i64))), (.one (.arr 1))], [(.obj 63 [(.val (.int .i64)), (.map 2), (.map 3), (.val (.int .i64)), (.val (.int .i64)), (.val .bool)]), (.arr 5 (.int .u8)), (.map (.int .i64) ty0 false), (.map (.int .i64) ty0 false)]⟩
abbrev disk_Disk_Write_outs : List Sh := [⟨[(.one (.val .err))], [(.obj 63 [(.val (.int .i64)), (.map 2), (.map 3), (.val (.int .i64)), (.val (.int .i64)), (.val .bool)]), .dead, (.map (.int .i64) ty0 false), (.map (.int .i64) ty0 false)]⟩]
def disk_Disk_Write : Nat → disk_Disk_Write_ins.T → Option (OutsT disk_Disk_Write_outs)
  | 0, _ => none
  | n + 1, ((_, x1, _, _), ((x2, _, _, x3, x4, x5, _), l6, m7, m8, _)) =>
    match disk_Disk_up n (((), ()), ((x2, (), (), x3, x4, x5, ()), m7, m8, ())) with
    | some ((x9, _), ((x10, _, _, x11, x12, x13, _), m14, m15, _)) => (
      if !x9 then
        some ((ErrV.sent 119, ()), ((x10, (), (), x11, x12, x13, ()), (), m14, m15, ()))
      else
        if decide (x1 < 0) then
          some ((ErrV.sent 118, ()), ((x10, (), (), x11, x12, x13, ()), (), m14, m15, ()))
        else
          if decide (x1 ≥ x10) then
            some ((ErrV.sent 118, ()), ((x10, (), (), x11, x12, x13, ()), (), m14, m15, ()))
          else
            if decide ((l6.length : Int) > 128) then
              some ((ErrV.sent 103, ()), ((x10, (), (), x11, x12, x13, ()), (), m14, m15, ()))
            else
              match slices_Clone_byte_byte n ((l6, ()), ()) with
              | some ((_, _), (l16, _)) => (
                let v17 : Int := IntKind.i64.wrap (x11 + 1)
                some ((ErrV.nil, ()), ((x10, (), (), v17, x12, x13, ()), (), m14, mset (keyEq ((.int .i64) : Ty)) x1 l16 m15, ())))
              | none => none)
    | none => none
def disk_Disk_Write_H (n : Nat) : Hints := ⟨[], fun _ => [], fun _ => none, fun _ => none⟩
def disk_Disk_Write_O (n : Nat) : FuncId → List FSpec := asc [(33, ⟨disk_Disk_up_ins, disk_Disk_up_outs, disk_Disk_up n⟩), (34, ⟨slices_Clone_byte_byte_ins, slices_Clone_byte_byte_outs, slices_Clone_byte_byte n⟩)]
def b14 : Code := bodyOf Tryd.f14
theorem disk_Disk_Write_ok {S : Nat → Addr} (ok : CfgOk P CC S) : ∀ n, SpecOk P CC S 14 ⟨disk_Disk_Write_ins, disk_Disk_Write_outs, disk_Disk_Write n⟩ :=
  fn_all ok (O := disk_Disk_Write_O) (H := disk_Disk_Write_H) (fn := Tryd.f14) (body := b14) (by kernel_rfl) (by kernel_rfl) (by kernel_rfl) (by decide) (by kernel_rfl)
    (fun x => by kernel_rfl) (fun n => by
      rintro ⟨⟨⟨⟩, x1, ⟨⟩, ⟨⟩⟩, ⟨⟨x2, ⟨⟩, ⟨⟩, x3, x4, x5, ⟨⟩⟩, x6, x7, x8, ⟨⟩⟩⟩
      kernel_rfl)
    (fun n => obl_of (by kernel_rfl) (by kernel_rfl) (lz) (cn (cn (cn (cn (cn (cn (cn (cn (cn (cn (cn (cz) (by kernel_rfl)) (by kernel_rfl)) (by kernel_rfl)) (by kernel_rfl)) (by kernel_rfl)) (by kernel_rfl)) (by kernel_rfl)) (by kernel_rfl)) (by kernel_rfl)) (by kernel_rfl)) (by kernel_rfl)))
    (fun n ih => asc_cons (disk_Disk_up_ok ok n) <| asc_cons (slices_Clone_byte_byte_ok ok n) <| asc_nil)
/-! ### maps.Keys[map[int][]byte,int,[]byte] -/
abbrev maps_Keys_map_int_byte_int_byte_ins : Sh := ⟨[(.one (.map 0))], [(.map (.int .i64) ty0 false)]⟩
abbrev maps_Keys_map_int_byte_int_byte_outs : List Sh := [⟨[(.one (.fn 46 [1]))], [(.map (.int .i64) ty0 false), (.obj 61 [(.map 0)])]⟩]
def maps_Keys_map_int_byte_int_byte : Nat → maps_Keys_map_int_byte_int_byte_ins.T → Option (OutsT maps_Keys_map_int_byte_int_byte_outs)
  | 0, _ => none
  | n + 1, ((_, _), (m1, _)) =>
    some (((), ()), (m1, ((), ()), ()))
def maps_Keys_map_int_byte_int_byte_H (n : Nat) : Hints := ⟨[], fun _ => [], fun _ => none, fun _ => none⟩
def maps_Keys_map_int_byte_int_byte_O (n : Nat) : FuncId → List FSpec := asc []
def b37 : Code := bodyOf Tryd.f37
theorem maps_Keys_map_int_byte_int_byte_ok {S : Nat → Addr} (ok : CfgOk P CC S) : ∀ n, SpecOk P CC S 37 ⟨maps_Keys_map_int_byte_int_byte_ins, maps_Keys_map_int_byte_int_byte_outs, maps_Keys_map_int_byte_int_byte n⟩ :=
  fn_all ok (O := maps_Keys_map_int_byte_int_byte_O) (H := maps_Keys_map_int_byte_int_byte_H) (fn := Tryd.f37) (body := b37) (by kernel_rfl) (by kernel_rfl) (by kernel_rfl) (by decide) (by kernel_rfl)
    (fun x => by kernel_rfl) (fun n => by
      rintro ⟨⟨⟨⟩, ⟨⟩⟩, ⟨x1, ⟨⟩⟩⟩
      kernel_rfl)
    (fun n => obl_of (by kernel_rfl) (by kernel_rfl) (lz) (cn (cn (cz) (by kernel_rfl)) (by kernel_rfl)))
    (fun n ih => asc_nil)
/-! ### slices.Sorted[int] (by hand) -/
abbrev slices_Sorted_int_ins : Sh := ⟨[(.one (.fn 46 [0]))], [(.obj 61 [(.map 1)]), (.map (.int .i64) ty0 false)]⟩
abbrev slices_Sorted_int_outs : List Sh := [⟨[(.one (.arr 2))], [(.obj 61 [(.map 1)]), (.map (.int .i64) ty0 false), (.arr 3 (.int .i64))]⟩]
def slices_Sorted_int : Nat → slices_Sorted_int_ins.T → Option (OutsT slices_Sorted_int_outs) := fun _ => sortedSem 61 3 ty0 false 46
theorem slices_Sorted_int_ok {S : Nat → Addr} (ok : CfgOk P CC S) : ∀ n, SpecOk P CC S 36 ⟨slices_Sorted_int_ins, slices_Sorted_int_outs, slices_Sorted_int n⟩ := fun n => sorted_spec (ty := 3) ⟨Tryd.f36, by kernel_rfl, by kernel_rfl, by kernel_rfl⟩ (by kernel_rfl) Sq.sorted_calls
/-! ### (*pendulum/disk.Disk).Crash -/
abbrev disk_Disk_Crash_ins : Sh := ⟨[(.one (.ptr 0 0)), (.one (.arr 1))], [(.obj 63 [(.val (.int .i64)), (.map 2), (.map 3), (.val (.int .i64)), (.val (.int .i64)), (.val .bool)]), (.arr 3 (.int .i64)), (.map (.int .i64) ty0 false), (.map (.int .i64) ty0 false)]⟩
abbrev disk_Disk_Crash_outs : List Sh := [⟨[(.tup [])], [(.obj 63 [(.val (.int .i64)), (.map 2), (.map 3), (.val (.int .i64)), (.val (.int .i64)), (.val .bool)]), (.arr 3 (.int .i64)), (.map (.int .i64) ty0 false), (.map (.int .i64) ty0 false)]⟩]
abbrev disk_Disk_Crash_l1_h : Sh := ⟨[(.one (.ptr 0 0)), (.one (.arr 1)), (.one (.arr 4)), (.one (.val (.int .i64))), (.one (.val (.int .i64)))], [(.obj 63 [(.val (.int .i64)), (.map 2), (.map 3), (.val (.int .i64)), (.val (.int .i64)), (.val .bool)]), (.arr 3 (.int .i64)), (.map (.int .i64) ty0 false), (.map (.int .i64) ty0 false), (.arr 3 (.int .i64))]⟩
abbrev disk_Disk_Crash_l1_o : List Out := [⟨(.exit 0), [0], ⟨[(.one (.ptr 0 0))], [(.obj 63 [(.val (.int .i64)), (.map 2), (.map 3), (.val (.int .i64)), (.val (.int .i64)), (.val .bool)]), (.arr 3 (.int .i64)), (.map (.int .i64) ty0 false), (.map (.int .i64) ty0 false)]⟩⟩]
def disk_Disk_Crash_l1 (n : Nat) : Nat → disk_Disk_Crash_l1_h.T → Option (OutT disk_Disk_Crash_l1_o)
  | 0, _ => none
  | k + 1, ((_, _, _, x1, x2, _), ((x3, _, _, x4, x5, x6, _), l7, m8, m9, l10, _)) =>
    if decide (x2 < x1) then
      if 0 ≤ x2 ∧ x2 < (l10.length : Int) then (
        let v11 : Int := rdT ((.int .i64) : Ty) l10 x2
        if decide (x2 < (l7.length : Int)) then
          if 0 ≤ x2 ∧ x2 < (l7.length : Int) then (
            let v12 : Int := rdT ((.int .i64) : Ty) l7 x2
            if bitsOp .and .i64 v12 1 == 1 then
              let v13 : List Int := (mfind (keyEq ((.int .i64) : Ty)) v11 m9).getD []
              let v14 : Int := IntKind.i64.wrap (x2 + 1)
              disk_Disk_Crash_l1 n k (((), (), (), x1, v14, ()), ((x3, (), (), x4, x5, x6, ()), l7, mset (keyEq ((.int .i64) : Ty)) v11 v13 m8, m9, l10, ()))
            else
              let v15 : Int := IntKind.i64.wrap (x2 + 1)
              disk_Disk_Crash_l1 n k (((), (), (), x1, v15, ()), ((x3, (), (), x4, x5, x6, ()), l7, m8, m9, l10, ()))) else none
        else
          let v16 : Int := IntKind.i64.wrap (x2 + 1)
          disk_Disk_Crash_l1 n k (((), (), (), x1, v16, ()), ((x3, (), (), x4, x5, x6, ()), l7, m8, m9, l10, ()))) else none
    else
      some (.inl (((), ()), ((x3, (), (), x4, x5, x6, ()), l7, m8, m9, ())))
def disk_Disk_Crash : Nat → disk_Disk_Crash_ins.T → Option (OutsT disk_Disk_Crash_outs)
  | 0, _ => none
  | n + 1, ((_, _, _), ((x1, _, _, x2, x3, x4, _), l5, m6, m7, _)) =>
    match maps_Keys_map_int_byte_int_byte n (((), ()), (m7, ())) with
    | some ((_, _), (m8, (_, _), _)) => (
      match slices_Sorted_int n (((), ()), (((), ()), m8, ())) with
      | some ((_, _), ((_, _), m9, l10, _)) => (
        match disk_Disk_Crash_l1 n n (((), (), (), (l10.length : Int), 0, ()), ((x1, (), (), x2, x3, x4, ()), l5, m6, m9, l10, ())) with
        | some (.inl ((_, _), ((x11, _, _, x12, x13, x14, _), l15, m16, m17, _))) => (
          some (((), ()), ((x11, (), (), x12, 0, false, ()), l15, m16, [], ())))
        | some (.inr (_)) => none
        | none => none)
      | none => none)
    | none => none
def disk_Disk_Crash_H (n : Nat) : Hints := ⟨[], fun _ => [], fun k => match k with | 1 => some ⟨[0, 1, 11, 12, 13], disk_Disk_Crash_l1_h, disk_Disk_Crash_l1_o, disk_Disk_Crash_l1 n⟩ | _ => none, fun _ => none⟩
def disk_Disk_Crash_O (n : Nat) : FuncId → List FSpec := asc [(36, ⟨slices_Sorted_int_ins, slices_Sorted_int_outs, slices_Sorted_int n⟩), (37, ⟨maps_Keys_map_int_byte_int_byte_ins, maps_Keys_map_int_byte_int_byte_outs, maps_Keys_map_int_byte_int_byte n⟩)]
def b19 : Code := bodyOf Tryd.f19
theorem disk_Disk_Crash_l1_k0 (n : Nat) : LoopOk P CC (disk_Disk_Crash_O n) n 4 52 (disk_Disk_Crash_H n) ⟨[0, 1, 11, 12, 13], disk_Disk_Crash_l1_h, disk_Disk_Crash_l1_o, disk_Disk_Crash_l1 n⟩ ((loopsOf b19).getD 0 .skip) := by
  refine ⟨fun _ => by kernel_rfl, ?_⟩
  rintro k ⟨⟨⟨⟩, ⟨⟩, ⟨⟩, x1, x2, ⟨⟩⟩, ⟨⟨x3, ⟨⟩, ⟨⟩, x4, x5, x6, ⟨⟩⟩, x7, x8, x9, x10, ⟨⟩⟩⟩
  kernel_rfl
theorem disk_Disk_Crash_ok {S : Nat → Addr} (ok : CfgOk P CC S) : ∀ n, SpecOk P CC S 19 ⟨disk_Disk_Crash_ins, disk_Disk_Crash_outs, disk_Disk_Crash n⟩ :=
  fn_all ok (O := disk_Disk_Crash_O) (H := disk_Disk_Crash_H) (fn := Tryd.f19) (body := b19) (by kernel_rfl) (by kernel_rfl) (by kernel_rfl) (by decide) (by kernel_rfl)
    (fun x => by kernel_rfl) (fun n => by
      rintro ⟨⟨⟨⟩, ⟨⟩, ⟨⟩⟩, ⟨⟨x1, ⟨⟩, ⟨⟩, x2, x3, x4, ⟨⟩⟩, x5, x6, x7, ⟨⟩⟩⟩
      kernel_rfl)
    (fun n => obl_of (by kernel_rfl) (by kernel_rfl) (ls (lz) (by kernel_rfl) (disk_Disk_Crash_l1_k0 n)) (cn (cn (cn (cn (cn (cn (cn (cn (cz) (by kernel_rfl)) (by kernel_rfl)) (by kernel_rfl)) (by kernel_rfl)) (by kernel_rfl)) (by kernel_rfl)) (by kernel_rfl)) (by kernel_rfl)))
    (fun n ih => asc_cons (slices_Sorted_int_ok ok n) <| asc_cons (maps_Keys_map_int_byte_int_byte_ok ok n) <| asc_nil)
/-! ### (*pendulum/disk.Disk).Read -/
abbrev disk_Disk_Read_ins : Sh := ⟨[(.one (.ptr 0 0)), (.one (.val (.int .i64)))], [(.obj 63 [(.val (.int .i64)), (.map 1), (.map 2), (.val (.int .i64)), (.val (.int .i64)), (.val .bool)]), (.map (.int .i64) ty0 false), (.map (.int .i64) ty0 false)]⟩
abbrev disk_Disk_Read_outs : List Sh := [⟨[(.tup [(false, [(.arr 3)]), (false, [(.val .bool)]), (false, [(.val .err)])])], [(.obj 63 [(.val (.int .i64)), (.map 1), (.map 2), (.val (.int .i64)), (.val (.int .i64)), (.val .bool)]), (.map (.int .i64) ty0 false), (.map (.int .i64) ty0 false), (.arr 5 (.int .u8))]⟩]
abbrev disk_Disk_Read_c8_h : Sh := ⟨[(.one (.ptr 0 0)), (.one (.val (.int .i64))), (.one (.val ty0)), (.one (.val .bool))], [(.obj 63 [(.val (.int .i64)), (.map 1), (.map 2), (.val (.int .i64)), (.val (.int .i64)), (.val .bool)]), (.map (.int .i64) ty0 false), (.map (.int .i64) ty0 false)]⟩
abbrev disk_Disk_Read_c8_o : List Out := [⟨.normal, [7, 8], ⟨[(.one (.val ty0)), (.one (.val .bool))], [(.obj 63 [(.val (.int .i64)), (.map 1), (.map 2), (.val (.int .i64)), (.val (.int .i64)), (.val .bool)]), (.map (.int .i64) ty0 false), (.map (.int .i64) ty0 false)]⟩⟩]
def disk_Disk_Read_c8 (n : Nat) : disk_Disk_Read_c8_h.T → Option (OutT disk_Disk_Read_c8_o)
  | ((_, x1, x2, x3, _), ((x4, _, _, x5, x6, x7, _), m8, m9, _)) =>
    if !x3 then
      let v10 : List Int := (mfind (keyEq ((.int .i64) : Ty)) x1 m8).getD []
      some (.inl ((v10, (mfind (keyEq ((.int .i64) : Ty)) x1 m8).isSome, ()), ((x4, (), (), x5, x6, x7, ()), m8, m9, ())))
    else
      some (.inl ((x2, x3, ()), ((x4, (), (), x5, x6, x7, ()), m8, m9, ())))
def disk_Disk_Read : Nat → disk_Disk_Read_ins.T → Option (OutsT disk_Disk_Read_outs)
  | 0, _ => none
  | n + 1, ((_, x1, _), ((x2, _, _, x3, x4, x5, _), m6, m7, _)) =>
    if x5 then
      some (((((), ()), (false, ()), (ErrV.sent 119, ()), ()), ()), ((x2, (), (), x3, x4, x5, ()), m6, m7, [], ()))
    else
      if decide (x1 < 0) then
        some (((((), ()), (false, ()), (ErrV.sent 118, ()), ()), ()), ((x2, (), (), x3, x4, x5, ()), m6, m7, [], ()))
      else
        if decide (x1 ≥ x2) then
          some (((((), ()), (false, ()), (ErrV.sent 118, ()), ()), ()), ((x2, (), (), x3, x4, x5, ()), m6, m7, [], ()))
        else
          let v8 : List Int := (mfind (keyEq ((.int .i64) : Ty)) x1 m7).getD []
          match disk_Disk_Read_c8 n (((), x1, v8, (mfind (keyEq ((.int .i64) : Ty)) x1 m7).isSome, ()), ((x2, (), (), x3, x4, x5, ()), m6, m7, ())) with
          | some (.inl ((x9, x10, _), ((x11, _, _, x12, x13, x14, _), m15, m16, _))) => (
            match slices_Clone_byte_byte n ((x9, ()), ()) with
            | some ((_, _), (l17, _)) => (
              some (((((), ()), (x10, ()), (ErrV.nil, ()), ()), ()), ((x11, (), (), x12, x13, x14, ()), m15, m16, l17, ())))
            | none => none)
          | some (.inr (_)) => none
          | none => none
def disk_Disk_Read_H (n : Nat) : Hints := ⟨[], fun _ => [], fun _ => none, fun k => match k with | 8 => some ⟨[0, 1, 7, 8], disk_Disk_Read_c8_h, disk_Disk_Read_c8_o, fun n => disk_Disk_Read_c8 n⟩ | _ => none⟩
def disk_Disk_Read_O (n : Nat) : FuncId → List FSpec := asc [(34, ⟨slices_Clone_byte_byte_ins, slices_Clone_byte_byte_outs, slices_Clone_byte_byte n⟩)]
def b15 : Code := bodyOf Tryd.f15
theorem disk_Disk_Read_c8_k8 (n : Nat) : CutOk P CC (disk_Disk_Read_O n) n 3 48 (disk_Disk_Read_H n) ⟨[0, 1, 7, 8], disk_Disk_Read_c8_h, disk_Disk_Read_c8_o, fun n => disk_Disk_Read_c8 n⟩ ((cutsOf b15).getD 8 (0, .skip)).2 := by
  rintro ⟨⟨⟨⟩, x1, x2, x3, ⟨⟩⟩, ⟨⟨x4, ⟨⟩, ⟨⟩, x5, x6, x7, ⟨⟩⟩, x8, x9, ⟨⟩⟩⟩
  kernel_rfl
theorem disk_Disk_Read_ok {S : Nat → Addr} (ok : CfgOk P CC S) : ∀ n, SpecOk P CC S 15 ⟨disk_Disk_Read_ins, disk_Disk_Read_outs, disk_Disk_Read n⟩ :=
  fn_all ok (O := disk_Disk_Read_O) (H := disk_Disk_Read_H) (fn := Tryd.f15) (body := b15) (by kernel_rfl) (by kernel_rfl) (by kernel_rfl) (by decide) (by kernel_rfl)
    (fun x => by kernel_rfl) (fun n => by
      rintro ⟨⟨⟨⟩, x1, ⟨⟩⟩, ⟨⟨x2, ⟨⟩, ⟨⟩, x3, x4, x5, ⟨⟩⟩, x6, x7, ⟨⟩⟩⟩
      kernel_rfl)
    (fun n => obl_of (by kernel_rfl) (by kernel_rfl) (lz) (cn (cn (cs (cn (cn (cn (cn (cn (cn (cn (cn (cz) (by kernel_rfl)) (by kernel_rfl)) (by kernel_rfl)) (by kernel_rfl)) (by kernel_rfl)) (by kernel_rfl)) (by kernel_rfl)) (by kernel_rfl)) (by kernel_rfl) (disk_Disk_Read_c8_k8 n)) (by kernel_rfl)) (by kernel_rfl)))
    (fun n ih => asc_cons (slices_Clone_byte_byte_ok ok n) <| asc_nil)
/-! ### pendulum/pendulumlaw3.first -/
abbrev law3_first_ins : Sh := ⟨[], []⟩
abbrev law3_first_outs : List Sh := [⟨[(.one (.val .bool))], []⟩]
def law3_first : Nat → law3_first_ins.T → Option (OutsT law3_first_outs)
  | 0, _ => none
  | n + 1, (_, _) =>
    match disk_New n ((4, ()), ()) with
    | some (.inl ((((_, _), (x1, _), _), _), ((x2, _, _, x3, x4, x5, _), m6, m7, _))) => (
      if !(errNil x1) then
        some ((false, ()), ())
      else
        match disk_Disk_Write n (((), 0, (), ()), ((x2, (), (), x3, x4, x5, ()), [1], m6, m7, ())) with
        | some ((x9, _), ((x10, _, _, x11, x12, x13, _), _, m14, m15, _)) => (
          if !(errNil x9) then
            some ((false, ()), ())
          else
            match disk_Disk_Crash n (((), (), ()), ((x10, (), (), x11, x12, x13, ()), [], m14, m15, ())) with
            | some ((_, _), ((x16, _, _, x17, x18, x19, _), l20, m21, m22, _)) => (
              match disk_Disk_Read n (((), 0, ()), ((x16, (), (), x17, x18, x19, ()), m21, m22, ())) with
              | some ((((_, _), (x23, _), (x24, _), _), _), ((x25, _, _, x26, x27, x28, _), m29, m30, l31, _)) => (
                some ((!x23, ()), ()))
              | none => none)
            | none => none)
        | none => none)
    | some (.inr (((((_, _), (x8, _), _), _), _))) => (
      some ((false, ()), ()))
    | none => none
def law3_first_H (n : Nat) : Hints := ⟨[], fun _ => [], fun _ => none, fun _ => none⟩
def law3_first_O (n : Nat) : FuncId → List FSpec := asc [(11, ⟨disk_New_ins, disk_New_outs, disk_New n⟩), (14, ⟨disk_Disk_Write_ins, disk_Disk_Write_outs, disk_Disk_Write n⟩), (15, ⟨disk_Disk_Read_ins, disk_Disk_Read_outs, disk_Disk_Read n⟩), (19, ⟨disk_Disk_Crash_ins, disk_Disk_Crash_outs, disk_Disk_Crash n⟩)]
def b9 : Code := bodyOf Tryd.f9
theorem law3_first_ok {S : Nat → Addr} (ok : CfgOk P CC S) : ∀ n, SpecOk P CC S 9 ⟨law3_first_ins, law3_first_outs, law3_first n⟩ :=
  fn_all ok (O := law3_first_O) (H := law3_first_H) (fn := Tryd.f9) (body := b9) (by kernel_rfl) (by kernel_rfl) (by kernel_rfl) (by decide) (by kernel_rfl)
    (fun x => by kernel_rfl) (fun n => by
      rintro ⟨⟨⟩, ⟨⟩⟩
      kernel_rfl)
    (fun n => obl_of (by kernel_rfl) (by kernel_rfl) (lz) (cn (cn (cn (cn (cn (cn (cn (cn (cz) (by kernel_rfl)) (by kernel_rfl)) (by kernel_rfl)) (by kernel_rfl)) (by kernel_rfl)) (by kernel_rfl)) (by kernel_rfl)) (by kernel_rfl)))
    (fun n ih => asc_cons (disk_New_ok ok n) <| asc_cons (disk_Disk_Write_ok ok n) <| asc_cons (disk_Disk_Read_ok ok n) <| asc_cons (disk_Disk_Crash_ok ok n) <| asc_nil)
/-! ### pendulum/pendulumworld.Number -/
abbrev world_Number_ins : Sh := ⟨[(.one (.val (.int .i64))), (.one (.val (.int .i64)))], []⟩
abbrev world_Number_outs : List Sh := [⟨[(.one (.val (.int .i64)))], []⟩]
def world_Number : Nat → world_Number_ins.T → Option (OutsT world_Number_outs)
  | 0, _ => none
  | n + 1, ((x1, x2, _), _) =>
    if x2 = 0 then
      none
    else
      if decide (Int.tmod x1 x2 < 0) then
        let v3 : Int := IntKind.i64.wrap ((Int.tmod x1 x2) + x2)
        some ((v3, ()), ())
      else
        some ((Int.tmod x1 x2, ()), ())
def world_Number_H (n : Nat) : Hints := ⟨[], fun _ => [], fun _ => none, fun _ => none⟩
def world_Number_O (n : Nat) : FuncId → List FSpec := asc []
def b10 : Code := bodyOf Tryd.f10
theorem world_Number_ok {S : Nat → Addr} (ok : CfgOk P CC S) : ∀ n, SpecOk P CC S 10 ⟨world_Number_ins, world_Number_outs, world_Number n⟩ :=
  fn_all ok (O := world_Number_O) (H := world_Number_H) (fn := Tryd.f10) (body := b10) (by kernel_rfl) (by kernel_rfl) (by kernel_rfl) (by decide) (by kernel_rfl)
    (fun x => by kernel_rfl) (fun n => by
      rintro ⟨⟨x1, x2, ⟨⟩⟩, ⟨⟩⟩
      kernel_rfl)
    (fun n => obl_of (by kernel_rfl) (by kernel_rfl) (lz) (cn (cn (cn (cn (cn (cz) (by kernel_rfl)) (by kernel_rfl)) (by kernel_rfl)) (by kernel_rfl)) (by kernel_rfl)))
    (fun n ih => asc_nil)
/-! ### maps.Copy[map[int][]byte,map[int][]byte,int,[]byte] (by hand) -/
abbrev maps_Copy_ins : Sh := ⟨[(.one (.map 0)), (.one (.map 1))], [(.map (.int .i64) ty0 false), (.map (.int .i64) ty0 false)]⟩
abbrev maps_Copy_outs : List Sh := [⟨[(.tup [])], [(.map (.int .i64) ty0 false), (.map (.int .i64) ty0 false)]⟩]
def maps_Copy : Nat → maps_Copy_ins.T → Option (OutsT maps_Copy_outs) := fun _ => copySem ty0 false
theorem maps_Copy_ok {S : Nat → Addr} (ok : CfgOk P CC S) : ∀ n, SpecOk P CC S 35 ⟨maps_Copy_ins, maps_Copy_outs, maps_Copy n⟩ := fun n => copy_spec (ty := 3) (vT := 32) ⟨Tryd.f35, by kernel_rfl, by kernel_rfl, by kernel_rfl⟩ (by kernel_rfl) Sq.copy_calls
/-! ### (*pendulum/disk.Disk).Flush -/
abbrev disk_Disk_Flush_ins : Sh := ⟨[(.one (.ptr 0 0))], [(.obj 63 [(.val (.int .i64)), (.map 1), (.map 2), (.val (.int .i64)), (.val (.int .i64)), (.val .bool)]), (.map (.int .i64) ty0 false), (.map (.int .i64) ty0 false)]⟩
abbrev disk_Disk_Flush_outs : List Sh := [⟨[(.one (.val .err))], [(.obj 63 [(.val (.int .i64)), (.map 1), (.map 2), (.val (.int .i64)), (.val (.int .i64)), (.val .bool)]), (.map (.int .i64) ty0 false), (.map (.int .i64) ty0 false)]⟩]
def disk_Disk_Flush : Nat → disk_Disk_Flush_ins.T → Option (OutsT disk_Disk_Flush_outs)
  | 0, _ => none
  | n + 1, ((_, _), ((x1, _, _, x2, x3, x4, _), m5, m6, _)) =>
    match disk_Disk_up n (((), ()), ((x1, (), (), x2, x3, x4, ()), m5, m6, ())) with
    | some ((x7, _), ((x8, _, _, x9, x10, x11, _), m12, m13, _)) => (
      if !x7 then
        some ((ErrV.sent 119, ()), ((x8, (), (), x9, x10, x11, ()), m12, m13, ()))
      else
        match maps_Copy n (((), (), ()), (m12, m13, ())) with
        | some ((_, _), (m14, m15, _)) => (
          let v16 : Int := IntKind.i64.wrap (x9 + 1)
          some ((ErrV.nil, ()), ((x8, (), (), v16, x10, x11, ()), m14, [], ())))
        | none => none)
    | none => none
def disk_Disk_Flush_H (n : Nat) : Hints := ⟨[], fun _ => [], fun _ => none, fun _ => none⟩
def disk_Disk_Flush_O (n : Nat) : FuncId → List FSpec := asc [(33, ⟨disk_Disk_up_ins, disk_Disk_up_outs, disk_Disk_up n⟩), (35, ⟨maps_Copy_ins, maps_Copy_outs, maps_Copy n⟩)]
def b18 : Code := bodyOf Tryd.f18
theorem disk_Disk_Flush_ok {S : Nat → Addr} (ok : CfgOk P CC S) : ∀ n, SpecOk P CC S 18 ⟨disk_Disk_Flush_ins, disk_Disk_Flush_outs, disk_Disk_Flush n⟩ :=
  fn_all ok (O := disk_Disk_Flush_O) (H := disk_Disk_Flush_H) (fn := Tryd.f18) (body := b18) (by kernel_rfl) (by kernel_rfl) (by kernel_rfl) (by decide) (by kernel_rfl)
    (fun x => by kernel_rfl) (fun n => by
      rintro ⟨⟨⟨⟩, ⟨⟩⟩, ⟨⟨x1, ⟨⟩, ⟨⟩, x2, x3, x4, ⟨⟩⟩, x5, x6, ⟨⟩⟩⟩
      kernel_rfl)
    (fun n => obl_of (by kernel_rfl) (by kernel_rfl) (lz) (cn (cn (cn (cn (cn (cn (cn (cn (cz) (by kernel_rfl)) (by kernel_rfl)) (by kernel_rfl)) (by kernel_rfl)) (by kernel_rfl)) (by kernel_rfl)) (by kernel_rfl)) (by kernel_rfl)))
    (fun n ih => asc_cons (disk_Disk_up_ok ok n) <| asc_cons (maps_Copy_ok ok n) <| asc_nil)
/-! ### (*pendulum/disk.Disk).Pending -/
abbrev disk_Disk_Pending_ins : Sh := ⟨[(.one (.ptr 0 0))], [(.obj 63 [(.val (.int .i64)), (.map 1), (.map 2), (.val (.int .i64)), (.val (.int .i64)), (.val .bool)]), (.map (.int .i64) ty0 false), (.map (.int .i64) ty0 false)]⟩
abbrev disk_Disk_Pending_outs : List Sh := [⟨[(.one (.val (.int .i64)))], [(.obj 63 [(.val (.int .i64)), (.map 1), (.map 2), (.val (.int .i64)), (.val (.int .i64)), (.val .bool)]), (.map (.int .i64) ty0 false), (.map (.int .i64) ty0 false)]⟩]
def disk_Disk_Pending : Nat → disk_Disk_Pending_ins.T → Option (OutsT disk_Disk_Pending_outs)
  | 0, _ => none
  | n + 1, ((_, _), ((x1, _, _, x2, x3, x4, _), m5, m6, _)) =>
    some (((m6.length : Int), ()), ((x1, (), (), x2, x3, x4, ()), m5, m6, ()))
def disk_Disk_Pending_H (n : Nat) : Hints := ⟨[], fun _ => [], fun _ => none, fun _ => none⟩
def disk_Disk_Pending_O (n : Nat) : FuncId → List FSpec := asc []
def b16 : Code := bodyOf Tryd.f16
theorem disk_Disk_Pending_ok {S : Nat → Addr} (ok : CfgOk P CC S) : ∀ n, SpecOk P CC S 16 ⟨disk_Disk_Pending_ins, disk_Disk_Pending_outs, disk_Disk_Pending n⟩ :=
  fn_all ok (O := disk_Disk_Pending_O) (H := disk_Disk_Pending_H) (fn := Tryd.f16) (body := b16) (by kernel_rfl) (by kernel_rfl) (by kernel_rfl) (by decide) (by kernel_rfl)
    (fun x => by kernel_rfl) (fun n => by
      rintro ⟨⟨⟨⟩, ⟨⟩⟩, ⟨⟨x1, ⟨⟩, ⟨⟩, x2, x3, x4, ⟨⟩⟩, x5, x6, ⟨⟩⟩⟩
      kernel_rfl)
    (fun n => obl_of (by kernel_rfl) (by kernel_rfl) (lz) (cn (cn (cz) (by kernel_rfl)) (by kernel_rfl)))
    (fun n ih => asc_nil)
/-! ### (*pendulum/disk.Disk).Crash -/
abbrev disk_Disk_Crash_2_ins : Sh := ⟨[(.one (.ptr 0 0)), (.one (.val ty1))], [(.obj 63 [(.val (.int .i64)), (.map 1), (.map 2), (.val (.int .i64)), (.val (.int .i64)), (.val .bool)]), (.map (.int .i64) ty0 false), (.map (.int .i64) ty0 false)]⟩
abbrev disk_Disk_Crash_2_outs : List Sh := [⟨[(.tup [])], [(.obj 63 [(.val (.int .i64)), (.map 1), (.map 2), (.val (.int .i64)), (.val (.int .i64)), (.val .bool)]), (.map (.int .i64) ty0 false), (.map (.int .i64) ty0 false)]⟩]
abbrev disk_Disk_Crash_2_l1_h : Sh := ⟨[(.one (.ptr 0 0)), (.one (.val ty1)), (.one (.arr 3)), (.one (.val (.int .i64))), (.one (.val (.int .i64)))], [(.obj 63 [(.val (.int .i64)), (.map 1), (.map 2), (.val (.int .i64)), (.val (.int .i64)), (.val .bool)]), (.map (.int .i64) ty0 false), (.map (.int .i64) ty0 false), (.arr 3 (.int .i64))]⟩
abbrev disk_Disk_Crash_2_l1_o : List Out := [⟨(.exit 0), [0], ⟨[(.one (.ptr 0 0))], [(.obj 63 [(.val (.int .i64)), (.map 1), (.map 2), (.val (.int .i64)), (.val (.int .i64)), (.val .bool)]), (.map (.int .i64) ty0 false), (.map (.int .i64) ty0 false)]⟩⟩]
def disk_Disk_Crash_2_l1 (n : Nat) : Nat → disk_Disk_Crash_2_l1_h.T → Option (OutT disk_Disk_Crash_2_l1_o)
  | 0, _ => none
  | k + 1, ((_, x1, _, x2, x3, _), ((x4, _, _, x5, x6, x7, _), m8, m9, l10, _)) =>
    if decide (x3 < x2) then
      if 0 ≤ x3 ∧ x3 < (l10.length : Int) then (
        let v11 : Int := rdT ((.int .i64) : Ty) l10 x3
        if decide (x3 < (x1.length : Int)) then
          if 0 ≤ x3 ∧ x3 < (x1.length : Int) then (
            let v12 : Int := rdT ((.int .i64) : Ty) x1 x3
            if bitsOp .and .i64 v12 1 == 1 then
              let v13 : List Int := (mfind (keyEq ((.int .i64) : Ty)) v11 m9).getD []
              let v14 : Int := IntKind.i64.wrap (x3 + 1)
              disk_Disk_Crash_2_l1 n k (((), x1, (), x2, v14, ()), ((x4, (), (), x5, x6, x7, ()), mset (keyEq ((.int .i64) : Ty)) v11 v13 m8, m9, l10, ()))
            else
              let v15 : Int := IntKind.i64.wrap (x3 + 1)
              disk_Disk_Crash_2_l1 n k (((), x1, (), x2, v15, ()), ((x4, (), (), x5, x6, x7, ()), m8, m9, l10, ()))) else none
        else
          let v16 : Int := IntKind.i64.wrap (x3 + 1)
          disk_Disk_Crash_2_l1 n k (((), x1, (), x2, v16, ()), ((x4, (), (), x5, x6, x7, ()), m8, m9, l10, ()))) else none
    else
      some (.inl (((), ()), ((x4, (), (), x5, x6, x7, ()), m8, m9, ())))
def disk_Disk_Crash_2 : Nat → disk_Disk_Crash_2_ins.T → Option (OutsT disk_Disk_Crash_2_outs)
  | 0, _ => none
  | n + 1, ((_, x1, _), ((x2, _, _, x3, x4, x5, _), m6, m7, _)) =>
    match maps_Keys_map_int_byte_int_byte n (((), ()), (m7, ())) with
    | some ((_, _), (m8, (_, _), _)) => (
      match slices_Sorted_int n (((), ()), (((), ()), m8, ())) with
      | some ((_, _), ((_, _), m9, l10, _)) => (
        match disk_Disk_Crash_2_l1 n n (((), x1, (), (l10.length : Int), 0, ()), ((x2, (), (), x3, x4, x5, ()), m6, m9, l10, ())) with
        | some (.inl ((_, _), ((x11, _, _, x12, x13, x14, _), m15, m16, _))) => (
          some (((), ()), ((x11, (), (), x12, 0, false, ()), m15, [], ())))
        | some (.inr (_)) => none
        | none => none)
      | none => none)
    | none => none
def disk_Disk_Crash_2_H (n : Nat) : Hints := ⟨[], fun _ => [], fun k => match k with | 1 => some ⟨[0, 1, 11, 12, 13], disk_Disk_Crash_2_l1_h, disk_Disk_Crash_2_l1_o, disk_Disk_Crash_2_l1 n⟩ | _ => none, fun _ => none⟩
def disk_Disk_Crash_2_O (n : Nat) : FuncId → List FSpec := asc [(36, ⟨slices_Sorted_int_ins, slices_Sorted_int_outs, slices_Sorted_int n⟩), (37, ⟨maps_Keys_map_int_byte_int_byte_ins, maps_Keys_map_int_byte_int_byte_outs, maps_Keys_map_int_byte_int_byte n⟩)]
theorem disk_Disk_Crash_2_l1_k0 (n : Nat) : LoopOk P CC (disk_Disk_Crash_2_O n) n 3 52 (disk_Disk_Crash_2_H n) ⟨[0, 1, 11, 12, 13], disk_Disk_Crash_2_l1_h, disk_Disk_Crash_2_l1_o, disk_Disk_Crash_2_l1 n⟩ ((loopsOf b19).getD 0 .skip) := by
  refine ⟨fun _ => by kernel_rfl, ?_⟩
  rintro k ⟨⟨⟨⟩, x1, ⟨⟩, x2, x3, ⟨⟩⟩, ⟨⟨x4, ⟨⟩, ⟨⟩, x5, x6, x7, ⟨⟩⟩, x8, x9, x10, ⟨⟩⟩⟩
  kernel_rfl
theorem disk_Disk_Crash_2_ok {S : Nat → Addr} (ok : CfgOk P CC S) : ∀ n, SpecOk P CC S 19 ⟨disk_Disk_Crash_2_ins, disk_Disk_Crash_2_outs, disk_Disk_Crash_2 n⟩ :=
  fn_all ok (O := disk_Disk_Crash_2_O) (H := disk_Disk_Crash_2_H) (fn := Tryd.f19) (body := b19) (by kernel_rfl) (by kernel_rfl) (by kernel_rfl) (by decide) (by kernel_rfl)
    (fun x => by kernel_rfl) (fun n => by
      rintro ⟨⟨⟨⟩, x1, ⟨⟩⟩, ⟨⟨x2, ⟨⟩, ⟨⟩, x3, x4, x5, ⟨⟩⟩, x6, x7, ⟨⟩⟩⟩
      kernel_rfl)
    (fun n => obl_of (by kernel_rfl) (by kernel_rfl) (ls (lz) (by kernel_rfl) (disk_Disk_Crash_2_l1_k0 n)) (cn (cn (cn (cn (cn (cn (cn (cn (cz) (by kernel_rfl)) (by kernel_rfl)) (by kernel_rfl)) (by kernel_rfl)) (by kernel_rfl)) (by kernel_rfl)) (by kernel_rfl)) (by kernel_rfl)))
    (fun n ih => asc_cons (slices_Sorted_int_ok ok n) <| asc_cons (maps_Keys_map_int_byte_int_byte_ok ok n) <| asc_nil)
/-! ### pendulum/pendulumref.Bare -/
abbrev ref_Bare_ins : Sh := ⟨[(.one (.val (.int .i64)))], []⟩
abbrev ref_Bare_outs : List Sh := [⟨[(.agg [(.val (.int .i64)), (.val .bool), (.val .bool), (.val (.int .i64)), (.val (.int .i64))])], []⟩]
def ref_Bare : Nat → ref_Bare_ins.T → Option (OutsT ref_Bare_outs)
  | 0, _ => none
  | n + 1, ((x1, _), _) =>
    some (((x1, false, false, 0, 0, ()), ()), ())
def ref_Bare_H (n : Nat) : Hints := ⟨[], fun _ => [], fun _ => none, fun _ => none⟩
def ref_Bare_O (n : Nat) : FuncId → List FSpec := asc []
def b32 : Code := bodyOf Tryd.f32
theorem ref_Bare_ok {S : Nat → Addr} (ok : CfgOk P CC S) : ∀ n, SpecOk P CC S 32 ⟨ref_Bare_ins, ref_Bare_outs, ref_Bare n⟩ :=
  fn_all ok (O := ref_Bare_O) (H := ref_Bare_H) (fn := Tryd.f32) (body := b32) (by kernel_rfl) (by kernel_rfl) (by kernel_rfl) (by decide) (by kernel_rfl)
    (fun x => by kernel_rfl) (fun n => by
      rintro ⟨⟨x1, ⟨⟩⟩, ⟨⟩⟩
      kernel_rfl)
    (fun n => obl_of (by kernel_rfl) (by kernel_rfl) (lz) (cn (cn (cz) (by kernel_rfl)) (by kernel_rfl)))
    (fun n ih => asc_nil)
/-! ### pendulum/pendulumref.None -/
abbrev ref_None_ins : Sh := ⟨[], []⟩
abbrev ref_None_outs : List Sh := [⟨[(.agg [(.val (.int .i64)), (.val .bool), (.val .bool), (.val (.int .i64)), (.val (.int .i64))])], []⟩]
def ref_None : Nat → ref_None_ins.T → Option (OutsT ref_None_outs)
  | 0, _ => none
  | n + 1, (_, _) =>
    some (((0, false, false, 0, 0, ()), ()), ())
def ref_None_H (n : Nat) : Hints := ⟨[], fun _ => [], fun _ => none, fun _ => none⟩
def ref_None_O (n : Nat) : FuncId → List FSpec := asc []
def b48 : Code := bodyOf Tryd.f48
theorem ref_None_ok {S : Nat → Addr} (ok : CfgOk P CC S) : ∀ n, SpecOk P CC S 48 ⟨ref_None_ins, ref_None_outs, ref_None n⟩ :=
  fn_all ok (O := ref_None_O) (H := ref_None_H) (fn := Tryd.f48) (body := b48) (by kernel_rfl) (by kernel_rfl) (by kernel_rfl) (by decide) (by kernel_rfl)
    (fun x => by kernel_rfl) (fun n => by
      rintro ⟨⟨⟩, ⟨⟩⟩
      kernel_rfl)
    (fun n => obl_of (by kernel_rfl) (by kernel_rfl) (lz) (cn (cn (cz) (by kernel_rfl)) (by kernel_rfl)))
    (fun n ih => asc_nil)
/-! ### pendulum/pendulumsee.sentinels -/
abbrev pendulumsee_sentinels_ins : Sh := ⟨[], []⟩
abbrev pendulumsee_sentinels_outs : List Sh := [⟨[(.one (.arr 0))], [(.arr 26 .err)]⟩]
def pendulumsee_sentinels : Nat → pendulumsee_sentinels_ins.T → Option (OutsT pendulumsee_sentinels_outs)
  | 0, _ => none
  | n + 1, (_, _) =>
    some (((), ()), ([ErrV.sent 101, ErrV.sent 102, ErrV.sent 103, ErrV.sent 104, ErrV.sent 105, ErrV.sent 106, ErrV.sent 107, ErrV.sent 108, ErrV.sent 109, ErrV.sent 110, ErrV.sent 111, ErrV.sent 112, ErrV.sent 113, ErrV.sent 114, ErrV.sent 115, ErrV.sent 116, ErrV.sent 117, ErrV.sent 118, ErrV.sent 119, ErrV.sent 120, ErrV.sent 121], ()))
def pendulumsee_sentinels_H (n : Nat) : Hints := ⟨[], fun _ => [], fun _ => none, fun _ => none⟩
def pendulumsee_sentinels_O (n : Nat) : FuncId → List FSpec := asc []
def b55 : Code := bodyOf Tryd.f55
theorem pendulumsee_sentinels_ok {S : Nat → Addr} (ok : CfgOk P CC S) : ∀ n, SpecOk P CC S 55 ⟨pendulumsee_sentinels_ins, pendulumsee_sentinels_outs, pendulumsee_sentinels n⟩ :=
  fn_all ok (O := pendulumsee_sentinels_O) (H := pendulumsee_sentinels_H) (fn := Tryd.f55) (body := b55) (by kernel_rfl) (by kernel_rfl) (by kernel_rfl) (by decide) (by kernel_rfl)
    (fun x => by kernel_rfl) (fun n => by
      rintro ⟨⟨⟩, ⟨⟩⟩
      kernel_rfl)
    (fun n => obl_of (by kernel_rfl) (by kernel_rfl) (lz) (cn (cn (cz) (by kernel_rfl)) (by kernel_rfl)))
    (fun n ih => asc_nil)
/-! ### pendulum/pendulumsee.Alike -/
abbrev pendulumsee_Alike_ins : Sh := ⟨[(.one (.val .err)), (.one (.val .err))], []⟩
abbrev pendulumsee_Alike_outs : List Sh := [⟨[(.one (.val .bool))], []⟩]
def pendulumsee_Alike : Nat → pendulumsee_Alike_ins.T → Option (OutsT pendulumsee_Alike_outs)
  | 0, _ => none
  | n + 1, ((x1, x2, _), _) =>
    if errNil x1 then
      if errNil x1 then
        some ((errNil x2, ()), ())
      else
        some ((false, ()), ())
    else
      if errNil x2 then
        if errNil x1 then
          some ((errNil x2, ()), ())
        else
          some ((false, ()), ())
      else
        match errEq x1 x2 with
        | some b3 => (
          some ((b3, ()), ()))
        | none => none
def pendulumsee_Alike_H (n : Nat) : Hints := ⟨[], fun _ => [], fun _ => none, fun _ => none⟩
def pendulumsee_Alike_O (n : Nat) : FuncId → List FSpec := asc []
def b56 : Code := bodyOf Tryd.f56
theorem pendulumsee_Alike_ok {S : Nat → Addr} (ok : CfgOk P CC S) : ∀ n, SpecOk P CC S 56 ⟨pendulumsee_Alike_ins, pendulumsee_Alike_outs, pendulumsee_Alike n⟩ :=
  fn_all ok (O := pendulumsee_Alike_O) (H := pendulumsee_Alike_H) (fn := Tryd.f56) (body := b56) (by kernel_rfl) (by kernel_rfl) (by kernel_rfl) (by decide) (by kernel_rfl)
    (fun x => by kernel_rfl) (fun n => by
      rintro ⟨⟨x1, x2, ⟨⟩⟩, ⟨⟩⟩
      kernel_rfl)
    (fun n => obl_of (by kernel_rfl) (by kernel_rfl) (lz) (cn (cn (cn (cn (cn (cz) (by kernel_rfl)) (by kernel_rfl)) (by kernel_rfl)) (by kernel_rfl)) (by kernel_rfl)))
    (fun n ih => asc_nil)
/-! ### pendulum/pendulumsee.sentinel -/
abbrev pendulumsee_sentinel_ins : Sh := ⟨[(.one (.val .err))], []⟩
abbrev pendulumsee_sentinel_outs : List Sh := [⟨[(.one (.val (.int .i64)))], []⟩]
abbrev pendulumsee_sentinel_l3_h : Sh := ⟨[(.one (.val .err)), (.one (.arr 0)), (.one (.val (.int .i64)))], [(.arr 26 .err)]⟩
abbrev pendulumsee_sentinel_l3_o : List Out := [⟨(.exit 0), [], ⟨[], []⟩⟩, ⟨.ret, [2], ⟨[(.one (.val (.int .i64)))], []⟩⟩]
def pendulumsee_sentinel_l3 (n : Nat) : Nat → pendulumsee_sentinel_l3_h.T → Option (OutT pendulumsee_sentinel_l3_o)
  | 0, _ => none
  | k + 1, ((x1, _, x2, _), (l3, _)) =>
    if decide (x2 < (l3.length : Int)) then
      if 0 ≤ x2 ∧ x2 < (l3.length : Int) then (
        match pendulumsee_Alike n ((x1, rdT (.err : Ty) l3 x2, ()), ()) with
        | some ((x4, _), _) => (
          if x4 then
            let v5 : Int := IntKind.i64.wrap (101 + x2)
            some (.inr (.inl ((v5, ()), ())))
          else
            let v6 : Int := IntKind.i64.wrap (x2 + 1)
            pendulumsee_sentinel_l3 n k ((x1, (), v6, ()), (l3, ())))
        | none => none) else none
    else
      some (.inl ((), ()))
def pendulumsee_sentinel : Nat → pendulumsee_sentinel_ins.T → Option (OutsT pendulumsee_sentinel_outs)
  | 0, _ => none
  | n + 1, ((x1, _), _) =>
    match pendulumsee_sentinels n ((), ()) with
    | some ((_, _), (l2, _)) => (
      match pendulumsee_sentinel_l3 n n ((x1, (), 0, ()), (l2, ())) with
      | some (.inl (_, _)) => (
        some (((-1), ()), ()))
      | some (.inr (.inl ((x3, _), _))) => (
        some ((x3, ()), ()))
      | some (.inr (.inr (_))) => none
      | none => none)
    | none => none
def pendulumsee_sentinel_H (n : Nat) : Hints := ⟨[], fun _ => [], fun k => match k with | 3 => some ⟨[0, 3, 4], pendulumsee_sentinel_l3_h, pendulumsee_sentinel_l3_o, pendulumsee_sentinel_l3 n⟩ | _ => none, fun _ => none⟩
def pendulumsee_sentinel_O (n : Nat) : FuncId → List FSpec := asc [(55, ⟨pendulumsee_sentinels_ins, pendulumsee_sentinels_outs, pendulumsee_sentinels n⟩), (56, ⟨pendulumsee_Alike_ins, pendulumsee_Alike_outs, pendulumsee_Alike n⟩)]
def b49 : Code := bodyOf Tryd.f49
theorem pendulumsee_sentinel_l3_k0 (n : Nat) : LoopOk P CC (pendulumsee_sentinel_O n) n 0 20 (pendulumsee_sentinel_H n) ⟨[0, 3, 4], pendulumsee_sentinel_l3_h, pendulumsee_sentinel_l3_o, pendulumsee_sentinel_l3 n⟩ ((loopsOf b49).getD 0 .skip) := by
  refine ⟨fun _ => by kernel_rfl, ?_⟩
  rintro k ⟨⟨x1, ⟨⟩, x2, ⟨⟩⟩, ⟨x3, ⟨⟩⟩⟩
  kernel_rfl
theorem pendulumsee_sentinel_ok {S : Nat → Addr} (ok : CfgOk P CC S) : ∀ n, SpecOk P CC S 49 ⟨pendulumsee_sentinel_ins, pendulumsee_sentinel_outs, pendulumsee_sentinel n⟩ :=
  fn_all ok (O := pendulumsee_sentinel_O) (H := pendulumsee_sentinel_H) (fn := Tryd.f49) (body := b49) (by kernel_rfl) (by kernel_rfl) (by kernel_rfl) (by decide) (by kernel_rfl)
    (fun x => by kernel_rfl) (fun n => by
      rintro ⟨⟨x1, ⟨⟩⟩, ⟨⟩⟩
      kernel_rfl)
    (fun n => obl_of (by kernel_rfl) (by kernel_rfl) (ls (lz) (by kernel_rfl) (pendulumsee_sentinel_l3_k0 n)) (cn (cn (cn (cn (cn (cn (cn (cn (cn (cn (cz) (by kernel_rfl)) (by kernel_rfl)) (by kernel_rfl)) (by kernel_rfl)) (by kernel_rfl)) (by kernel_rfl)) (by kernel_rfl)) (by kernel_rfl)) (by kernel_rfl)) (by kernel_rfl)))
    (fun n ih => asc_cons (pendulumsee_sentinels_ok ok n) <| asc_cons (pendulumsee_Alike_ok ok n) <| asc_nil)
/-! ### pendulum/pendulumref.Placed -/
abbrev ref_Placed_ins : Sh := ⟨[(.one (.val (.int .i64))), (.one (.val (.int .i64)))], []⟩
abbrev ref_Placed_outs : List Sh := [⟨[(.agg [(.val (.int .i64)), (.val .bool), (.val .bool), (.val (.int .i64)), (.val (.int .i64))])], []⟩]
def ref_Placed : Nat → ref_Placed_ins.T → Option (OutsT ref_Placed_outs)
  | 0, _ => none
  | n + 1, ((x1, x2, _), _) =>
    if x1 == 0 then
      match ref_None n ((), ()) with
      | some (((x3, x4, x5, x6, x7, _), _), _) => (
        some (((x3, x4, x5, x6, x7, ()), ()), ()))
      | none => none
    else
      some (((x1, true, false, x2, 0, ()), ()), ())
def ref_Placed_H (n : Nat) : Hints := ⟨[], fun _ => [], fun _ => none, fun _ => none⟩
def ref_Placed_O (n : Nat) : FuncId → List FSpec := asc [(48, ⟨ref_None_ins, ref_None_outs, ref_None n⟩)]
def b51 : Code := bodyOf Tryd.f51
theorem ref_Placed_ok {S : Nat → Addr} (ok : CfgOk P CC S) : ∀ n, SpecOk P CC S 51 ⟨ref_Placed_ins, ref_Placed_outs, ref_Placed n⟩ :=
  fn_all ok (O := ref_Placed_O) (H := ref_Placed_H) (fn := Tryd.f51) (body := b51) (by kernel_rfl) (by kernel_rfl) (by kernel_rfl) (by decide) (by kernel_rfl)
    (fun x => by kernel_rfl) (fun n => by
      rintro ⟨⟨x1, x2, ⟨⟩⟩, ⟨⟩⟩
      kernel_rfl)
    (fun n => obl_of (by kernel_rfl) (by kernel_rfl) (lz) (cn (cn (cn (cn (cn (cz) (by kernel_rfl)) (by kernel_rfl)) (by kernel_rfl)) (by kernel_rfl)) (by kernel_rfl)))
    (fun n ih => asc_cons (ref_None_ok ok n) <| asc_nil)
/-! ### pendulum/pendulumref.Around -/
abbrev ref_Around_ins : Sh := ⟨[(.agg [(.val (.int .i64)), (.val .bool), (.val .bool), (.val (.int .i64)), (.val (.int .i64))]), (.one (.val (.int .i64)))], []⟩
abbrev ref_Around_outs : List Sh := [⟨[(.agg [(.val (.int .i64)), (.val .bool), (.val .bool), (.val (.int .i64)), (.val (.int .i64))])], []⟩]
def ref_Around : Nat → ref_Around_ins.T → Option (OutsT ref_Around_outs)
  | 0, _ => none
  | n + 1, (((x1, x2, x3, x4, x5, _), x6, _), _) =>
    if x1 == 0 then
      match ref_None n ((), ()) with
      | some (((x7, x8, x9, x10, x11, _), _), _) => (
        some (((x7, x8, x9, x10, x11, ()), ()), ()))
      | none => none
    else
      if x2 then
        some (((x1, true, true, x6, x4, ()), ()), ())
      else
        some (((x1, true, false, x6, 0, ()), ()), ())
def ref_Around_H (n : Nat) : Hints := ⟨[], fun _ => [], fun _ => none, fun _ => none⟩
def ref_Around_O (n : Nat) : FuncId → List FSpec := asc [(48, ⟨ref_None_ins, ref_None_outs, ref_None n⟩)]
def b50 : Code := bodyOf Tryd.f50
theorem ref_Around_ok {S : Nat → Addr} (ok : CfgOk P CC S) : ∀ n, SpecOk P CC S 50 ⟨ref_Around_ins, ref_Around_outs, ref_Around n⟩ :=
  fn_all ok (O := ref_Around_O) (H := ref_Around_H) (fn := Tryd.f50) (body := b50) (by kernel_rfl) (by kernel_rfl) (by kernel_rfl) (by decide) (by kernel_rfl)
    (fun x => by kernel_rfl) (fun n => by
      rintro ⟨⟨⟨x1, x2, x3, x4, x5, ⟨⟩⟩, x6, ⟨⟩⟩, ⟨⟩⟩
      kernel_rfl)
    (fun n => obl_of (by kernel_rfl) (by kernel_rfl) (lz) (cn (cn (cn (cn (cn (cn (cn (cn (cz) (by kernel_rfl)) (by kernel_rfl)) (by kernel_rfl)) (by kernel_rfl)) (by kernel_rfl)) (by kernel_rfl)) (by kernel_rfl)) (by kernel_rfl)))
    (fun n ih => asc_cons (ref_None_ok ok n) <| asc_nil)
/-! ### pendulum/pendulumsee.Fault -/
abbrev pendulumsee_Fault_ins : Sh := ⟨[(.one (.val .err))], []⟩
abbrev pendulumsee_Fault_outs : List Sh := [⟨[(.agg [(.val (.int .i64)), (.val .bool), (.val .bool), (.val (.int .i64)), (.val (.int .i64))])], []⟩]
def pendulumsee_Fault : Nat → pendulumsee_Fault_ins.T → Option (OutsT pendulumsee_Fault_outs)
  | 0, _ => none
  | n + 1, ((x1, _), _) =>
    if errNil x1 then
      match ref_None n ((), ()) with
      | some (((x2, x3, x4, x5, x6, _), _), _) => (
        some (((x2, x3, x4, x5, x6, ()), ()), ()))
      | none => none
    else
      if !(errIsAt x1) then
        match pendulumsee_sentinel n ((x1, ()), ()) with
        | some ((x7, _), _) => (
          match ref_Bare n ((x7, ()), ()) with
          | some (((x8, x9, x10, x11, x12, _), _), _) => (
            some (((x8, x9, x10, x11, x12, ()), ()), ()))
          | none => none)
        | none => none
      else
        if Option.isNone (errAt x1) then
          match ref_Bare n (((-1), ()), ()) with
          | some (((x14, x15, x16, x17, x18, _), _), _) => (
            some (((x14, x15, x16, x17, x18, ()), ()), ()))
          | none => none
        else
          match errAt x1 with
          | some x13 => (
            if errNil x13.2 then
              match ref_Bare n (((-1), ()), ()) with
              | some (((x19, x20, x21, x22, x23, _), _), _) => (
                some (((x19, x20, x21, x22, x23, ()), ()), ()))
              | none => none
            else
              match errAt x1 with
              | some x24 => (
                if errIsAt x24.2 then
                  if Option.isNone (errAt x24.2) then
                    match ref_Bare n (((-1), ()), ()) with
                    | some (((x26, x27, x28, x29, x30, _), _), _) => (
                      some (((x26, x27, x28, x29, x30, ()), ()), ()))
                    | none => none
                  else
                    match errAt x24.2 with
                    | some x25 => (
                      if errNil x25.2 then
                        match ref_Bare n (((-1), ()), ()) with
                        | some (((x31, x32, x33, x34, x35, _), _), _) => (
                          some (((x31, x32, x33, x34, x35, ()), ()), ()))
                        | none => none
                      else
                        match errAt x24.2 with
                        | some x36 => (
                          match pendulumsee_sentinel n ((x36.2, ()), ()) with
                          | some ((x37, _), _) => (
                            match errAt x24.2 with
                            | some x38 => (
                              match ref_Placed n ((x37, x38.1, ()), ()) with
                              | some (((x39, x40, x41, x42, x43, _), _), _) => (
                                match errAt x1 with
                                | some x44 => (
                                  match ref_Around n (((x39, x40, x41, x42, x43, ()), x44.1, ()), ()) with
                                  | some (((x45, x46, x47, x48, x49, _), _), _) => (
                                    some (((x45, x46, x47, x48, x49, ()), ()), ()))
                                  | none => none)
                                | none => none)
                              | none => none)
                            | none => none)
                          | none => none)
                        | none => none)
                    | none => none
                else
                  match errAt x1 with
                  | some x50 => (
                    match pendulumsee_sentinel n ((x50.2, ()), ()) with
                    | some ((x51, _), _) => (
                      match errAt x1 with
                      | some x52 => (
                        match ref_Placed n ((x51, x52.1, ()), ()) with
                        | some (((x53, x54, x55, x56, x57, _), _), _) => (
                          some (((x53, x54, x55, x56, x57, ()), ()), ()))
                        | none => none)
                      | none => none)
                    | none => none)
                  | none => none)
              | none => none)
          | none => none
def pendulumsee_Fault_H (n : Nat) : Hints := ⟨[], fun _ => [], fun _ => none, fun _ => none⟩
def pendulumsee_Fault_O (n : Nat) : FuncId → List FSpec := asc [(32, ⟨ref_Bare_ins, ref_Bare_outs, ref_Bare n⟩), (48, ⟨ref_None_ins, ref_None_outs, ref_None n⟩), (49, ⟨pendulumsee_sentinel_ins, pendulumsee_sentinel_outs, pendulumsee_sentinel n⟩), (50, ⟨ref_Around_ins, ref_Around_outs, ref_Around n⟩), (51, ⟨ref_Placed_ins, ref_Placed_outs, ref_Placed n⟩)]
def b43 : Code := bodyOf Tryd.f43
theorem pendulumsee_Fault_ok {S : Nat → Addr} (ok : CfgOk P CC S) : ∀ n, SpecOk P CC S 43 ⟨pendulumsee_Fault_ins, pendulumsee_Fault_outs, pendulumsee_Fault n⟩ :=
  fn_all ok (O := pendulumsee_Fault_O) (H := pendulumsee_Fault_H) (fn := Tryd.f43) (body := b43) (by kernel_rfl) (by kernel_rfl) (by kernel_rfl) (by decide) (by kernel_rfl)
    (fun x => by kernel_rfl) (fun n => by
      rintro ⟨⟨x1, ⟨⟩⟩, ⟨⟩⟩
      kernel_rfl)
    (fun n => obl_of (by kernel_rfl) (by kernel_rfl) (lz) (cn (cn (cn (cn (cn (cn (cn (cn (cn (cn (cn (cn (cn (cn (cn (cn (cn (cn (cn (cz) (by kernel_rfl)) (by kernel_rfl)) (by kernel_rfl)) (by kernel_rfl)) (by kernel_rfl)) (by kernel_rfl)) (by kernel_rfl)) (by kernel_rfl)) (by kernel_rfl)) (by kernel_rfl)) (by kernel_rfl)) (by kernel_rfl)) (by kernel_rfl)) (by kernel_rfl)) (by kernel_rfl)) (by kernel_rfl)) (by kernel_rfl)) (by kernel_rfl)) (by kernel_rfl)))
    (fun n ih => asc_cons (ref_Bare_ok ok n) <| asc_cons (ref_None_ok ok n) <| asc_cons (pendulumsee_sentinel_ok ok n) <| asc_cons (ref_Around_ok ok n) <| asc_cons (ref_Placed_ok ok n) <| asc_nil)
/-! ### pendulum/pendulumref.SameFault -/
abbrev ref_SameFault_ins : Sh := ⟨[(.agg [(.val (.int .i64)), (.val .bool), (.val .bool), (.val (.int .i64)), (.val (.int .i64))]), (.agg [(.val (.int .i64)), (.val .bool), (.val .bool), (.val (.int .i64)), (.val (.int .i64))])], []⟩
abbrev ref_SameFault_outs : List Sh := [⟨[(.one (.val .bool))], []⟩]
def ref_SameFault : Nat → ref_SameFault_ins.T → Option (OutsT ref_SameFault_outs)
  | 0, _ => none
  | n + 1, (((x1, x2, x3, x4, x5, _), (x6, x7, x8, x9, x10, _), _), _) =>
    if x1 == x6 then
      if x2 == x7 then
        if x4 == x9 then
          if x3 == x8 then
            some ((x5 == x10, ()), ())
          else
            some ((false, ()), ())
        else
          some ((false, ()), ())
      else
        some ((false, ()), ())
    else
      some ((false, ()), ())
def ref_SameFault_H (n : Nat) : Hints := ⟨[], fun _ => [], fun _ => none, fun _ => none⟩
def ref_SameFault_O (n : Nat) : FuncId → List FSpec := asc []
def b42 : Code := bodyOf Tryd.f42
theorem ref_SameFault_ok {S : Nat → Addr} (ok : CfgOk P CC S) : ∀ n, SpecOk P CC S 42 ⟨ref_SameFault_ins, ref_SameFault_outs, ref_SameFault n⟩ :=
  fn_all ok (O := ref_SameFault_O) (H := ref_SameFault_H) (fn := Tryd.f42) (body := b42) (by kernel_rfl) (by kernel_rfl) (by kernel_rfl) (by decide) (by kernel_rfl)
    (fun x => by kernel_rfl) (fun n => by
      rintro ⟨⟨⟨x1, x2, x3, x4, x5, ⟨⟩⟩, ⟨x6, x7, x8, x9, x10, ⟨⟩⟩, ⟨⟩⟩, ⟨⟩⟩
      kernel_rfl)
    (fun n => obl_of (by kernel_rfl) (by kernel_rfl) (lz) (cn (cn (cz) (by kernel_rfl)) (by kernel_rfl)))
    (fun n ih => asc_nil)
/-! ### pendulum/pendulumsee.Same -/
abbrev pendulumsee_Same_ins : Sh := ⟨[(.one (.val .err)), (.agg [(.val (.int .i64)), (.val .bool), (.val .bool), (.val (.int .i64)), (.val (.int .i64))])], []⟩
abbrev pendulumsee_Same_outs : List Sh := [⟨[(.one (.val .bool))], []⟩]
def pendulumsee_Same : Nat → pendulumsee_Same_ins.T → Option (OutsT pendulumsee_Same_outs)
  | 0, _ => none
  | n + 1, ((x1, (x2, x3, x4, x5, x6, _), _), _) =>
    match pendulumsee_Fault n ((x1, ()), ()) with
    | some (((x7, x8, x9, x10, x11, _), _), _) => (
      match ref_SameFault n (((x7, x8, x9, x10, x11, ()), (x2, x3, x4, x5, x6, ()), ()), ()) with
      | some ((x12, _), _) => (
        some ((x12, ()), ()))
      | none => none)
    | none => none
def pendulumsee_Same_H (n : Nat) : Hints := ⟨[], fun _ => [], fun _ => none, fun _ => none⟩
def pendulumsee_Same_O (n : Nat) : FuncId → List FSpec := asc [(42, ⟨ref_SameFault_ins, ref_SameFault_outs, ref_SameFault n⟩), (43, ⟨pendulumsee_Fault_ins, pendulumsee_Fault_outs, pendulumsee_Fault n⟩)]
def b31 : Code := bodyOf Tryd.f31
theorem pendulumsee_Same_ok {S : Nat → Addr} (ok : CfgOk P CC S) : ∀ n, SpecOk P CC S 31 ⟨pendulumsee_Same_ins, pendulumsee_Same_outs, pendulumsee_Same n⟩ :=
  fn_all ok (O := pendulumsee_Same_O) (H := pendulumsee_Same_H) (fn := Tryd.f31) (body := b31) (by kernel_rfl) (by kernel_rfl) (by kernel_rfl) (by decide) (by kernel_rfl)
    (fun x => by kernel_rfl) (fun n => by
      rintro ⟨⟨x1, ⟨x2, x3, x4, x5, x6, ⟨⟩⟩, ⟨⟩⟩, ⟨⟩⟩
      kernel_rfl)
    (fun n => obl_of (by kernel_rfl) (by kernel_rfl) (lz) (cn (cn (cz) (by kernel_rfl)) (by kernel_rfl)))
    (fun n ih => asc_cons (ref_SameFault_ok ok n) <| asc_cons (pendulumsee_Fault_ok ok n) <| asc_nil)
/-! ### pendulum/pendulumsee.Is -/
abbrev pendulumsee_Is_ins : Sh := ⟨[(.one (.val .err)), (.one (.val (.int .i64)))], []⟩
abbrev pendulumsee_Is_outs : List Sh := [⟨[(.one (.val .bool))], []⟩]
def pendulumsee_Is : Nat → pendulumsee_Is_ins.T → Option (OutsT pendulumsee_Is_outs)
  | 0, _ => none
  | n + 1, ((x1, x2, _), _) =>
    match ref_Bare n ((x2, ()), ()) with
    | some (((x3, x4, x5, x6, x7, _), _), _) => (
      match pendulumsee_Same n ((x1, (x3, x4, x5, x6, x7, ()), ()), ()) with
      | some ((x8, _), _) => (
        some ((x8, ()), ()))
      | none => none)
    | none => none
def pendulumsee_Is_H (n : Nat) : Hints := ⟨[], fun _ => [], fun _ => none, fun _ => none⟩
def pendulumsee_Is_O (n : Nat) : FuncId → List FSpec := asc [(31, ⟨pendulumsee_Same_ins, pendulumsee_Same_outs, pendulumsee_Same n⟩), (32, ⟨ref_Bare_ins, ref_Bare_outs, ref_Bare n⟩)]
def b12 : Code := bodyOf Tryd.f12
theorem pendulumsee_Is_ok {S : Nat → Addr} (ok : CfgOk P CC S) : ∀ n, SpecOk P CC S 12 ⟨pendulumsee_Is_ins, pendulumsee_Is_outs, pendulumsee_Is n⟩ :=
  fn_all ok (O := pendulumsee_Is_O) (H := pendulumsee_Is_H) (fn := Tryd.f12) (body := b12) (by kernel_rfl) (by kernel_rfl) (by kernel_rfl) (by decide) (by kernel_rfl)
    (fun x => by kernel_rfl) (fun n => by
      rintro ⟨⟨x1, x2, ⟨⟩⟩, ⟨⟩⟩
      kernel_rfl)
    (fun n => obl_of (by kernel_rfl) (by kernel_rfl) (lz) (cn (cn (cz) (by kernel_rfl)) (by kernel_rfl)))
    (fun n ih => asc_cons (pendulumsee_Same_ok ok n) <| asc_cons (ref_Bare_ok ok n) <| asc_nil)
/-! ### pendulum/pendulumlaw3.DiskFlushes -/
abbrev law3_DiskFlushes_ins : Sh := ⟨[(.one (.val ty1)), (.one (.val ty1))], []⟩
abbrev law3_DiskFlushes_outs : List Sh := [⟨[(.one (.val .bool))], []⟩]
abbrev law3_DiskFlushes_l11_h : Sh := ⟨[(.one (.val ty1)), (.one (.val ty1)), (.one (.ptr 0 0)), (.one (.arr 1)), (.one (.val (.int .i64)))], [(.obj 63 [(.val (.int .i64)), (.map 2), (.map 3), (.val (.int .i64)), (.val (.int .i64)), (.val .bool)]), (.arr 3 (.int .i64)), (.map (.int .i64) ty0 false), (.map (.int .i64) ty0 false)]⟩
abbrev law3_DiskFlushes_l11_o : List Out := [⟨(.exit 0), [6, 8], ⟨[(.one (.ptr 0 0)), (.one (.arr 1))], [(.obj 63 [(.val (.int .i64)), (.map 2), (.map 3), (.val (.int .i64)), (.val (.int .i64)), (.val .bool)]), (.arr 3 (.int .i64)), (.map (.int .i64) ty0 false), (.map (.int .i64) ty0 false)]⟩⟩, ⟨.ret, [4], ⟨[(.one (.val .bool))], []⟩⟩]
def law3_DiskFlushes_l11 (n : Nat) : Nat → law3_DiskFlushes_l11_h.T → Option (OutT law3_DiskFlushes_l11_o)
  | 0, _ => none
  | k + 1, ((x1, x2, _, _, x3, _), ((x4, _, _, x5, x6, x7, _), l8, m9, m10, _)) =>
    if decide (x3 < (x1.length : Int)) then
      if 0 ≤ x3 ∧ x3 < (x1.length : Int) then (
        let v11 : Int := rdT ((.int .i64) : Ty) x1 x3
        match world_Number n ((v11, 12, ()), ()) with
        | some ((x12, _), _) => (
          let v13 : Int := IntKind.i64.wrap (x3 + 1)
          match disk_Disk_Write n (((), x12, (), ()), ((x4, (), (), x5, x6, x7, ()), [IntKind.u8.wrap v13], m9, m10, ())) with
          | some ((x14, _), ((x15, _, _, x16, x17, x18, _), _, m19, m20, _)) => (
            if !(errNil x14) then
              some (.inr (.inl ((false, ()), ())))
            else
              match disk_Disk_Flush n (((), ()), ((x15, (), (), x16, x17, x18, ()), m19, m20, ())) with
              | some ((x21, _), ((x22, _, _, x23, x24, x25, _), m26, m27, _)) => (
                if !(errNil x21) then
                  some (.inr (.inl ((false, ()), ())))
                else
                  match disk_Disk_Pending n (((), ()), ((x22, (), (), x23, x24, x25, ()), m26, m27, ())) with
                  | some ((x28, _), ((x29, _, _, x30, x31, x32, _), m33, m34, _)) => (
                    if x28 != 0 then
                      some (.inr (.inl ((false, ()), ())))
                    else
                      let v35 : Int := IntKind.i64.wrap (x3 + 1)
                      if 0 ≤ x12 ∧ x12 < (l8.length : Int) then (
                        match disk_Disk_Crash_2 n (((), x2, ()), ((x29, (), (), x30, x31, x32, ()), m33, m34, ())) with
                        | some ((_, _), ((x36, _, _, x37, x38, x39, _), m40, m41, _)) => (
                          let v42 : Int := IntKind.i64.wrap (x3 + 1)
                          law3_DiskFlushes_l11 n k ((x1, x2, (), (), v42, ()), ((x36, (), (), x37, x38, x39, ()), List.set l8 (x12 : Int).toNat v35, m40, m41, ())))
                        | none => none) else none)
                  | none => none)
              | none => none)
          | none => none)
        | none => none) else none
    else
      some (.inl (((), (), ()), ((x4, (), (), x5, x6, x7, ()), l8, m9, m10, ())))
abbrev law3_DiskFlushes_l19_h : Sh := ⟨[(.one (.ptr 0 0)), (.one (.arr 1)), (.one (.val (.int .i64)))], [(.obj 63 [(.val (.int .i64)), (.map 2), (.map 3), (.val (.int .i64)), (.val (.int .i64)), (.val .bool)]), (.arr 3 (.int .i64)), (.map (.int .i64) ty0 false), (.map (.int .i64) ty0 false)]⟩
abbrev law3_DiskFlushes_l19_o : List Out := [⟨(.exit 2), [], ⟨[], []⟩⟩, ⟨.ret, [4], ⟨[(.one (.val .bool))], []⟩⟩]
def law3_DiskFlushes_l19 (n : Nat) : Nat → law3_DiskFlushes_l19_h.T → Option (OutT law3_DiskFlushes_l19_o)
  | 0, _ => none
  | k + 1, ((_, _, x1, _), ((x2, _, _, x3, x4, x5, _), l6, m7, m8, _)) =>
    if decide (x1 < 12) then
      match disk_Disk_Read n (((), x1, ()), ((x2, (), (), x3, x4, x5, ()), m7, m8, ())) with
      | some ((((_, _), (x9, _), (x10, _), _), _), ((x11, _, _, x12, x13, x14, _), m15, m16, l17, _)) => (
        if !(errNil x10) then
          some (.inr (.inl ((false, ()), ())))
        else
          if 0 ≤ x1 ∧ x1 < (l6.length : Int) then (
            let v18 : Int := rdT ((.int .i64) : Ty) l6 x1
            if !(x9 == (decide (v18 > 0))) then
              some (.inr (.inl ((false, ()), ())))
            else
              if x9 then
                if (l17.length : Int) != 1 then
                  some (.inr (.inl ((false, ()), ())))
                else
                  if 0 ≤ (0 : Int) ∧ (0 : Int) < (l17.length : Int) then (
                    let v19 : Int := rdT ((.int .u8) : Ty) l17 0
                    if 0 ≤ x1 ∧ x1 < (l6.length : Int) then (
                      let v20 : Int := rdT ((.int .i64) : Ty) l6 x1
                      if IntKind.i64.wrap v19 != v20 then
                        some (.inr (.inl ((false, ()), ())))
                      else
                        let v21 : Int := IntKind.i64.wrap (x1 + 1)
                        law3_DiskFlushes_l19 n k (((), (), v21, ()), ((x11, (), (), x12, x13, x14, ()), l6, m15, m16, ()))) else none) else none
              else
                let v22 : Int := IntKind.i64.wrap (x1 + 1)
                law3_DiskFlushes_l19 n k (((), (), v22, ()), ((x11, (), (), x12, x13, x14, ()), l6, m15, m16, ()))) else none)
      | none => none
    else
      some (.inl ((), ()))
def law3_DiskFlushes : Nat → law3_DiskFlushes_ins.T → Option (OutsT law3_DiskFlushes_outs)
  | 0, _ => none
  | n + 1, ((x1, x2, _), _) =>
    match law3_first n ((), ()) with
    | some ((x3, _), _) => (
      if !x3 then
        some ((false, ()), ())
      else
        if decide ((x1.length : Int) > 30) then
          some ((x3, ()), ())
        else
          if decide ((x2.length : Int) > 12) then
            some ((x3, ()), ())
          else
            if !x3 then
              some ((x3, ()), ())
            else
              match disk_New n ((12, ()), ()) with
              | some (.inl ((((_, _), (x4, _), _), _), ((x5, _, _, x6, x7, x8, _), m9, m10, _))) => (
                if !(errNil x4) then
                  some ((false, ()), ())
                else
                  if 0 ≤ (12 : Int) ∧ (12 : Int) ≤ 12 ∧ (12 : Int) * ((8 : Nat) : Int) ≤ 140737488355328 ∧ (12 : Int) ≤ 140737488355328 then (
                    match law3_DiskFlushes_l11 n n ((x1, x2, (), (), 0, ()), ((x5, (), (), x6, x7, x8, ()), List.replicate (12 : Int).toNat 0, m9, m10, ())) with
                    | some (.inl ((_, _, _), ((x12, _, _, x13, x14, x15, _), l16, m17, m18, _))) => (
                      match law3_DiskFlushes_l19 n n (((), (), 0, ()), ((x12, (), (), x13, x14, x15, ()), l16, m17, m18, ())) with
                      | some (.inl (_, _)) => (
                        match pendulumsee_Is n ((ErrV.nil, 0, ()), ()) with
                        | some ((x21, _), _) => (
                          some ((x21, ()), ()))
                        | none => none)
                      | some (.inr (.inl ((x20, _), _))) => (
                        some ((x20, ()), ()))
                      | some (.inr (.inr (_))) => none
                      | none => none)
                    | some (.inr (.inl ((x19, _), _))) => (
                      some ((x19, ()), ()))
                    | some (.inr (.inr (_))) => none
                    | none => none) else none)
              | some (.inr (((((_, _), (x11, _), _), _), _))) => (
                some ((false, ()), ()))
              | none => none)
    | none => none
def law3_DiskFlushes_H (n : Nat) : Hints := ⟨[], fun _ => [], fun k => match k with | 11 => some ⟨[0, 1, 6, 8, 9], law3_DiskFlushes_l11_h, law3_DiskFlushes_l11_o, law3_DiskFlushes_l11 n⟩ | 19 => some ⟨[6, 8, 11], law3_DiskFlushes_l19_h, law3_DiskFlushes_l19_o, law3_DiskFlushes_l19 n⟩ | _ => none, fun _ => none⟩
def law3_DiskFlushes_O (n : Nat) : FuncId → List FSpec := asc [(9, ⟨law3_first_ins, law3_first_outs, law3_first n⟩), (10, ⟨world_Number_ins, world_Number_outs, world_Number n⟩), (11, ⟨disk_New_ins, disk_New_outs, disk_New n⟩), (12, ⟨pendulumsee_Is_ins, pendulumsee_Is_outs, pendulumsee_Is n⟩), (14, ⟨disk_Disk_Write_ins, disk_Disk_Write_outs, disk_Disk_Write n⟩), (15, ⟨disk_Disk_Read_ins, disk_Disk_Read_outs, disk_Disk_Read n⟩), (16, ⟨disk_Disk_Pending_ins, disk_Disk_Pending_outs, disk_Disk_Pending n⟩), (18, ⟨disk_Disk_Flush_ins, disk_Disk_Flush_outs, disk_Disk_Flush n⟩), (19, ⟨disk_Disk_Crash_2_ins, disk_Disk_Crash_2_outs, disk_Disk_Crash_2 n⟩)]
def b5 : Code := bodyOf Tryd.f5
theorem law3_DiskFlushes_l11_k0 (n : Nat) : LoopOk P CC (law3_DiskFlushes_O n) n 0 123 (law3_DiskFlushes_H n) ⟨[0, 1, 6, 8, 9], law3_DiskFlushes_l11_h, law3_DiskFlushes_l11_o, law3_DiskFlushes_l11 n⟩ ((loopsOf b5).getD 0 .skip) := by
  refine ⟨fun _ => by kernel_rfl, ?_⟩
  rintro k ⟨⟨x1, x2, ⟨⟩, ⟨⟩, x3, ⟨⟩⟩, ⟨⟨x4, ⟨⟩, ⟨⟩, x5, x6, x7, ⟨⟩⟩, x8, x9, x10, ⟨⟩⟩⟩
  kernel_rfl
theorem law3_DiskFlushes_l19_k1 (n : Nat) : LoopOk P CC (law3_DiskFlushes_O n) n 0 123 (law3_DiskFlushes_H n) ⟨[6, 8, 11], law3_DiskFlushes_l19_h, law3_DiskFlushes_l19_o, law3_DiskFlushes_l19 n⟩ ((loopsOf b5).getD 1 .skip) := by
  refine ⟨fun _ => by kernel_rfl, ?_⟩
  rintro k ⟨⟨⟨⟩, ⟨⟩, x1, ⟨⟩⟩, ⟨⟨x2, ⟨⟩, ⟨⟩, x3, x4, x5, ⟨⟩⟩, x6, x7, x8, ⟨⟩⟩⟩
  kernel_rfl
theorem law3_DiskFlushes_ok {S : Nat → Addr} (ok : CfgOk P CC S) : ∀ n, SpecOk P CC S 5 ⟨law3_DiskFlushes_ins, law3_DiskFlushes_outs, law3_DiskFlushes n⟩ :=
  fn_all ok (O := law3_DiskFlushes_O) (H := law3_DiskFlushes_H) (fn := Tryd.f5) (body := b5) (by kernel_rfl) (by kernel_rfl) (by kernel_rfl) (by decide) (by kernel_rfl)
    (fun x => by kernel_rfl) (fun n => by
      rintro ⟨⟨x1, x2, ⟨⟩⟩, ⟨⟩⟩
      kernel_rfl)
    (fun n => obl_of (by kernel_rfl) (by kernel_rfl) (ls (ls (lz) (by kernel_rfl) (law3_DiskFlushes_l11_k0 n)) (by kernel_rfl) (law3_DiskFlushes_l19_k1 n)) (cn (cn (cn (cn (cn (cn (cn (cn (cn (cn (cn (cn (cn (cn (cn (cn (cn (cn (cn (cn (cn (cn (cn (cn (cn (cn (cn (cn (cn (cn (cn (cn (cz) (by kernel_rfl)) (by kernel_rfl)) (by kernel_rfl)) (by kernel_rfl)) (by kernel_rfl)) (by kernel_rfl)) (by kernel_rfl)) (by kernel_rfl)) (by kernel_rfl)) (by kernel_rfl)) (by kernel_rfl)) (by kernel_rfl)) (by kernel_rfl)) (by kernel_rfl)) (by kernel_rfl)) (by kernel_rfl)) (by kernel_rfl)) (by kernel_rfl)) (by kernel_rfl)) (by kernel_rfl)) (by kernel_rfl)) (by kernel_rfl)) (by kernel_rfl)) (by kernel_rfl)) (by kernel_rfl)) (by kernel_rfl)) (by kernel_rfl)) (by kernel_rfl)) (by kernel_rfl)) (by kernel_rfl)) (by kernel_rfl)) (by kernel_rfl)))
    (fun n ih => asc_cons (law3_first_ok ok n) <| asc_cons (world_Number_ok ok n) <| asc_cons (disk_New_ok ok n) <| asc_cons (pendulumsee_Is_ok ok n) <| asc_cons (disk_Disk_Write_ok ok n) <| asc_cons (disk_Disk_Read_ok ok n) <| asc_cons (disk_Disk_Pending_ok ok n) <| asc_cons (disk_Disk_Flush_ok ok n) <| asc_cons (disk_Disk_Crash_2_ok ok n) <| asc_nil)
end
end Go.Proofs.YtgpoomkbkckbaaaDoor.Cm

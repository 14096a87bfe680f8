/- Printed by cmtext.py: the code as plain functions. -/
import Derived.Test.YtgpoomkbkckbaaaDoorCmFo
import Derived.Test.YtgpoomkbkckbaaaDoorShelf
import Derived.Test.YtgpoomkbkckbaaaDoorCmMp
import Derived.Test.YtgpoomkbkckbaaaDoorCmMq
namespace Go.Proofs.YtgpoomkbkckbaaaDoor.Cm
open Go
noncomputable section
set_option linter.unusedVariables false
set_option maxRecDepth 100000
abbrev P := Tryd.prog
abbrev CC : Cfg := ⟨119, 84, 88, [(103, 3), (104, 0), (118, 2), (119, 1)], []⟩
abbrev ty0 : Ty := (.slice 5 (.int .u8))
abbrev ty1 : Ty := (.slice 3 (.int .i64))
/-! ### pendulum/disk.New -/
abbrev disk_New_ins : Sh := ⟨[(.one (.val (.int .i64)))], []⟩
abbrev disk_New_outs : List Sh := [⟨[(.tup [(false, [(.ptr 0 0)]), (false, [(.val .err)])])], [(.obj 63 [(.val (.int .i64)), (.map 1), (.map 2), (.val (.int .i64)), (.val (.int .i64)), (.val .bool)]), (.map (.int .i64) ty0 false), (.map (.int .i64) ty0 false)]⟩, ⟨[(.tup [(false, [.nilp]), (false, [(.val .err)])])], []⟩]
def disk_New : Nat → disk_New_ins.T → Option (OutsT disk_New_outs)
  | 0, _ => none
  | n + 1, ((x1, _), _) =>
    if decide (x1 < 1) then
      some (.inr ((((((), ()), (ErrV.sent 104, ()), ()), ()), ())))
    else
      if decide (x1 > 16384) then
        some (.inr ((((((), ()), (ErrV.sent 104, ()), ()), ()), ())))
      else
        some (.inl (((((), ()), (ErrV.nil, ()), ()), ()), ((x1, (), (), 0, 0, false, ()), [], [], ())))
def disk_New_H (n : Nat) : Hints := ⟨[], fun _ => [], fun _ => none, fun _ => none⟩
def disk_New_O (n : Nat) : FuncId → List FSpec := asc []
def b11 : Code := bodyOf Tryd.f11
theorem disk_New_ok {S : Nat → Addr} (ok : CfgOk P CC S) : ∀ n, SpecOk P CC S 11 ⟨disk_New_ins, disk_New_outs, disk_New n⟩ :=
  fn_all ok (O := disk_New_O) (H := disk_New_H) (fn := Tryd.f11) (body := b11) (by kernel_rfl) (by kernel_rfl) (by kernel_rfl) (by decide) (by kernel_rfl)
    (fun x => by kernel_rfl) (fun n => by
      rintro ⟨⟨x1, ⟨⟩⟩, ⟨⟩⟩
      kernel_rfl)
    (fun n => obl_of (by kernel_rfl) (by kernel_rfl) (lz) (cn (cn (cn (cn (cn (cz) (by kernel_rfl)) (by kernel_rfl)) (by kernel_rfl)) (by kernel_rfl)) (by kernel_rfl)))
    (fun n ih => asc_nil)
/-! ### (*pendulum/disk.Disk).up -/
abbrev disk_Disk_up_ins : Sh := ⟨[(.one (.ptr 0 0))], [(.obj 63 [(.val (.int .i64)), (.map 1), (.map 2), (.val (.int .i64)), (.val (.int .i64)), (.val .bool)]), (.map (.int .i64) ty0 false), (.map (.int .i64) ty0 false)]⟩
abbrev disk_Disk_up_outs : List Sh := [⟨[(.one (.val .bool))], [(.obj 63 [(.val (.int .i64)), (.map 1), (.map 2), (.val (.int .i64)), (.val (.int .i64)), (.val .bool)]), (.map (.int .i64) ty0 false), (.map (.int .i64) ty0 false)]⟩]
abbrev disk_Disk_up_c4_h : Sh := ⟨[(.one (.ptr 0 0))], [(.obj 63 [(.val (.int .i64)), (.map 1), (.map 2), (.val (.int .i64)), (.val (.int .i64)), (.val .bool)]), (.map (.int .i64) ty0 false), (.map (.int .i64) ty0 false)]⟩
abbrev disk_Disk_up_c4_o : List Out := [⟨.normal, [0], ⟨[(.one (.ptr 0 0))], [(.obj 63 [(.val (.int .i64)), (.map 1), (.map 2), (.val (.int .i64)), (.val (.int .i64)), (.val .bool)]), (.map (.int .i64) ty0 false), (.map (.int .i64) ty0 false)]⟩⟩]
def disk_Disk_up_c4 (n : Nat) : disk_Disk_up_c4_h.T → Option (OutT disk_Disk_up_c4_o)
  | ((_, _), ((x1, _, _, x2, x3, x4, _), m5, m6, _)) =>
    if !x4 then
      if decide (x3 > 0) then
        let v7 : Int := IntKind.i64.wrap (x3 - 1)
        some (.inl (((), ()), ((x1, (), (), x2, v7, v7 == 0, ()), m5, m6, ())))
      else
        some (.inl (((), ()), ((x1, (), (), x2, x3, x4, ()), m5, m6, ())))
    else
      some (.inl (((), ()), ((x1, (), (), x2, x3, x4, ()), m5, m6, ())))
def disk_Disk_up : Nat → disk_Disk_up_ins.T → Option (OutsT disk_Disk_up_outs)
  | 0, _ => none
  | n + 1, ((_, _), ((x1, _, _, x2, x3, x4, _), m5, m6, _)) =>
    match disk_Disk_up_c4 n (((), ()), ((x1, (), (), x2, x3, x4, ()), m5, m6, ())) with
    | some (.inl ((_, _), ((x7, _, _, x8, x9, x10, _), m11, m12, _))) => (
      some ((!x10, ()), ((x7, (), (), x8, x9, x10, ()), m11, m12, ())))
    | some (.inr (_)) => none
    | none => none
def disk_Disk_up_H (n : Nat) : Hints := ⟨[], fun _ => [], fun _ => none, fun k => match k with | 4 => some ⟨[0], disk_Disk_up_c4_h, disk_Disk_up_c4_o, fun n => disk_Disk_up_c4 n⟩ | _ => none⟩
def disk_Disk_up_O (n : Nat) : FuncId → List FSpec := asc []
def b33 : Code := bodyOf Tryd.f33
theorem disk_Disk_up_c4_k1 (n : Nat) : CutOk P CC (disk_Disk_up_O n) n 3 35 (disk_Disk_up_H n) ⟨[0], disk_Disk_up_c4_h, disk_Disk_up_c4_o, fun n => disk_Disk_up_c4 n⟩ ((cutsOf b33).getD 1 (0, .skip)).2 := by
  rintro ⟨⟨⟨⟩, ⟨⟩⟩, ⟨⟨x1, ⟨⟩, ⟨⟩, x2, x3, x4, ⟨⟩⟩, x5, x6, ⟨⟩⟩⟩
  kernel_rfl
theorem disk_Disk_up_ok {S : Nat → Addr} (ok : CfgOk P CC S) : ∀ n, SpecOk P CC S 33 ⟨disk_Disk_up_ins, disk_Disk_up_outs, disk_Disk_up n⟩ :=
  fn_all ok (O := disk_Disk_up_O) (H := disk_Disk_up_H) (fn := Tryd.f33) (body := b33) (by kernel_rfl) (by kernel_rfl) (by kernel_rfl) (by decide) (by kernel_rfl)
    (fun x => by kernel_rfl) (fun n => by
      rintro ⟨⟨⟨⟩, ⟨⟩⟩, ⟨⟨x1, ⟨⟩, ⟨⟩, x2, x3, x4, ⟨⟩⟩, x5, x6, ⟨⟩⟩⟩
      kernel_rfl)
    (fun n => obl_of (by kernel_rfl) (by kernel_rfl) (lz) (cn (cn (cn (cs (cn (cz) (by kernel_rfl)) (by kernel_rfl) (disk_Disk_up_c4_k1 n)) (by kernel_rfl)) (by kernel_rfl)) (by kernel_rfl)))
    (fun n ih => asc_nil)
/-! ### slices.Clone[[]byte,byte] -/
abbrev slices_Clone_byte_byte_raw_ins : Sh := ⟨[(.one (.val ty0))], []⟩
abbrev slices_Clone_byte_byte_raw_outs : List Sh := [⟨[(.one (.arr 0))], [(.arr 5 (.int .u8))]⟩]
def slices_Clone_byte_byte_raw : Nat → slices_Clone_byte_byte_raw_ins.T → Option (OutsT slices_Clone_byte_byte_raw_outs)
  | 0, _ => none
  | n + 1, ((x1, _), _) =>
    if (x1.isEmpty || (Ty.size ((.int .u8) : Ty) == 0)) = true then
      both fun b2 =>
        if b2 then
          some (((), ()), ([], ()))
        else
          if (([] : List ((.int .u8) : Ty).T).length + x1.length) * 1 ≤ 140737488355328 then (
            some (((), ()), ([] ++ x1, ()))) else none
    else
      if (([] : List ((.int .u8) : Ty).T).length + x1.length) * 1 ≤ 140737488355328 then (
        some (((), ()), ([] ++ x1, ()))) else none
def slices_Clone_byte_byte_raw_H (n : Nat) : Hints := ⟨[], fun _ => [], fun _ => none, fun _ => none⟩
def slices_Clone_byte_byte_raw_O (n : Nat) : FuncId → List FSpec := asc []
def b34 : Code := bodyOf Tryd.f34
theorem slices_Clone_byte_byte_raw_ok {S : Nat → Addr} (ok : CfgOk P CC S) : ∀ n, SpecOk P CC S 34 ⟨slices_Clone_byte_byte_raw_ins, slices_Clone_byte_byte_raw_outs, slices_Clone_byte_byte_raw n⟩ :=
  fn_all ok (O := slices_Clone_byte_byte_raw_O) (H := slices_Clone_byte_byte_raw_H) (fn := Tryd.f34) (body := b34) (by kernel_rfl) (by kernel_rfl) (by kernel_rfl) (by decide) (by kernel_rfl)
    (fun x => by kernel_rfl) (fun n => by
      rintro ⟨⟨x1, ⟨⟩⟩, ⟨⟩⟩
      kernel_rfl)
    (fun n => obl_of (by kernel_rfl) (by kernel_rfl) (lz) (cn (cn (cn (cn (cn (cz) (by kernel_rfl)) (by kernel_rfl)) (by kernel_rfl)) (by kernel_rfl)) (by kernel_rfl)))
    (fun n ih => asc_nil)
abbrev slices_Clone_byte_byte_ins : Sh := slices_Clone_byte_byte_raw_ins
abbrev slices_Clone_byte_byte_outs : List Sh := slices_Clone_byte_byte_raw_outs
def slices_Clone_byte_byte : Nat → slices_Clone_byte_byte_ins.T → Option (OutsT slices_Clone_byte_byte_outs)
  | 0, _ => none
  | n + 1, ((x1, _), _) => if (([] : List ((.int .u8) : Ty).T).length + x1.length) * 1 ≤ 140737488355328 then (some (((), ()), (x1, ()))) else none
theorem slices_Clone_byte_byte_ok {S : Nat → Addr} (ok : CfgOk P CC S) : ∀ n, SpecOk P CC S 34 ⟨slices_Clone_byte_byte_ins, slices_Clone_byte_byte_outs, slices_Clone_byte_byte n⟩ := fun n => (slices_Clone_byte_byte_raw_ok ok n).weaken fun x y h => by
  cases n with
  | zero => cases h
  | succ n =>
    obtain ⟨⟨x1, ⟨⟩⟩, ⟨⟩⟩ := x
    simp only [slices_Clone_byte_byte] at h
    split at h
    · rename_i hc
      cases h
      simp only [slices_Clone_byte_byte_raw]
      split
      · rename_i he
        have h0 : x1 = [] := by simpa [Ty.size] using he
        subst h0
        exact both_same rfl rfl
      · first | rfl | (rw [if_pos hc]; rfl)
    · cases h
/-! ### (*pendulum/disk.Disk).Write -/
abbrev disk_Disk_Write_ins : Sh := ⟨[(.one (.ptr 0 0)), (.one (.val (.int .i64))), (.one (.arr 1))], [(.obj 63 [(.val (.int .i64)), (.map 2), (.map 3), (.val (.int .i64)), (.val (.int .i64)), (.val .bool)]), (.arr 5 (.int .u8)), (.map (.int .i64) ty0 false), (.map (.int .i64) ty0 false)]⟩
abbrev disk_Disk_Write_outs : List Sh := [⟨[(.one (.val .err))], [(.obj 63 [(.val (.int .i64)), (.map 2), (.map 3), (.val (.int .i64)), (.val (.int .i64)), (.val .bool)]), .dead, (.map (.int .i64) ty0 false), (.map (.int .i64) ty0 false)]⟩]
def disk_Disk_Write : Nat → disk_Disk_Write_ins.T → Option (OutsT disk_Disk_Write_outs)
  | 0, _ => none
  | n + 1, ((_, x1, _, _), ((x2, _, _, x3, x4, x5, _), l6, m7, m8, _)) =>
    match disk_Disk_up n (((), ()), ((x2, (), (), x3, x4, x5, ()), m7, m8, ())) with
    | some ((x9, _), ((x10, _, _, x11, x12, x13, _), m14, m15, _)) => (
      if !x9 then
        some ((ErrV.sent 119, ()), ((x10, (), (), x11, x12, x13, ()), (), m14, m15, ()))
      else
        if decide (x1 < 0) then
          some ((ErrV.sent 118, ()), ((x10, (), (), x11, x12, x13, ()), (), m14, m15, ()))
        else
          if decide (x1 ≥ x10) then
            some ((ErrV.sent 118, ()), ((x10, (), (), x11, x12, x13, ()), (), m14, m15, ()))
          else
            if decide ((l6.length : Int) > 128) then
              some ((ErrV.sent 103, ()), ((x10, (), (), x11, x12, x13, ()), (), m14, m15, ()))
            else
              match slices_Clone_byte_byte n ((l6, ()), ()) with
              | some ((_, _), (l16, _)) => (
                let v17 : Int := IntKind.i64.wrap (x11 + 1)
                some ((ErrV.nil, ()), ((x10, (), (), v17, x12, x13, ()), (), m14, mset (keyEq ((.int .i64) : Ty)) x1 l16 m15, ())))
              | none => none)
    | none => none
def disk_Disk_Write_H (n : Nat) : Hints := ⟨[], fun _ => [], fun _ => none, fun _ => none⟩
def disk_Disk_Write_O (n : Nat) : FuncId → List FSpec := asc [(33, ⟨disk_Disk_up_ins, disk_Disk_up_outs, disk_Disk_up n⟩), (34, ⟨slices_Clone_byte_byte_ins, slices_Clone_byte_byte_outs, slices_Clone_byte_byte n⟩)]
def b14 : Code := bodyOf Tryd.f14
theorem disk_Disk_Write_ok {S : Nat → Addr} (ok : CfgOk P CC S) : ∀ n, SpecOk P CC S 14 ⟨disk_Disk_Write_ins, disk_Disk_Write_outs, disk_Disk_Write n⟩ :=
  fn_all ok (O := disk_Disk_Write_O) (H := disk_Disk_Write_H) (fn := Tryd.f14) (body := b14) (by kernel_rfl) (by kernel_rfl) (by kernel_rfl) (by decide) (by kernel_rfl)
    (fun x => by kernel_rfl) (fun n => by
      rintro ⟨⟨⟨⟩, x1, ⟨⟩, ⟨⟩⟩, ⟨⟨x2, ⟨⟩, ⟨⟩, x3, x4, x5, ⟨⟩⟩, x6, x7, x8, ⟨⟩⟩⟩
      kernel_rfl)
    (fun n => obl_of (by kernel_rfl) (by kernel_rfl) (lz) (cn (cn (cn (cn (cn (cn (cn (cn (cn (cn (cn (cz) (by kernel_rfl)) (by kernel_rfl)) (by kernel_rfl)) (by kernel_rfl)) (by kernel_rfl)) (by kernel_rfl)) (by kernel_rfl)) (by kernel_rfl)) (by kernel_rfl)) (by kernel_rfl)) (by kernel_rfl)))
    (fun n ih => asc_cons (disk_Disk_up_ok ok n) <| asc_cons (slices_Clone_byte_byte_ok ok n) <| asc_nil)
/-! ### maps.Keys[map[int][]byte,int,[]byte] -/
abbrev maps_Keys_map_int_byte_int_byte_ins : Sh := ⟨[(.one (.map 0))], [(.map (.int .i64) ty0 false)]⟩
abbrev maps_Keys_map_int_byte_int_byte_outs : List Sh := [⟨[(.one (.fn 46 [1]))], [(.map (.int .i64) ty0 false), (.obj 61 [(.map 0)])]⟩]
def maps_Keys_map_int_byte_int_byte : Nat → maps_Keys_map_int_byte_int_byte_ins.T → Option (OutsT maps_Keys_map_int_byte_int_byte_outs)
  | 0, _ => none
  | n + 1, ((_, _), (m1, _)) =>
    some (((), ()), (m1, ((), ()), ()))
def maps_Keys_map_int_byte_int_byte_H (n : Nat) : Hints := ⟨[], fun _ => [], fun _ => none, fun _ => none⟩
def maps_Keys_map_int_byte_int_byte_O (n : Nat) : FuncId → List FSpec := asc []
def b37 : Code := bodyOf Tryd.f37
theorem maps_Keys_map_int_byte_int_byte_ok {S : Nat → Addr} (ok : CfgOk P CC S) : ∀ n, SpecOk P CC S 37 ⟨maps_Keys_map_int_byte_int_byte_ins, maps_Keys_map_int_byte_int_byte_outs, maps_Keys_map_int_byte_int_byte n⟩ :=
  fn_all ok (O := maps_Keys_map_int_byte_int_byte_O) (H := maps_Keys_map_int_byte_int_byte_H) (fn := Tryd.f37) (body := b37) (by kernel_rfl) (by kernel_rfl) (by kernel_rfl) (by decide) (by kernel_rfl)
    (fun x => by kernel_rfl) (fun n => by
      rintro ⟨⟨⟨⟩, ⟨⟩⟩, ⟨x1, ⟨⟩⟩⟩
      kernel_rfl)
    (fun n => obl_of (by kernel_rfl) (by kernel_rfl) (lz) (cn (cn (cz) (by kernel_rfl)) (by kernel_rfl)))
    (fun n ih => asc_nil)
/-! ### slices.Sorted[int] (by hand) -/
abbrev slices_Sorted_int_ins : Sh := ⟨[(.one (.fn 46 [0]))], [(.obj 61 [(.map 1)]), (.map (.int .i64) ty0 false)]⟩
abbrev slices_Sorted_int_outs : List Sh := [⟨[(.one (.arr 2))], [(.obj 61 [(.map 1)]), (.map (.int .i64) ty0 false), (.arr 3 (.int .i64))]⟩]
def slices_Sorted_int : Nat → slices_Sorted_int_ins.T → Option (OutsT slices_Sorted_int_outs) := fun _ => sortedSem 61 3 ty0 false 46
theorem slices_Sorted_int_ok {S : Nat → Addr} (ok : CfgOk P CC S) : ∀ n, SpecOk P CC S 36 ⟨slices_Sorted_int_ins, slices_Sorted_int_outs, slices_Sorted_int n⟩ := fun n => sorted_spec (ty := 3) ⟨Tryd.f36, by kernel_rfl, by kernel_rfl, by kernel_rfl⟩ (by kernel_rfl) Sq.sorted_calls
/-! ### (*pendulum/disk.Disk).Crash -/
abbrev disk_Disk_Crash_ins : Sh := ⟨[(.one (.ptr 0 0)), (.one (.arr 1))], [(.obj 63 [(.val (.int .i64)), (.map 2), (.map 3), (.val (.int .i64)), (.val (.int .i64)), (.val .bool)]), (.arr 3 (.int .i64)), (.map (.int .i64) ty0 false), (.map (.int .i64) ty0 false)]⟩
abbrev disk_Disk_Crash_outs : List Sh := [⟨[(.tup [])], [(.obj 63 [(.val (.int .i64)), (.map 2), (.map 3), (.val (.int .i64)), (.val (.int .i64)), (.val .bool)]), (.arr 3 (.int .i64)), (.map (.int .i64) ty0 false), (.map (.int .i64) ty0 false)]⟩]
abbrev disk_Disk_Crash_l1_h : Sh := ⟨[(.one (.ptr 0 0)), (.one (.arr 1)), (.one (.arr 4)), (.one (.val (.int .i64))), (.one (.val (.int .i64)))], [(.obj 63 [(.val (.int .i64)), (.map 2), (.map 3), (.val (.int .i64)), (.val (.int .i64)), (.val .bool)]), (.arr 3 (.int .i64)), (.map (.int .i64) ty0 false), (.map (.int .i64) ty0 false), (.arr 3 (.int .i64))]⟩
abbrev disk_Disk_Crash_l1_o : List Out := [⟨(.exit 0), [0], ⟨[(.one (.ptr 0 0))], [(.obj 63 [(.val (.int .i64)), (.map 2), (.map 3), (.val (.int .i64)), (.val (.int .i64)), (.val .bool)]), (.arr 3 (.int .i64)), (.map (.int .i64) ty0 false), (.map (.int .i64) ty0 false)]⟩⟩]
def disk_Disk_Crash_l1 (n : Nat) : Nat → disk_Disk_Crash_l1_h.T → Option (OutT disk_Disk_Crash_l1_o)
  | 0, _ => none
  | k + 1, ((_, _, _, x1, x2, _), ((x3, _, _, x4, x5, x6, _), l7, m8, m9, l10, _)) =>
    if decide (x2 < x1) then
      if 0 ≤ x2 ∧ x2 < (l10.length : Int) then (
        let v11 : Int := rdT ((.int .i64) : Ty) l10 x2
        if decide (x2 < (l7.length : Int)) then
          if 0 ≤ x2 ∧ x2 < (l7.length : Int) then (
            let v12 : Int := rdT ((.int .i64) : Ty) l7 x2
            if bitsOp .and .i64 v12 1 == 1 then
              let v13 : List Int := (mfind (keyEq ((.int .i64) : Ty)) v11 m9).getD []
              let v14 : Int := IntKind.i64.wrap (x2 + 1)
              disk_Disk_Crash_l1 n k (((), (), (), x1, v14, ()), ((x3, (), (), x4, x5, x6, ()), l7, mset (keyEq ((.int .i64) : Ty)) v11 v13 m8, m9, l10, ()))
            else
              let v15 : Int := IntKind.i64.wrap (x2 + 1)
              disk_Disk_Crash_l1 n k (((), (), (), x1, v15, ()), ((x3, (), (), x4, x5, x6, ()), l7, m8, m9, l10, ()))) else none
        else
          let v16 : Int := IntKind.i64.wrap (x2 + 1)
          disk_Disk_Crash_l1 n k (((), (), (), x1, v16, ()), ((x3, (), (), x4, x5, x6, ()), l7, m8, m9, l10, ()))) else none
    else
      some (.inl (((), ()), ((x3, (), (), x4, x5, x6, ()), l7, m8, m9, ())))
def disk_Disk_Crash : Nat → disk_Disk_Crash_ins.T → Option (OutsT disk_Disk_Crash_outs)
  | 0, _ => none
  | n + 1, ((_, _, _), ((x1, _, _, x2, x3, x4, _), l5, m6, m7, _)) =>
    match maps_Keys_map_int_byte_int_byte n (((), ()), (m7, ())) with
    | some ((_, _), (m8, (_, _), _)) => (
      match slices_Sorted_int n (((), ()), (((), ()), m8, ())) with
      | some ((_, _), ((_, _), m9, l10, _)) => (
        match disk_Disk_Crash_l1 n n (((), (), (), (l10.length : Int), 0, ()), ((x1, (), (), x2, x3, x4, ()), l5, m6, m9, l10, ())) with
        | some (.inl ((_, _), ((x11, _, _, x12, x13, x14, _), l15, m16, m17, _))) => (
          some (((), ()), ((x11, (), (), x12, 0, false, ()), l15, m16, [], ())))
        | some (.inr (_)) => none
        | none => none)
      | none => none)
    | none => none
def disk_Disk_Crash_H (n : Nat) : Hints := ⟨[], fun _ => [], fun k => match k with | 1 => some ⟨[0, 1, 11, 12, 13], disk_Disk_Crash_l1_h, disk_Disk_Crash_l1_o, disk_Disk_Crash_l1 n⟩ | _ => none, fun _ => none⟩
def disk_Disk_Crash_O (n : Nat) : FuncId → List FSpec := asc [(36, ⟨slices_Sorted_int_ins, slices_Sorted_int_outs, slices_Sorted_int n⟩), (37, ⟨maps_Keys_map_int_byte_int_byte_ins, maps_Keys_map_int_byte_int_byte_outs, maps_Keys_map_int_byte_int_byte n⟩)]
def b19 : Code := bodyOf Tryd.f19
theorem disk_Disk_Crash_l1_k0 (n : Nat) : LoopOk P CC (disk_Disk_Crash_O n) n 4 52 (disk_Disk_Crash_H n) ⟨[0, 1, 11, 12, 13], disk_Disk_Crash_l1_h, disk_Disk_Crash_l1_o, disk_Disk_Crash_l1 n⟩ ((loopsOf b19).getD 0 .skip) := by
  refine ⟨fun _ => by kernel_rfl, ?_⟩
  rintro k ⟨⟨⟨⟩, ⟨⟩, ⟨⟩, x1, x2, ⟨⟩⟩, ⟨⟨x3, ⟨⟩, ⟨⟩, x4, x5, x6, ⟨⟩⟩, x7, x8, x9, x10, ⟨⟩⟩⟩
  kernel_rfl
theorem disk_Disk_Crash_ok {S : Nat → Addr} (ok : CfgOk P CC S) : ∀ n, SpecOk P CC S 19 ⟨disk_Disk_Crash_ins, disk_Disk_Crash_outs, disk_Disk_Crash n⟩ :=
  fn_all ok (O := disk_Disk_Crash_O) (H := disk_Disk_Crash_H) (fn := Tryd.f19) (body := b19) (by kernel_rfl) (by kernel_rfl) (by kernel_rfl) (by decide) (by kernel_rfl)
    (fun x => by kernel_rfl) (fun n => by
      rintro ⟨⟨⟨⟩, ⟨⟩, ⟨⟩⟩, ⟨⟨x1, ⟨⟩, ⟨⟩, x2, x3, x4, ⟨⟩⟩, x5, x6, x7, ⟨⟩⟩⟩
      kernel_rfl)
    (fun n => obl_of (by kernel_rfl) (by kernel_rfl) (ls (lz) (by kernel_rfl) (disk_Disk_Crash_l1_k0 n)) (cn (cn (cn (cn (cn (cn (cn (cn (cz) (by kernel_rfl)) (by kernel_rfl)) (by kernel_rfl)) (by kernel_rfl)) (by kernel_rfl)) (by kernel_rfl)) (by kernel_rfl)) (by kernel_rfl)))
    (fun n ih => asc_cons (slices_Sorted_int_ok ok n) <| asc_cons (maps_Keys_map_int_byte_int_byte_ok ok n) <| asc_nil)
/-! ### (*pendulum/disk.Disk).Read -/
abbrev disk_Disk_Read_ins : Sh := ⟨[(.one (.ptr 0 0)), (.one (.val (.int .i64)))], [(.obj 63 [(.val (.int .i64)), (.map 1), (.map 2), (.val (.int .i64)), (.val (.int .i64)), (.val .bool)]), (.map (.int .i64) ty0 false), (.map (.int .i64) ty0 false)]⟩
abbrev disk_Disk_Read_outs : List Sh := [⟨[(.tup [(false, [(.arr 3)]), (false, [(.val .bool)]), (false, [(.val .err)])])], [(.obj 63 [(.val (.int .i64)), (.map 1), (.map 2), (.val (.int .i64)), (.val (.int .i64)), (.val .bool)]), (.map (.int .i64) ty0 false), (.map (.int .i64) ty0 false), (.arr 5 (.int .u8))]⟩]
abbrev disk_Disk_Read_c8_h : Sh := ⟨[(.one (.ptr 0 0)), (.one (.val (.int .i64))), (.one (.val ty0)), (.one (.val .bool))], [(.obj 63 [(.val (.int .i64)), (.map 1), (.map 2), (.val (.int .i64)), (.val (.int .i64)), (.val .bool)]), (.map (.int .i64) ty0 false), (.map (.int .i64) ty0 false)]⟩
abbrev disk_Disk_Read_c8_o : List Out := [⟨.normal, [7, 8], ⟨[(.one (.val ty0)), (.one (.val .bool))], [(.obj 63 [(.val (.int .i64)), (.map 1), (.map 2), (.val (.int .i64)), (.val (.int .i64)), (.val .bool)]), (.map (.int .i64) ty0 false), (.map (.int .i64) ty0 false)]⟩⟩]
def disk_Disk_Read_c8 (n : Nat) : disk_Disk_Read_c8_h.T → Option (OutT disk_Disk_Read_c8_o)
  | ((_, x1, x2, x3, _), ((x4, _, _, x5, x6, x7, _), m8, m9, _)) =>
    if !x3 then
      let v10 : List Int := (mfind (keyEq ((.int .i64) : Ty)) x1 m8).getD []
      some (.inl ((v10, (mfind (keyEq ((.int .i64) : Ty)) x1 m8).isSome, ()), ((x4, (), (), x5, x6, x7, ()), m8, m9, ())))
    else
      some (.inl ((x2, x3, ()), ((x4, (), (), x5, x6, x7, ()), m8, m9, ())))
def disk_Disk_Read : Nat → disk_Disk_Read_ins.T → Option (OutsT disk_Disk_Read_outs)
  | 0, _ => none
  | n + 1, ((_, x1, _), ((x2, _, _, x3, x4, x5, _), m6, m7, _)) =>
    if x5 then
      some (((((), ()), (false, ()), (ErrV.sent 119, ()), ()), ()), ((x2, (), (), x3, x4, x5, ()), m6, m7, [], ()))
    else
      if decide (x1 < 0) then
        some (((((), ()), (false, ()), (ErrV.sent 118, ()), ()), ()), ((x2, (), (), x3, x4, x5, ()), m6, m7, [], ()))
      else
        if decide (x1 ≥ x2) then
          some (((((), ()), (false, ()), (ErrV.sent 118, ()), ()), ()), ((x2, (), (), x3, x4, x5, ()), m6, m7, [], ()))
        else
          let v8 : List Int := (mfind (keyEq ((.int .i64) : Ty)) x1 m7).getD []
          match disk_Disk_Read_c8 n (((), x1, v8, (mfind (keyEq ((.int .i64) : Ty)) x1 m7).isSome, ()), ((x2, (), (), x3, x4, x5, ()), m6, m7, ())) with
          | some (.inl ((x9, x10, _), ((x11, _, _, x12, x13, x14, _), m15, m16, _))) => (
            match slices_Clone_byte_byte n ((x9, ()), ()) with
            | some ((_, _), (l17, _)) => (
              some (((((), ()), (x10, ()), (ErrV.nil, ()), ()), ()), ((x11, (), (), x12, x13, x14, ()), m15, m16, l17, ())))
            | none => none)
          | some (.inr (_)) => none
          | none => none
def disk_Disk_Read_H (n : Nat) : Hints := ⟨[], fun _ => [], fun _ => none, fun k => match k with | 8 => some ⟨[0, 1, 7, 8], disk_Disk_Read_c8_h, disk_Disk_Read_c8_o, fun n => disk_Disk_Read_c8 n⟩ | _ => none⟩
def disk_Disk_Read_O (n : Nat) : FuncId → List FSpec := asc [(34, ⟨slices_Clone_byte_byte_ins, slices_Clone_byte_byte_outs, slices_Clone_byte_byte n⟩)]
def b15 : Code := bodyOf Tryd.f15
theorem disk_Disk_Read_c8_k8 (n : Nat) : CutOk P CC (disk_Disk_Read_O n) n 3 48 (disk_Disk_Read_H n) ⟨[0, 1, 7, 8], disk_Disk_Read_c8_h, disk_Disk_Read_c8_o, fun n => disk_Disk_Read_c8 n⟩ ((cutsOf b15).getD 8 (0, .skip)).2 := by
  rintro ⟨⟨⟨⟩, x1, x2, x3, ⟨⟩⟩, ⟨⟨x4, ⟨⟩, ⟨⟩, x5, x6, x7, ⟨⟩⟩, x8, x9, ⟨⟩⟩⟩
  kernel_rfl
theorem disk_Disk_Read_ok {S : Nat → Addr} (ok : CfgOk P CC S) : ∀ n, SpecOk P CC S 15 ⟨disk_Disk_Read_ins, disk_Disk_Read_outs, disk_Disk_Read n⟩ :=
  fn_all ok (O := disk_Disk_Read_O) (H := disk_Disk_Read_H) (fn := Tryd.f15) (body := b15) (by kernel_rfl) (by kernel_rfl) (by kernel_rfl) (by decide) (by kernel_rfl)
    (fun x => by kernel_rfl) (fun n => by
      rintro ⟨⟨⟨⟩, x1, ⟨⟩⟩, ⟨⟨x2, ⟨⟩, ⟨⟩, x3, x4, x5, ⟨⟩⟩, x6, x7, ⟨⟩⟩⟩
      kernel_rfl)
    (fun n => obl_of (by kernel_rfl) (by kernel_rfl) (lz) (cn (cn (cs (cn (cn (cn (cn (cn (cn (cn (cn (cz) (by kernel_rfl)) (by kernel_rfl)) (by kernel_rfl)) (by kernel_rfl)) (by kernel_rfl)) (by kernel_rfl)) (by kernel_rfl)) (by kernel_rfl)) (by kernel_rfl) (disk_Disk_Read_c8_k8 n)) (by kernel_rfl)) (by kernel_rfl)))
    (fun n ih => asc_cons (slices_Clone_byte_byte_ok ok n) <| asc_nil)
/-! ### pendulum/pendulumlaw3.first -/
abbrev law3_first_ins : Sh := ⟨[], []⟩
abbrev law3_first_outs : List Sh := [⟨[(.one (.val .bool))], []⟩]
def law3_first : Nat → law3_first_ins.T → Option (OutsT law3_first_outs)
  | 0, _ => none
  | n + 1, (_, _) =>
    match disk_New n ((4, ()), ()) with
    | some (.inl ((((_, _), (x1, _), _), _), ((x2, _, _, x3, x4, x5, _), m6, m7, _))) => (
      if !(errNil x1) then
        some ((false, ()), ())
      else
        match disk_Disk_Write n (((), 0, (), ()), ((x2, (), (), x3, x4, x5, ()), [1], m6, m7, ())) with
        | some ((x9, _), ((x10, _, _, x11, x12, x13, _), _, m14, m15, _)) => (
          if !(errNil x9) then
            some ((false, ()), ())
          else
            match disk_Disk_Crash n (((), (), ()), ((x10, (), (), x11, x12, x13, ()), [], m14, m15, ())) with
            | some ((_, _), ((x16, _, _, x17, x18, x19, _), l20, m21, m22, _)) => (
              match disk_Disk_Read n (((), 0, ()), ((x16, (), (), x17, x18, x19, ()), m21, m22, ())) with
              | some ((((_, _), (x23, _), (x24, _), _), _), ((x25, _, _, x26, x27, x28, _), m29, m30, l31, _)) => (
                some ((!x23, ()), ()))
              | none => none)
            | none => none)
        | none => none)
    | some (.inr (((((_, _), (x8, _), _), _), _))) => (
      some ((false, ()), ()))
    | none => none
def law3_first_H (n : Nat) : Hints := ⟨[], fun _ => [], fun _ => none, fun _ => none⟩
def law3_first_O (n : Nat) : FuncId → List FSpec := asc [(11, ⟨disk_New_ins, disk_New_outs, disk_New n⟩), (14, ⟨disk_Disk_Write_ins, disk_Disk_Write_outs, disk_Disk_Write n⟩), (15, ⟨disk_Disk_Read_ins, disk_Disk_Read_outs, disk_Disk_Read n⟩), (19, ⟨disk_Disk_Crash_ins, disk_Disk_Crash_outs, disk_Disk_Crash n⟩)]
def b9 : Code := bodyOf Tryd.f9
theorem law3_first_ok {S : Nat → Addr} (ok : CfgOk P CC S) : ∀ n, SpecOk P CC S 9 ⟨law3_first_ins, law3_first_outs, law3_first n⟩ :=
  fn_all ok (O := law3_first_O) (H := law3_first_H) (fn := Tryd.f9) (body := b9) (by kernel_rfl) (by kernel_rfl) (by kernel_rfl) (by decide) (by kernel_rfl)
    (fun x => by kernel_rfl) (fun n => by
      rintro ⟨⟨⟩, ⟨⟩⟩
      kernel_rfl)
    (fun n => obl_of (by kernel_rfl) (by kernel_rfl) (lz) (cn (cn (cn (cn (cn (cn (cn (cn (cz) (by kernel_rfl)) (by kernel_rfl)) (by kernel_rfl)) (by kernel_rfl)) (by kernel_rfl)) (by kernel_rfl)) (by kernel_rfl)) (by kernel_rfl)))
    (fun n ih => asc_cons (disk_New_ok ok n) <| asc_cons (disk_Disk_Write_ok ok n) <| asc_cons (disk_Disk_Read_ok ok n) <| asc_cons (disk_Disk_Crash_ok ok n) <| asc_nil)
/-! ### (*pendulum/disk.Disk).Write -/
abbrev disk_Disk_Write_2_ins : Sh := ⟨[(.one (.ptr 0 0)), (.one (.val (.int .i64))), (.one (.val ty0))], [(.obj 63 [(.val (.int .i64)), (.map 1), (.map 2), (.val (.int .i64)), (.val (.int .i64)), (.val .bool)]), (.map (.int .i64) ty0 false), (.map (.int .i64) ty0 false)]⟩
abbrev disk_Disk_Write_2_outs : List Sh := [⟨[(.one (.val .err))], [(.obj 63 [(.val (.int .i64)), (.map 1), (.map 2), (.val (.int .i64)), (.val (.int .i64)), (.val .bool)]), (.map (.int .i64) ty0 false), (.map (.int .i64) ty0 false)]⟩]
def disk_Disk_Write_2 : Nat → disk_Disk_Write_2_ins.T → Option (OutsT disk_Disk_Write_2_outs)
  | 0, _ => none
  | n + 1, ((_, x1, x2, _), ((x3, _, _, x4, x5, x6, _), m7, m8, _)) =>
    match disk_Disk_up n (((), ()), ((x3, (), (), x4, x5, x6, ()), m7, m8, ())) with
    | some ((x9, _), ((x10, _, _, x11, x12, x13, _), m14, m15, _)) => (
      if !x9 then
        some ((ErrV.sent 119, ()), ((x10, (), (), x11, x12, x13, ()), m14, m15, ()))
      else
        if decide (x1 < 0) then
          some ((ErrV.sent 118, ()), ((x10, (), (), x11, x12, x13, ()), m14, m15, ()))
        else
          if decide (x1 ≥ x10) then
            some ((ErrV.sent 118, ()), ((x10, (), (), x11, x12, x13, ()), m14, m15, ()))
          else
            if decide ((x2.length : Int) > 128) then
              some ((ErrV.sent 103, ()), ((x10, (), (), x11, x12, x13, ()), m14, m15, ()))
            else
              match slices_Clone_byte_byte n ((x2, ()), ()) with
              | some ((_, _), (l16, _)) => (
                let v17 : Int := IntKind.i64.wrap (x11 + 1)
                some ((ErrV.nil, ()), ((x10, (), (), v17, x12, x13, ()), m14, mset (keyEq ((.int .i64) : Ty)) x1 l16 m15, ())))
              | none => none)
    | none => none
def disk_Disk_Write_2_H (n : Nat) : Hints := ⟨[], fun _ => [], fun _ => none, fun _ => none⟩
def disk_Disk_Write_2_O (n : Nat) : FuncId → List FSpec := asc [(33, ⟨disk_Disk_up_ins, disk_Disk_up_outs, disk_Disk_up n⟩), (34, ⟨slices_Clone_byte_byte_ins, slices_Clone_byte_byte_outs, slices_Clone_byte_byte n⟩)]
theorem disk_Disk_Write_2_ok {S : Nat → Addr} (ok : CfgOk P CC S) : ∀ n, SpecOk P CC S 14 ⟨disk_Disk_Write_2_ins, disk_Disk_Write_2_outs, disk_Disk_Write_2 n⟩ :=
  fn_all ok (O := disk_Disk_Write_2_O) (H := disk_Disk_Write_2_H) (fn := Tryd.f14) (body := b14) (by kernel_rfl) (by kernel_rfl) (by kernel_rfl) (by decide) (by kernel_rfl)
    (fun x => by kernel_rfl) (fun n => by
      rintro ⟨⟨⟨⟩, x1, x2, ⟨⟩⟩, ⟨⟨x3, ⟨⟩, ⟨⟩, x4, x5, x6, ⟨⟩⟩, x7, x8, ⟨⟩⟩⟩
      kernel_rfl)
    (fun n => obl_of (by kernel_rfl) (by kernel_rfl) (lz) (cn (cn (cn (cn (cn (cn (cn (cn (cn (cn (cn (cz) (by kernel_rfl)) (by kernel_rfl)) (by kernel_rfl)) (by kernel_rfl)) (by kernel_rfl)) (by kernel_rfl)) (by kernel_rfl)) (by kernel_rfl)) (by kernel_rfl)) (by kernel_rfl)) (by kernel_rfl)))
    (fun n ih => asc_cons (disk_Disk_up_ok ok n) <| asc_cons (slices_Clone_byte_byte_ok ok n) <| asc_nil)
/-! ### maps.Copy[map[int][]byte,map[int][]byte,int,[]byte] (by hand) -/
abbrev maps_Copy_ins : Sh := ⟨[(.one (.map 0)), (.one (.map 1))], [(.map (.int .i64) ty0 false), (.map (.int .i64) ty0 false)]⟩
abbrev maps_Copy_outs : List Sh := [⟨[(.tup [])], [(.map (.int .i64) ty0 false), (.map (.int .i64) ty0 false)]⟩]
def maps_Copy : Nat → maps_Copy_ins.T → Option (OutsT maps_Copy_outs) := fun _ => copySem ty0 false
theorem maps_Copy_ok {S : Nat → Addr} (ok : CfgOk P CC S) : ∀ n, SpecOk P CC S 35 ⟨maps_Copy_ins, maps_Copy_outs, maps_Copy n⟩ := fun n => copy_spec (ty := 3) (vT := 32) ⟨Tryd.f35, by kernel_rfl, by kernel_rfl, by kernel_rfl⟩ (by kernel_rfl) Sq.copy_calls
/-! ### (*pendulum/disk.Disk).Flush -/
abbrev disk_Disk_Flush_ins : Sh := ⟨[(.one (.ptr 0 0))], [(.obj 63 [(.val (.int .i64)), (.map 1), (.map 2), (.val (.int .i64)), (.val (.int .i64)), (.val .bool)]), (.map (.int .i64) ty0 false), (.map (.int .i64) ty0 false)]⟩
abbrev disk_Disk_Flush_outs : List Sh := [⟨[(.one (.val .err))], [(.obj 63 [(.val (.int .i64)), (.map 1), (.map 2), (.val (.int .i64)), (.val (.int .i64)), (.val .bool)]), (.map (.int .i64) ty0 false), (.map (.int .i64) ty0 false)]⟩]
def disk_Disk_Flush : Nat → disk_Disk_Flush_ins.T → Option (OutsT disk_Disk_Flush_outs)
  | 0, _ => none
  | n + 1, ((_, _), ((x1, _, _, x2, x3, x4, _), m5, m6, _)) =>
    match disk_Disk_up n (((), ()), ((x1, (), (), x2, x3, x4, ()), m5, m6, ())) with
    | some ((x7, _), ((x8, _, _, x9, x10, x11, _), m12, m13, _)) => (
      if !x7 then
        some ((ErrV.sent 119, ()), ((x8, (), (), x9, x10, x11, ()), m12, m13, ()))
      else
        match maps_Copy n (((), (), ()), (m12, m13, ())) with
        | some ((_, _), (m14, m15, _)) => (
          let v16 : Int := IntKind.i64.wrap (x9 + 1)
          some ((ErrV.nil, ()), ((x8, (), (), v16, x10, x11, ()), m14, [], ())))
        | none => none)
    | none => none
def disk_Disk_Flush_H (n : Nat) : Hints := ⟨[], fun _ => [], fun _ => none, fun _ => none⟩
def disk_Disk_Flush_O (n : Nat) : FuncId → List FSpec := asc [(33, ⟨disk_Disk_up_ins, disk_Disk_up_outs, disk_Disk_up n⟩), (35, ⟨maps_Copy_ins, maps_Copy_outs, maps_Copy n⟩)]
def b18 : Code := bodyOf Tryd.f18
theorem disk_Disk_Flush_ok {S : Nat → Addr} (ok : CfgOk P CC S) : ∀ n, SpecOk P CC S 18 ⟨disk_Disk_Flush_ins, disk_Disk_Flush_outs, disk_Disk_Flush n⟩ :=
  fn_all ok (O := disk_Disk_Flush_O) (H := disk_Disk_Flush_H) (fn := Tryd.f18) (body := b18) (by kernel_rfl) (by kernel_rfl) (by kernel_rfl) (by decide) (by kernel_rfl)
    (fun x => by kernel_rfl) (fun n => by
      rintro ⟨⟨⟨⟩, ⟨⟩⟩, ⟨⟨x1, ⟨⟩, ⟨⟩, x2, x3, x4, ⟨⟩⟩, x5, x6, ⟨⟩⟩⟩
      kernel_rfl)
    (fun n => obl_of (by kernel_rfl) (by kernel_rfl) (lz) (cn (cn (cn (cn (cn (cn (cn (cn (cz) (by kernel_rfl)) (by kernel_rfl)) (by kernel_rfl)) (by kernel_rfl)) (by kernel_rfl)) (by kernel_rfl)) (by kernel_rfl)) (by kernel_rfl)))
    (fun n ih => asc_cons (disk_Disk_up_ok ok n) <| asc_cons (maps_Copy_ok ok n) <| asc_nil)
/-! ### (*pendulum/disk.Disk).Crash -/
abbrev disk_Disk_Crash_2_ins : Sh := ⟨[(.one (.ptr 0 0)), (.one (.val ty1))], [(.obj 63 [(.val (.int .i64)), (.map 1), (.map 2), (.val (.int .i64)), (.val (.int .i64)), (.val .bool)]), (.map (.int .i64) ty0 false), (.map (.int .i64) ty0 false)]⟩
abbrev disk_Disk_Crash_2_outs : List Sh := [⟨[(.tup [])], [(.obj 63 [(.val (.int .i64)), (.map 1), (.map 2), (.val (.int .i64)), (.val (.int .i64)), (.val .bool)]), (.map (.int .i64) ty0 false), (.map (.int .i64) ty0 false)]⟩]
abbrev disk_Disk_Crash_2_l1_h : Sh := ⟨[(.one (.ptr 0 0)), (.one (.val ty1)), (.one (.arr 3)), (.one (.val (.int .i64))), (.one (.val (.int .i64)))], [(.obj 63 [(.val (.int .i64)), (.map 1), (.map 2), (.val (.int .i64)), (.val (.int .i64)), (.val .bool)]), (.map (.int .i64) ty0 false), (.map (.int .i64) ty0 false), (.arr 3 (.int .i64))]⟩
abbrev disk_Disk_Crash_2_l1_o : List Out := [⟨(.exit 0), [0], ⟨[(.one (.ptr 0 0))], [(.obj 63 [(.val (.int .i64)), (.map 1), (.map 2), (.val (.int .i64)), (.val (.int .i64)), (.val .bool)]), (.map (.int .i64) ty0 false), (.map (.int .i64) ty0 false)]⟩⟩]
def disk_Disk_Crash_2_l1 (n : Nat) : Nat → disk_Disk_Crash_2_l1_h.T → Option (OutT disk_Disk_Crash_2_l1_o)
  | 0, _ => none
  | k + 1, ((_, x1, _, x2, x3, _), ((x4, _, _, x5, x6, x7, _), m8, m9, l10, _)) =>
    if decide (x3 < x2) then
      if 0 ≤ x3 ∧ x3 < (l10.length : Int) then (
        let v11 : Int := rdT ((.int .i64) : Ty) l10 x3
        if decide (x3 < (x1.length : Int)) then
          if 0 ≤ x3 ∧ x3 < (x1.length : Int) then (
            let v12 : Int := rdT ((.int .i64) : Ty) x1 x3
            if bitsOp .and .i64 v12 1 == 1 then
              let v13 : List Int := (mfind (keyEq ((.int .i64) : Ty)) v11 m9).getD []
              let v14 : Int := IntKind.i64.wrap (x3 + 1)
              disk_Disk_Crash_2_l1 n k (((), x1, (), x2, v14, ()), ((x4, (), (), x5, x6, x7, ()), mset (keyEq ((.int .i64) : Ty)) v11 v13 m8, m9, l10, ()))
            else
              let v15 : Int := IntKind.i64.wrap (x3 + 1)
              disk_Disk_Crash_2_l1 n k (((), x1, (), x2, v15, ()), ((x4, (), (), x5, x6, x7, ()), m8, m9, l10, ()))) else none
        else
          let v16 : Int := IntKind.i64.wrap (x3 + 1)
          disk_Disk_Crash_2_l1 n k (((), x1, (), x2, v16, ()), ((x4, (), (), x5, x6, x7, ()), m8, m9, l10, ()))) else none
    else
      some (.inl (((), ()), ((x4, (), (), x5, x6, x7, ()), m8, m9, ())))
def disk_Disk_Crash_2 : Nat → disk_Disk_Crash_2_ins.T → Option (OutsT disk_Disk_Crash_2_outs)
  | 0, _ => none
  | n + 1, ((_, x1, _), ((x2, _, _, x3, x4, x5, _), m6, m7, _)) =>
    match maps_Keys_map_int_byte_int_byte n (((), ()), (m7, ())) with
    | some ((_, _), (m8, (_, _), _)) => (
      match slices_Sorted_int n (((), ()), (((), ()), m8, ())) with
      | some ((_, _), ((_, _), m9, l10, _)) => (
        match disk_Disk_Crash_2_l1 n n (((), x1, (), (l10.length : Int), 0, ()), ((x2, (), (), x3, x4, x5, ()), m6, m9, l10, ())) with
        | some (.inl ((_, _), ((x11, _, _, x12, x13, x14, _), m15, m16, _))) => (
          some (((), ()), ((x11, (), (), x12, 0, false, ()), m15, [], ())))
        | some (.inr (_)) => none
        | none => none)
      | none => none)
    | none => none
def disk_Disk_Crash_2_H (n : Nat) : Hints := ⟨[], fun _ => [], fun k => match k with | 1 => some ⟨[0, 1, 11, 12, 13], disk_Disk_Crash_2_l1_h, disk_Disk_Crash_2_l1_o, disk_Disk_Crash_2_l1 n⟩ | _ => none, fun _ => none⟩
def disk_Disk_Crash_2_O (n : Nat) : FuncId → List FSpec := asc [(36, ⟨slices_Sorted_int_ins, slices_Sorted_int_outs, slices_Sorted_int n⟩), (37, ⟨maps_Keys_map_int_byte_int_byte_ins, maps_Keys_map_int_byte_int_byte_outs, maps_Keys_map_int_byte_int_byte n⟩)]
theorem disk_Disk_Crash_2_l1_k0 (n : Nat) : LoopOk P CC (disk_Disk_Crash_2_O n) n 3 52 (disk_Disk_Crash_2_H n) ⟨[0, 1, 11, 12, 13], disk_Disk_Crash_2_l1_h, disk_Disk_Crash_2_l1_o, disk_Disk_Crash_2_l1 n⟩ ((loopsOf b19).getD 0 .skip) := by
  refine ⟨fun _ => by kernel_rfl, ?_⟩
  rintro k ⟨⟨⟨⟩, x1, ⟨⟩, x2, x3, ⟨⟩⟩, ⟨⟨x4, ⟨⟩, ⟨⟩, x5, x6, x7, ⟨⟩⟩, x8, x9, x10, ⟨⟩⟩⟩
  kernel_rfl
theorem disk_Disk_Crash_2_ok {S : Nat → Addr} (ok : CfgOk P CC S) : ∀ n, SpecOk P CC S 19 ⟨disk_Disk_Crash_2_ins, disk_Disk_Crash_2_outs, disk_Disk_Crash_2 n⟩ :=
  fn_all ok (O := disk_Disk_Crash_2_O) (H := disk_Disk_Crash_2_H) (fn := Tryd.f19) (body := b19) (by kernel_rfl) (by kernel_rfl) (by kernel_rfl) (by decide) (by kernel_rfl)
    (fun x => by kernel_rfl) (fun n => by
      rintro ⟨⟨⟨⟩, x1, ⟨⟩⟩, ⟨⟨x2, ⟨⟩, ⟨⟩, x3, x4, x5, ⟨⟩⟩, x6, x7, ⟨⟩⟩⟩
      kernel_rfl)
    (fun n => obl_of (by kernel_rfl) (by kernel_rfl) (ls (lz) (by kernel_rfl) (disk_Disk_Crash_2_l1_k0 n)) (cn (cn (cn (cn (cn (cn (cn (cn (cz) (by kernel_rfl)) (by kernel_rfl)) (by kernel_rfl)) (by kernel_rfl)) (by kernel_rfl)) (by kernel_rfl)) (by kernel_rfl)) (by kernel_rfl)))
    (fun n ih => asc_cons (slices_Sorted_int_ok ok n) <| asc_cons (maps_Keys_map_int_byte_int_byte_ok ok n) <| asc_nil)
/-! ### pendulum/pendulumref.SameBytes -/
abbrev ref_SameBytes_ins : Sh := ⟨[(.one (.val ty0)), (.one (.val ty0))], []⟩
abbrev ref_SameBytes_outs : List Sh := [⟨[(.one (.val .bool))], []⟩]
abbrev ref_SameBytes_l4_h : Sh := ⟨[(.one (.val ty0)), (.one (.val ty0)), (.one (.val (.int .i64)))], []⟩
abbrev ref_SameBytes_l4_o : List Out := [⟨(.exit 0), [], ⟨[], []⟩⟩, ⟨.ret, [4], ⟨[(.one (.val .bool))], []⟩⟩]
def ref_SameBytes_l4 (n : Nat) : Nat → ref_SameBytes_l4_h.T → Option (OutT ref_SameBytes_l4_o)
  | 0, _ => none
  | k + 1, ((x1, x2, x3, _), _) =>
    if decide (x3 < (x1.length : Int)) then
      if 0 ≤ x3 ∧ x3 < (x1.length : Int) then (
        let v4 : Int := rdT ((.int .u8) : Ty) x1 x3
        if 0 ≤ x3 ∧ x3 < (x2.length : Int) then (
          let v5 : Int := rdT ((.int .u8) : Ty) x2 x3
          if !(v4 == v5) then
            some (.inr (.inl ((false, ()), ())))
          else
            let v6 : Int := IntKind.i64.wrap (x3 + 1)
            ref_SameBytes_l4 n k ((x1, x2, v6, ()), ())) else none) else none
    else
      some (.inl ((), ()))
def ref_SameBytes : Nat → ref_SameBytes_ins.T → Option (OutsT ref_SameBytes_outs)
  | 0, _ => none
  | n + 1, ((x1, x2, _), _) =>
    if (x1.length : Int) != (x2.length : Int) then
      some ((false, ()), ())
    else
      match ref_SameBytes_l4 n n ((x1, x2, 0, ()), ()) with
      | some (.inl (_, _)) => (
        some ((true, ()), ()))
      | some (.inr (.inl ((x3, _), _))) => (
        some ((x3, ()), ()))
      | some (.inr (.inr (_))) => none
      | none => none
def ref_SameBytes_H (n : Nat) : Hints := ⟨[], fun _ => [], fun k => match k with | 4 => some ⟨[0, 1, 5], ref_SameBytes_l4_h, ref_SameBytes_l4_o, ref_SameBytes_l4 n⟩ | _ => none, fun _ => none⟩
def ref_SameBytes_O (n : Nat) : FuncId → List FSpec := asc []
def b20 : Code := bodyOf Tryd.f20
theorem ref_SameBytes_l4_k0 (n : Nat) : LoopOk P CC (ref_SameBytes_O n) n 0 29 (ref_SameBytes_H n) ⟨[0, 1, 5], ref_SameBytes_l4_h, ref_SameBytes_l4_o, ref_SameBytes_l4 n⟩ ((loopsOf b20).getD 0 .skip) := by
  refine ⟨fun _ => by kernel_rfl, ?_⟩
  rintro k ⟨⟨x1, x2, x3, ⟨⟩⟩, ⟨⟩⟩
  kernel_rfl
theorem ref_SameBytes_ok {S : Nat → Addr} (ok : CfgOk P CC S) : ∀ n, SpecOk P CC S 20 ⟨ref_SameBytes_ins, ref_SameBytes_outs, ref_SameBytes n⟩ :=
  fn_all ok (O := ref_SameBytes_O) (H := ref_SameBytes_H) (fn := Tryd.f20) (body := b20) (by kernel_rfl) (by kernel_rfl) (by kernel_rfl) (by decide) (by kernel_rfl)
    (fun x => by kernel_rfl) (fun n => by
      rintro ⟨⟨x1, x2, ⟨⟩⟩, ⟨⟩⟩
      kernel_rfl)
    (fun n => obl_of (by kernel_rfl) (by kernel_rfl) (ls (lz) (by kernel_rfl) (ref_SameBytes_l4_k0 n)) (cn (cn (cn (cn (cn (cn (cn (cn (cn (cn (cn (cn (cn (cz) (by kernel_rfl)) (by kernel_rfl)) (by kernel_rfl)) (by kernel_rfl)) (by kernel_rfl)) (by kernel_rfl)) (by kernel_rfl)) (by kernel_rfl)) (by kernel_rfl)) (by kernel_rfl)) (by kernel_rfl)) (by kernel_rfl)) (by kernel_rfl)))
    (fun n ih => asc_nil)
/-! ### (*pendulum/disk.Disk).Pending -/
abbrev disk_Disk_Pending_ins : Sh := ⟨[(.one (.ptr 0 0))], [(.obj 63 [(.val (.int .i64)), (.map 1), (.map 2), (.val (.int .i64)), (.val (.int .i64)), (.val .bool)]), (.map (.int .i64) ty0 false), (.map (.int .i64) ty0 false)]⟩
abbrev disk_Disk_Pending_outs : List Sh := [⟨[(.one (.val (.int .i64)))], [(.obj 63 [(.val (.int .i64)), (.map 1), (.map 2), (.val (.int .i64)), (.val (.int .i64)), (.val .bool)]), (.map (.int .i64) ty0 false), (.map (.int .i64) ty0 false)]⟩]
def disk_Disk_Pending : Nat → disk_Disk_Pending_ins.T → Option (OutsT disk_Disk_Pending_outs)
  | 0, _ => none
  | n + 1, ((_, _), ((x1, _, _, x2, x3, x4, _), m5, m6, _)) =>
    some (((m6.length : Int), ()), ((x1, (), (), x2, x3, x4, ()), m5, m6, ()))
def disk_Disk_Pending_H (n : Nat) : Hints := ⟨[], fun _ => [], fun _ => none, fun _ => none⟩
def disk_Disk_Pending_O (n : Nat) : FuncId → List FSpec := asc []
def b16 : Code := bodyOf Tryd.f16
theorem disk_Disk_Pending_ok {S : Nat → Addr} (ok : CfgOk P CC S) : ∀ n, SpecOk P CC S 16 ⟨disk_Disk_Pending_ins, disk_Disk_Pending_outs, disk_Disk_Pending n⟩ :=
  fn_all ok (O := disk_Disk_Pending_O) (H := disk_Disk_Pending_H) (fn := Tryd.f16) (body := b16) (by kernel_rfl) (by kernel_rfl) (by kernel_rfl) (by decide) (by kernel_rfl)
    (fun x => by kernel_rfl) (fun n => by
      rintro ⟨⟨⟨⟩, ⟨⟩⟩, ⟨⟨x1, ⟨⟩, ⟨⟩, x2, x3, x4, ⟨⟩⟩, x5, x6, ⟨⟩⟩⟩
      kernel_rfl)
    (fun n => obl_of (by kernel_rfl) (by kernel_rfl) (lz) (cn (cn (cz) (by kernel_rfl)) (by kernel_rfl)))
    (fun n ih => asc_nil)
/-! ### pendulum/pendulumlaw3.DiskKeeps -/
abbrev law3_DiskKeeps_ins : Sh := ⟨[(.one (.val ty0)), (.one (.val ty0)), (.one (.val ty1))], []⟩
abbrev law3_DiskKeeps_outs : List Sh := [⟨[(.one (.val .bool))], []⟩]
abbrev law3_DiskKeeps_l10_h : Sh := ⟨[(.one (.val ty0)), (.one (.val ty0)), (.one (.val ty1)), (.one (.ptr 0 0)), (.one (.val (.int .i64)))], [(.obj 63 [(.val (.int .i64)), (.map 1), (.map 2), (.val (.int .i64)), (.val (.int .i64)), (.val .bool)]), (.map (.int .i64) ty0 false), (.map (.int .i64) ty0 false)]⟩
abbrev law3_DiskKeeps_l10_o : List Out := [⟨(.exit 0), [0, 1, 2, 8], ⟨[(.one (.val ty0)), (.one (.val ty0)), (.one (.val ty1)), (.one (.ptr 0 0))], [(.obj 63 [(.val (.int .i64)), (.map 1), (.map 2), (.val (.int .i64)), (.val (.int .i64)), (.val .bool)]), (.map (.int .i64) ty0 false), (.map (.int .i64) ty0 false)]⟩⟩, ⟨.ret, [6], ⟨[(.one (.val .bool))], []⟩⟩]
def law3_DiskKeeps_l10 (n : Nat) : Nat → law3_DiskKeeps_l10_h.T → Option (OutT law3_DiskKeeps_l10_o)
  | 0, _ => none
  | k + 1, ((x1, x2, x3, _, x4, _), ((x5, _, _, x6, x7, x8, _), m9, m10, _)) =>
    if decide (x4 < 8) then
      let v11 : Int := IntKind.i64.wrap (2 * x4)
      match disk_Disk_Write_2 n (((), v11, x1, ()), ((x5, (), (), x6, x7, x8, ()), m9, m10, ())) with
      | some ((x12, _), ((x13, _, _, x14, x15, x16, _), m17, m18, _)) => (
        if !(errNil x12) then
          some (.inr (.inl ((false, ()), ())))
        else
          let v19 : Int := IntKind.i64.wrap (x4 + 1)
          law3_DiskKeeps_l10 n k ((x1, x2, x3, (), v19, ()), ((x13, (), (), x14, x15, x16, ()), m17, m18, ())))
      | none => none
    else
      some (.inl ((x1, x2, x3, (), ()), ((x5, (), (), x6, x7, x8, ()), m9, m10, ())))
abbrev law3_DiskKeeps_l17_h : Sh := ⟨[(.one (.val ty0)), (.one (.val ty0)), (.one (.val ty1)), (.one (.ptr 0 0)), (.one (.val (.int .i64)))], [(.obj 63 [(.val (.int .i64)), (.map 1), (.map 2), (.val (.int .i64)), (.val (.int .i64)), (.val .bool)]), (.map (.int .i64) ty0 false), (.map (.int .i64) ty0 false)]⟩
abbrev law3_DiskKeeps_l17_o : List Out := [⟨(.exit 2), [0, 1, 2, 8], ⟨[(.one (.val ty0)), (.one (.val ty0)), (.one (.val ty1)), (.one (.ptr 0 0))], [(.obj 63 [(.val (.int .i64)), (.map 1), (.map 2), (.val (.int .i64)), (.val (.int .i64)), (.val .bool)]), (.map (.int .i64) ty0 false), (.map (.int .i64) ty0 false)]⟩⟩, ⟨.ret, [6], ⟨[(.one (.val .bool))], []⟩⟩]
def law3_DiskKeeps_l17 (n : Nat) : Nat → law3_DiskKeeps_l17_h.T → Option (OutT law3_DiskKeeps_l17_o)
  | 0, _ => none
  | k + 1, ((x1, x2, x3, _, x4, _), ((x5, _, _, x6, x7, x8, _), m9, m10, _)) =>
    if decide (x4 < 16) then
      match disk_Disk_Write_2 n (((), x4, x2, ()), ((x5, (), (), x6, x7, x8, ()), m9, m10, ())) with
      | some ((x11, _), ((x12, _, _, x13, x14, x15, _), m16, m17, _)) => (
        if !(errNil x11) then
          some (.inr (.inl ((false, ()), ())))
        else
          let v18 : Int := IntKind.i64.wrap (x4 + 1)
          law3_DiskKeeps_l17 n k ((x1, x2, x3, (), v18, ()), ((x12, (), (), x13, x14, x15, ()), m16, m17, ())))
      | none => none
    else
      some (.inl ((x1, x2, x3, (), ()), ((x5, (), (), x6, x7, x8, ()), m9, m10, ())))
abbrev law3_DiskKeeps_c29_h : Sh := ⟨[(.one (.val ty0)), (.one (.val ty0)), (.one (.val ty1)), (.one (.ptr 0 0)), (.one (.val (.int .i64))), (.one (.arr 1)), (.one (.val .bool)), (.one (.val .err)), (.one (.val .bool))], [(.obj 63 [(.val (.int .i64)), (.map 2), (.map 3), (.val (.int .i64)), (.val (.int .i64)), (.val .bool)]), (.arr 5 (.int .u8)), (.map (.int .i64) ty0 false), (.map (.int .i64) ty0 false)]⟩
abbrev law3_DiskKeeps_c29_o : List Out := [⟨.normal, [0, 1, 2, 8, 12, 13, 14, 16], ⟨[(.one (.val ty0)), (.one (.val ty0)), (.one (.val ty1)), (.one (.ptr 0 0)), (.one (.val (.int .i64))), (.one (.arr 1)), (.one (.val .bool)), (.one (.val .bool))], [(.obj 63 [(.val (.int .i64)), (.map 2), (.map 3), (.val (.int .i64)), (.val (.int .i64)), (.val .bool)]), (.arr 5 (.int .u8)), (.map (.int .i64) ty0 false), (.map (.int .i64) ty0 false)]⟩⟩, ⟨.ret, [6], ⟨[(.one (.val .bool))], []⟩⟩]
def law3_DiskKeeps_c29 (n : Nat) : law3_DiskKeeps_c29_h.T → Option (OutT law3_DiskKeeps_c29_o)
  | ((x1, x2, x3, _, x4, _, x5, x6, x7, _), ((x8, _, _, x9, x10, x11, _), l12, m13, m14, _)) =>
    if !(errNil x6) then
      some (.inr (.inl ((false, ()), ())))
    else
      if x7 then
        if !(x5 == true) then
          some (.inr (.inl ((false, ()), ())))
        else
          some (.inl ((x1, x2, x3, (), x4, (), x5, x7, ()), ((x8, (), (), x9, x10, x11, ()), l12, m13, m14, ())))
      else
        if !(x5 == (Int.tmod x4 2 == 0)) then
          some (.inr (.inl ((false, ()), ())))
        else
          some (.inl ((x1, x2, x3, (), x4, (), x5, x7, ()), ((x8, (), (), x9, x10, x11, ()), l12, m13, m14, ())))
abbrev law3_DiskKeeps_l23_h : Sh := ⟨[(.one (.val ty0)), (.one (.val ty0)), (.one (.val ty1)), (.one (.ptr 0 0)), (.one (.val (.int .i64)))], [(.obj 63 [(.val (.int .i64)), (.map 1), (.map 2), (.val (.int .i64)), (.val (.int .i64)), (.val .bool)]), (.map (.int .i64) ty0 false), (.map (.int .i64) ty0 false)]⟩
abbrev law3_DiskKeeps_l23_o : List Out := [⟨(.exit 4), [8], ⟨[(.one (.ptr 0 0))], [(.obj 63 [(.val (.int .i64)), (.map 1), (.map 2), (.val (.int .i64)), (.val (.int .i64)), (.val .bool)]), (.map (.int .i64) ty0 false), (.map (.int .i64) ty0 false)]⟩⟩, ⟨.ret, [6], ⟨[(.one (.val .bool))], []⟩⟩]
def law3_DiskKeeps_l23 (n : Nat) : Nat → law3_DiskKeeps_l23_h.T → Option (OutT law3_DiskKeeps_l23_o)
  | 0, _ => none
  | k + 1, ((x1, x2, x3, _, x4, _), ((x5, _, _, x6, x7, x8, _), m9, m10, _)) =>
    if decide (x4 < 16) then
      match disk_Disk_Read n (((), x4, ()), ((x5, (), (), x6, x7, x8, ()), m9, m10, ())) with
      | some ((((_, _), (x11, _), (x12, _), _), _), ((x13, _, _, x14, x15, x16, _), m17, m18, l19, _)) => (
        if decide (x4 < (x3.length : Int)) then
          if 0 ≤ x4 ∧ x4 < (x3.length : Int) then (
            let v20 : Int := rdT ((.int .i64) : Ty) x3 x4
            match law3_DiskKeeps_c29 n ((x1, x2, x3, (), x4, (), x11, x12, bitsOp .and .i64 v20 1 == 1, ()), ((x13, (), (), x14, x15, x16, ()), l19, m17, m18, ())) with
            | some (.inl ((x21, x22, x23, _, x24, _, x25, x26, _), ((x27, _, _, x28, x29, x30, _), l31, m32, m33, _))) => (
              if x26 then
                match ref_SameBytes n ((l31, x22, ()), ()) with
                | some ((x35, _), _) => (
                  if !x35 then
                    some (.inr (.inl ((false, ()), ())))
                  else
                    if !x26 then
                      if x25 then
                        match ref_SameBytes n ((l31, x21, ()), ()) with
                        | some ((x36, _), _) => (
                          if !x36 then
                            some (.inr (.inl ((false, ()), ())))
                          else
                            let v55 : Int := IntKind.i64.wrap (x24 + 1)
                            law3_DiskKeeps_l23 n k ((x21, x22, x23, (), v55, ()), ((x27, (), (), x28, x29, x30, ()), m32, m33, ())))
                        | none => none
                      else
                        let v56 : Int := IntKind.i64.wrap (x24 + 1)
                        law3_DiskKeeps_l23 n k ((x21, x22, x23, (), v56, ()), ((x27, (), (), x28, x29, x30, ()), m32, m33, ()))
                    else
                      let v57 : Int := IntKind.i64.wrap (x24 + 1)
                      law3_DiskKeeps_l23 n k ((x21, x22, x23, (), v57, ()), ((x27, (), (), x28, x29, x30, ()), m32, m33, ())))
                | none => none
              else
                if !x26 then
                  if x25 then
                    match ref_SameBytes n ((l31, x21, ()), ()) with
                    | some ((x37, _), _) => (
                      if !x37 then
                        some (.inr (.inl ((false, ()), ())))
                      else
                        let v58 : Int := IntKind.i64.wrap (x24 + 1)
                        law3_DiskKeeps_l23 n k ((x21, x22, x23, (), v58, ()), ((x27, (), (), x28, x29, x30, ()), m32, m33, ())))
                    | none => none
                  else
                    let v59 : Int := IntKind.i64.wrap (x24 + 1)
                    law3_DiskKeeps_l23 n k ((x21, x22, x23, (), v59, ()), ((x27, (), (), x28, x29, x30, ()), m32, m33, ()))
                else
                  let v60 : Int := IntKind.i64.wrap (x24 + 1)
                  law3_DiskKeeps_l23 n k ((x21, x22, x23, (), v60, ()), ((x27, (), (), x28, x29, x30, ()), m32, m33, ())))
            | some (.inr (.inl ((x34, _), _))) => (
              some (.inr (.inl ((x34, ()), ()))))
            | some (.inr (.inr (_))) => none
            | none => none) else none
        else
          match law3_DiskKeeps_c29 n ((x1, x2, x3, (), x4, (), x11, x12, false, ()), ((x13, (), (), x14, x15, x16, ()), l19, m17, m18, ())) with
          | some (.inl ((x38, x39, x40, _, x41, _, x42, x43, _), ((x44, _, _, x45, x46, x47, _), l48, m49, m50, _))) => (
            if x43 then
              match ref_SameBytes n ((l48, x39, ()), ()) with
              | some ((x52, _), _) => (
                if !x52 then
                  some (.inr (.inl ((false, ()), ())))
                else
                  if !x43 then
                    if x42 then
                      match ref_SameBytes n ((l48, x38, ()), ()) with
                      | some ((x53, _), _) => (
                        if !x53 then
                          some (.inr (.inl ((false, ()), ())))
                        else
                          let v61 : Int := IntKind.i64.wrap (x41 + 1)
                          law3_DiskKeeps_l23 n k ((x38, x39, x40, (), v61, ()), ((x44, (), (), x45, x46, x47, ()), m49, m50, ())))
                      | none => none
                    else
                      let v62 : Int := IntKind.i64.wrap (x41 + 1)
                      law3_DiskKeeps_l23 n k ((x38, x39, x40, (), v62, ()), ((x44, (), (), x45, x46, x47, ()), m49, m50, ()))
                  else
                    let v63 : Int := IntKind.i64.wrap (x41 + 1)
                    law3_DiskKeeps_l23 n k ((x38, x39, x40, (), v63, ()), ((x44, (), (), x45, x46, x47, ()), m49, m50, ())))
              | none => none
            else
              if !x43 then
                if x42 then
                  match ref_SameBytes n ((l48, x38, ()), ()) with
                  | some ((x54, _), _) => (
                    if !x54 then
                      some (.inr (.inl ((false, ()), ())))
                    else
                      let v64 : Int := IntKind.i64.wrap (x41 + 1)
                      law3_DiskKeeps_l23 n k ((x38, x39, x40, (), v64, ()), ((x44, (), (), x45, x46, x47, ()), m49, m50, ())))
                  | none => none
                else
                  let v65 : Int := IntKind.i64.wrap (x41 + 1)
                  law3_DiskKeeps_l23 n k ((x38, x39, x40, (), v65, ()), ((x44, (), (), x45, x46, x47, ()), m49, m50, ()))
              else
                let v66 : Int := IntKind.i64.wrap (x41 + 1)
                law3_DiskKeeps_l23 n k ((x38, x39, x40, (), v66, ()), ((x44, (), (), x45, x46, x47, ()), m49, m50, ())))
          | some (.inr (.inl ((x51, _), _))) => (
            some (.inr (.inl ((x51, ()), ()))))
          | some (.inr (.inr (_))) => none
          | none => none)
      | none => none
    else
      some (.inl (((), ()), ((x5, (), (), x6, x7, x8, ()), m9, m10, ())))
def law3_DiskKeeps : Nat → law3_DiskKeeps_ins.T → Option (OutsT law3_DiskKeeps_outs)
  | 0, _ => none
  | n + 1, ((x1, x2, x3, _), _) =>
    match law3_first n ((), ()) with
    | some ((x4, _), _) => (
      if !x4 then
        some ((false, ()), ())
      else
        if decide ((x1.length : Int) > 100) then
          some ((x4, ()), ())
        else
          if decide ((x2.length : Int) > 100) then
            some ((x4, ()), ())
          else
            if decide ((x3.length : Int) > 16) then
              some ((x4, ()), ())
            else
              if !x4 then
                some ((x4, ()), ())
              else
                match disk_New n ((16, ()), ()) with
                | some (.inl ((((_, _), (x5, _), _), _), ((x6, _, _, x7, x8, x9, _), m10, m11, _))) => (
                  if !(errNil x5) then
                    some ((false, ()), ())
                  else
                    match law3_DiskKeeps_l10 n n ((x1, x2, x3, (), 0, ()), ((x6, (), (), x7, x8, x9, ()), m10, m11, ())) with
                    | some (.inl ((x13, x14, x15, _, _), ((x16, _, _, x17, x18, x19, _), m20, m21, _))) => (
                      match disk_Disk_Flush n (((), ()), ((x16, (), (), x17, x18, x19, ()), m20, m21, ())) with
                      | some ((x23, _), ((x24, _, _, x25, x26, x27, _), m28, m29, _)) => (
                        if !(errNil x23) then
                          some ((false, ()), ())
                        else
                          match law3_DiskKeeps_l17 n n ((x13, x14, x15, (), 0, ()), ((x24, (), (), x25, x26, x27, ()), m28, m29, ())) with
                          | some (.inl ((x30, x31, x32, _, _), ((x33, _, _, x34, x35, x36, _), m37, m38, _))) => (
                            match disk_Disk_Crash_2 n (((), x32, ()), ((x33, (), (), x34, x35, x36, ()), m37, m38, ())) with
                            | some ((_, _), ((x40, _, _, x41, x42, x43, _), m44, m45, _)) => (
                              match law3_DiskKeeps_l23 n n ((x30, x31, x32, (), 0, ()), ((x40, (), (), x41, x42, x43, ()), m44, m45, ())) with
                              | some (.inl ((_, _), ((x46, _, _, x47, x48, x49, _), m50, m51, _))) => (
                                match disk_Disk_Pending n (((), ()), ((x46, (), (), x47, x48, x49, ()), m50, m51, ())) with
                                | some ((x53, _), ((x54, _, _, x55, x56, x57, _), m58, m59, _)) => (
                                  some ((x53 == 0, ()), ()))
                                | none => none)
                              | some (.inr (.inl ((x52, _), _))) => (
                                some ((x52, ()), ()))
                              | some (.inr (.inr (_))) => none
                              | none => none)
                            | none => none)
                          | some (.inr (.inl ((x39, _), _))) => (
                            some ((x39, ()), ()))
                          | some (.inr (.inr (_))) => none
                          | none => none)
                      | none => none)
                    | some (.inr (.inl ((x22, _), _))) => (
                      some ((x22, ()), ()))
                    | some (.inr (.inr (_))) => none
                    | none => none)
                | some (.inr (((((_, _), (x12, _), _), _), _))) => (
                  some ((false, ()), ()))
                | none => none)
    | none => none
def law3_DiskKeeps_H (n : Nat) : Hints := ⟨[], fun _ => [], fun k => match k with | 10 => some ⟨[0, 1, 2, 8, 10], law3_DiskKeeps_l10_h, law3_DiskKeeps_l10_o, law3_DiskKeeps_l10 n⟩ | 17 => some ⟨[0, 1, 2, 8, 11], law3_DiskKeeps_l17_h, law3_DiskKeeps_l17_o, law3_DiskKeeps_l17 n⟩ | 23 => some ⟨[0, 1, 2, 8, 12], law3_DiskKeeps_l23_h, law3_DiskKeeps_l23_o, law3_DiskKeeps_l23 n⟩ | _ => none, fun k => match k with | 29 => some ⟨[0, 1, 2, 8, 12, 13, 14, 15, 16], law3_DiskKeeps_c29_h, law3_DiskKeeps_c29_o, fun n => law3_DiskKeeps_c29 n⟩ | _ => none⟩
def law3_DiskKeeps_O (n : Nat) : FuncId → List FSpec := asc [(9, ⟨law3_first_ins, law3_first_outs, law3_first n⟩), (11, ⟨disk_New_ins, disk_New_outs, disk_New n⟩), (14, ⟨disk_Disk_Write_2_ins, disk_Disk_Write_2_outs, disk_Disk_Write_2 n⟩), (15, ⟨disk_Disk_Read_ins, disk_Disk_Read_outs, disk_Disk_Read n⟩), (16, ⟨disk_Disk_Pending_ins, disk_Disk_Pending_outs, disk_Disk_Pending n⟩), (18, ⟨disk_Disk_Flush_ins, disk_Disk_Flush_outs, disk_Disk_Flush n⟩), (19, ⟨disk_Disk_Crash_2_ins, disk_Disk_Crash_2_outs, disk_Disk_Crash_2 n⟩), (20, ⟨ref_SameBytes_ins, ref_SameBytes_outs, ref_SameBytes n⟩)]
def b4 : Code := bodyOf Tryd.f4
theorem law3_DiskKeeps_l10_k0 (n : Nat) : LoopOk P CC (law3_DiskKeeps_O n) n 0 131 (law3_DiskKeeps_H n) ⟨[0, 1, 2, 8, 10], law3_DiskKeeps_l10_h, law3_DiskKeeps_l10_o, law3_DiskKeeps_l10 n⟩ ((loopsOf b4).getD 0 .skip) := by
  refine ⟨fun _ => by kernel_rfl, ?_⟩
  rintro k ⟨⟨x1, x2, x3, ⟨⟩, x4, ⟨⟩⟩, ⟨⟨x5, ⟨⟩, ⟨⟩, x6, x7, x8, ⟨⟩⟩, x9, x10, ⟨⟩⟩⟩
  kernel_rfl
theorem law3_DiskKeeps_l17_k1 (n : Nat) : LoopOk P CC (law3_DiskKeeps_O n) n 0 131 (law3_DiskKeeps_H n) ⟨[0, 1, 2, 8, 11], law3_DiskKeeps_l17_h, law3_DiskKeeps_l17_o, law3_DiskKeeps_l17 n⟩ ((loopsOf b4).getD 1 .skip) := by
  refine ⟨fun _ => by kernel_rfl, ?_⟩
  rintro k ⟨⟨x1, x2, x3, ⟨⟩, x4, ⟨⟩⟩, ⟨⟨x5, ⟨⟩, ⟨⟩, x6, x7, x8, ⟨⟩⟩, x9, x10, ⟨⟩⟩⟩
  kernel_rfl
theorem law3_DiskKeeps_l23_k2 (n : Nat) : LoopOk P CC (law3_DiskKeeps_O n) n 0 131 (law3_DiskKeeps_H n) ⟨[0, 1, 2, 8, 12], law3_DiskKeeps_l23_h, law3_DiskKeeps_l23_o, law3_DiskKeeps_l23 n⟩ ((loopsOf b4).getD 2 .skip) := by
  refine ⟨fun _ => by kernel_rfl, ?_⟩
  rintro k ⟨⟨x1, x2, x3, ⟨⟩, x4, ⟨⟩⟩, ⟨⟨x5, ⟨⟩, ⟨⟩, x6, x7, x8, ⟨⟩⟩, x9, x10, ⟨⟩⟩⟩
  kernel_rfl
theorem law3_DiskKeeps_c29_k37 (n : Nat) : CutOk P CC (law3_DiskKeeps_O n) n 0 131 (law3_DiskKeeps_H n) ⟨[0, 1, 2, 8, 12, 13, 14, 15, 16], law3_DiskKeeps_c29_h, law3_DiskKeeps_c29_o, fun n => law3_DiskKeeps_c29 n⟩ ((cutsOf b4).getD 37 (0, .skip)).2 := by
  rintro ⟨⟨x1, x2, x3, ⟨⟩, x4, ⟨⟩, x5, x6, x7, ⟨⟩⟩, ⟨⟨x8, ⟨⟩, ⟨⟩, x9, x10, x11, ⟨⟩⟩, x12, x13, x14, ⟨⟩⟩⟩
  kernel_rfl
theorem law3_DiskKeeps_ok {S : Nat → Addr} (ok : CfgOk P CC S) : ∀ n, SpecOk P CC S 4 ⟨law3_DiskKeeps_ins, law3_DiskKeeps_outs, law3_DiskKeeps n⟩ :=
  fn_all ok (O := law3_DiskKeeps_O) (H := law3_DiskKeeps_H) (fn := Tryd.f4) (body := b4) (by kernel_rfl) (by kernel_rfl) (by kernel_rfl) (by decide) (by kernel_rfl)
    (fun x => by kernel_rfl) (fun n => by
      rintro ⟨⟨x1, x2, x3, ⟨⟩⟩, ⟨⟩⟩
      kernel_rfl)
    (fun n => obl_of (by kernel_rfl) (by kernel_rfl) (ls (ls (ls (lz) (by kernel_rfl) (law3_DiskKeeps_l10_k0 n)) (by kernel_rfl) (law3_DiskKeeps_l17_k1 n)) (by kernel_rfl) (law3_DiskKeeps_l23_k2 n)) (cn (cn (cn (cn (cn (cs (cn (cn (cn (cn (cn (cn (cn (cn (cn (cn (cn (cn (cn (cn (cn (cn (cn (cn (cn (cn (cn (cn (cn (cn (cn (cn (cn (cn (cn (cn (cn (cn (cn (cn (cn (cn (cn (cz) (by kernel_rfl)) (by kernel_rfl)) (by kernel_rfl)) (by kernel_rfl)) (by kernel_rfl)) (by kernel_rfl)) (by kernel_rfl)) (by kernel_rfl)) (by kernel_rfl)) (by kernel_rfl)) (by kernel_rfl)) (by kernel_rfl)) (by kernel_rfl)) (by kernel_rfl)) (by kernel_rfl)) (by kernel_rfl)) (by kernel_rfl)) (by kernel_rfl)) (by kernel_rfl)) (by kernel_rfl)) (by kernel_rfl)) (by kernel_rfl)) (by kernel_rfl)) (by kernel_rfl)) (by kernel_rfl)) (by kernel_rfl)) (by kernel_rfl)) (by kernel_rfl)) (by kernel_rfl)) (by kernel_rfl)) (by kernel_rfl)) (by kernel_rfl)) (by kernel_rfl)) (by kernel_rfl)) (by kernel_rfl)) (by kernel_rfl)) (by kernel_rfl)) (by kernel_rfl) (law3_DiskKeeps_c29_k37 n)) (by kernel_rfl)) (by kernel_rfl)) (by kernel_rfl)) (by kernel_rfl)) (by kernel_rfl)))
    (fun n ih => asc_cons (law3_first_ok ok n) <| asc_cons (disk_New_ok ok n) <| asc_cons (disk_Disk_Write_2_ok ok n) <| asc_cons (disk_Disk_Read_ok ok n) <| asc_cons (disk_Disk_Pending_ok ok n) <| asc_cons (disk_Disk_Flush_ok ok n) <| asc_cons (disk_Disk_Crash_2_ok ok n) <| asc_cons (ref_SameBytes_ok ok n) <| asc_nil)
end
end Go.Proofs.YtgpoomkbkckbaaaDoor.Cm

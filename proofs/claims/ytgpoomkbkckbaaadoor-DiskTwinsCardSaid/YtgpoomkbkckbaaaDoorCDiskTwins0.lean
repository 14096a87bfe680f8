/- Printed by cmtext.py: the code as plain functions. -/
import Derived.Test.YtgpoomkbkckbaaaDoorCmFo
import Derived.Test.YtgpoomkbkckbaaaDoorShelf
import Derived.Test.YtgpoomkbkckbaaaDoorCmMp
import Derived.Test.YtgpoomkbkckbaaaDoorCmMq
namespace Go.Proofs.YtgpoomkbkckbaaaDoor.Cm
open Go
noncomputable section
set_option linter.unusedVariables false
set_option maxRecDepth 100000
abbrev P := Tryd.prog
abbrev CC : Cfg := ⟨119, 84, 88, [(103, 3), (104, 0), (118, 2), (119, 1)], []⟩
abbrev ty0 : Ty := (.slice 5 (.int .u8))
/-! ### pendulum/disk.New -/
abbrev disk_New_ins : Sh := ⟨[(.one (.val (.int .i64)))], []⟩
abbrev disk_New_outs : List Sh := [⟨[(.tup [(false, [(.ptr 0 0)]), (false, [(.val .err)])])], [(.obj 63 [(.val (.int .i64)), (.map 1), (.map 2), (.val (.int .i64)), (.val (.int .i64)), (.val .bool)]), (.map (.int .i64) ty0 false), (.map (.int .i64) ty0 false)]⟩, ⟨[(.tup [(false, [.nilp]), (false, [(.val .err)])])], []⟩]
def disk_New : Nat → disk_New_ins.T → Option (OutsT disk_New_outs)
  | 0, _ => none
  | n + 1, ((x1, _), _) =>
    if decide (x1 < 1) then
      some (.inr ((((((), ()), (ErrV.sent 104, ()), ()), ()), ())))
    else
      if decide (x1 > 16384) then
        some (.inr ((((((), ()), (ErrV.sent 104, ()), ()), ()), ())))
      else
        some (.inl (((((), ()), (ErrV.nil, ()), ()), ()), ((x1, (), (), 0, 0, false, ()), [], [], ())))
def disk_New_H (n : Nat) : Hints := ⟨[], fun _ => [], fun _ => none, fun _ => none⟩
def disk_New_O (n : Nat) : FuncId → List FSpec := asc []
def b11 : Code := bodyOf Tryd.f11
theorem disk_New_ok {S : Nat → Addr} (ok : CfgOk P CC S) : ∀ n, SpecOk P CC S 11 ⟨disk_New_ins, disk_New_outs, disk_New n⟩ :=
  fn_all ok (O := disk_New_O) (H := disk_New_H) (fn := Tryd.f11) (body := b11) (by kernel_rfl) (by kernel_rfl) (by kernel_rfl) (by decide) (by kernel_rfl)
    (fun x => by kernel_rfl) (fun n => by
      rintro ⟨⟨x1, ⟨⟩⟩, ⟨⟩⟩
      kernel_rfl)
    (fun n => obl_of (by kernel_rfl) (by kernel_rfl) (lz) (cn (cn (cn (cn (cn (cz) (by kernel_rfl)) (by kernel_rfl)) (by kernel_rfl)) (by kernel_rfl)) (by kernel_rfl)))
    (fun n ih => asc_nil)
/-! ### (*pendulum/disk.Disk).up -/
abbrev disk_Disk_up_ins : Sh := ⟨[(.one (.ptr 0 0))], [(.obj 63 [(.val (.int .i64)), (.map 1), (.map 2), (.val (.int .i64)), (.val (.int .i64)), (.val .bool)]), (.map (.int .i64) ty0 false), (.map (.int .i64) ty0 false)]⟩
abbrev disk_Disk_up_outs : List Sh := [⟨[(.one (.val .bool))], [(.obj 63 [(.val (.int .i64)), (.map 1), (.map 2), (.val (.int .i64)), (.val (.int .i64)), (.val .bool)]), (.map (.int .i64) ty0 false), (.map (.int .i64) ty0 false)]⟩]
abbrev disk_Disk_up_c4_h : Sh := ⟨[(.one (.ptr 0 0))], [(.obj 63 [(.val (.int .i64)), (.map 1), (.map 2), (.val (.int .i64)), (.val (.int .i64)), (.val .bool)]), (.map (.int .i64) ty0 false), (.map (.int .i64) ty0 false)]⟩
abbrev disk_Disk_up_c4_o : List Out := [⟨.normal, [0], ⟨[(.one (.ptr 0 0))], [(.obj 63 [(.val (.int .i64)), (.map 1), (.map 2), (.val (.int .i64)), (.val (.int .i64)), (.val .bool)]), (.map (.int .i64) ty0 false), (.map (.int .i64) ty0 false)]⟩⟩]
def disk_Disk_up_c4 (n : Nat) : disk_Disk_up_c4_h.T → Option (OutT disk_Disk_up_c4_o)
  | ((_, _), ((x1, _, _, x2, x3, x4, _), m5, m6, _)) =>
    if !x4 then
      if decide (x3 > 0) then
        let v7 : Int := IntKind.i64.wrap (x3 - 1)
        some (.inl (((), ()), ((x1, (), (), x2, v7, v7 == 0, ()), m5, m6, ())))
      else
        some (.inl (((), ()), ((x1, (), (), x2, x3, x4, ()), m5, m6, ())))
    else
      some (.inl (((), ()), ((x1, (), (), x2, x3, x4, ()), m5, m6, ())))
def disk_Disk_up : Nat → disk_Disk_up_ins.T → Option (OutsT disk_Disk_up_outs)
  | 0, _ => none
  | n + 1, ((_, _), ((x1, _, _, x2, x3, x4, _), m5, m6, _)) =>
    match disk_Disk_up_c4 n (((), ()), ((x1, (), (), x2, x3, x4, ()), m5, m6, ())) with
    | some (.inl ((_, _), ((x7, _, _, x8, x9, x10, _), m11, m12, _))) => (
      some ((!x10, ()), ((x7, (), (), x8, x9, x10, ()), m11, m12, ())))
    | some (.inr (_)) => none
    | none => none
def disk_Disk_up_H (n : Nat) : Hints := ⟨[], fun _ => [], fun _ => none, fun k => match k with | 4 => some ⟨[0], disk_Disk_up_c4_h, disk_Disk_up_c4_o, fun n => disk_Disk_up_c4 n⟩ | _ => none⟩
def disk_Disk_up_O (n : Nat) : FuncId → List FSpec := asc []
def b33 : Code := bodyOf Tryd.f33
theorem disk_Disk_up_c4_k1 (n : Nat) : CutOk P CC (disk_Disk_up_O n) n 3 35 (disk_Disk_up_H n) ⟨[0], disk_Disk_up_c4_h, disk_Disk_up_c4_o, fun n => disk_Disk_up_c4 n⟩ ((cutsOf b33).getD 1 (0, .skip)).2 := by
  rintro ⟨⟨⟨⟩, ⟨⟩⟩, ⟨⟨x1, ⟨⟩, ⟨⟩, x2, x3, x4, ⟨⟩⟩, x5, x6, ⟨⟩⟩⟩
  kernel_rfl
theorem disk_Disk_up_ok {S : Nat → Addr} (ok : CfgOk P CC S) : ∀ n, SpecOk P CC S 33 ⟨disk_Disk_up_ins, disk_Disk_up_outs, disk_Disk_up n⟩ :=
  fn_all ok (O := disk_Disk_up_O) (H := disk_Disk_up_H) (fn := Tryd.f33) (body := b33) (by kernel_rfl) (by kernel_rfl) (by kernel_rfl) (by decide) (by kernel_rfl)
    (fun x => by kernel_rfl) (fun n => by
      rintro ⟨⟨⟨⟩, ⟨⟩⟩, ⟨⟨x1, ⟨⟩, ⟨⟩, x2, x3, x4, ⟨⟩⟩, x5, x6, ⟨⟩⟩⟩
      kernel_rfl)
    (fun n => obl_of (by kernel_rfl) (by kernel_rfl) (lz) (cn (cn (cn (cs (cn (cz) (by kernel_rfl)) (by kernel_rfl) (disk_Disk_up_c4_k1 n)) (by kernel_rfl)) (by kernel_rfl)) (by kernel_rfl)))
    (fun n ih => asc_nil)
/-! ### slices.Clone[[]byte,byte] -/
abbrev slices_Clone_byte_byte_raw_ins : Sh := ⟨[(.one (.val ty0))], []⟩
abbrev slices_Clone_byte_byte_raw_outs : List Sh := [⟨[(.one (.arr 0))], [(.arr 5 (.int .u8))]⟩]
def slices_Clone_byte_byte_raw : Nat → slices_Clone_byte_byte_raw_ins.T → Option (OutsT slices_Clone_byte_byte_raw_outs)
  | 0, _ => none
  | n + 1, ((x1, _), _) =>
    if (x1.isEmpty || (Ty.size ((.int .u8) : Ty) == 0)) = true then
      both fun b2 =>
        if b2 then
          some (((), ()), ([], ()))
        else
          if (([] : List ((.int .u8) : Ty).T).length + x1.length) * 1 ≤ 140737488355328 then (
            some (((), ()), ([] ++ x1, ()))) else none
    else
      if (([] : List ((.int .u8) : Ty).T).length + x1.length) * 1 ≤ 140737488355328 then (
        some (((), ()), ([] ++ x1, ()))) else none
def slices_Clone_byte_byte_raw_H (n : Nat) : Hints := ⟨[], fun _ => [], fun _ => none, fun _ => none⟩
def slices_Clone_byte_byte_raw_O (n : Nat) : FuncId → List FSpec := asc []
def b34 : Code := bodyOf Tryd.f34
theorem slices_Clone_byte_byte_raw_ok {S : Nat → Addr} (ok : CfgOk P CC S) : ∀ n, SpecOk P CC S 34 ⟨slices_Clone_byte_byte_raw_ins, slices_Clone_byte_byte_raw_outs, slices_Clone_byte_byte_raw n⟩ :=
  fn_all ok (O := slices_Clone_byte_byte_raw_O) (H := slices_Clone_byte_byte_raw_H) (fn := Tryd.f34) (body := b34) (by kernel_rfl) (by kernel_rfl) (by kernel_rfl) (by decide) (by kernel_rfl)
    (fun x => by kernel_rfl) (fun n => by
      rintro ⟨⟨x1, ⟨⟩⟩, ⟨⟩⟩
      kernel_rfl)
    (fun n => obl_of (by kernel_rfl) (by kernel_rfl) (lz) (cn (cn (cn (cn (cn (cz) (by kernel_rfl)) (by kernel_rfl)) (by kernel_rfl)) (by kernel_rfl)) (by kernel_rfl)))
    (fun n ih => asc_nil)
abbrev slices_Clone_byte_byte_ins : Sh := slices_Clone_byte_byte_raw_ins
abbrev slices_Clone_byte_byte_outs : List Sh := slices_Clone_byte_byte_raw_outs
def slices_Clone_byte_byte : Nat → slices_Clone_byte_byte_ins.T → Option (OutsT slices_Clone_byte_byte_outs)
  | 0, _ => none
  | n + 1, ((x1, _), _) => if (([] : List ((.int .u8) : Ty).T).length + x1.length) * 1 ≤ 140737488355328 then (some (((), ()), (x1, ()))) else none
theorem slices_Clone_byte_byte_ok {S : Nat → Addr} (ok : CfgOk P CC S) : ∀ n, SpecOk P CC S 34 ⟨slices_Clone_byte_byte_ins, slices_Clone_byte_byte_outs, slices_Clone_byte_byte n⟩ := fun n => (slices_Clone_byte_byte_raw_ok ok n).weaken fun x y h => by
  cases n with
  | zero => cases h
  | succ n =>
    obtain ⟨⟨x1, ⟨⟩⟩, ⟨⟩⟩ := x
    simp only [slices_Clone_byte_byte] at h
    split at h
    · rename_i hc
      cases h
      simp only [slices_Clone_byte_byte_raw]
      split
      · rename_i he
        have h0 : x1 = [] := by simpa [Ty.size] using he
        subst h0
        exact both_same rfl rfl
      · first | rfl | (rw [if_pos hc]; rfl)
    · cases h
/-! ### (*pendulum/disk.Disk).Write -/
abbrev disk_Disk_Write_ins : Sh := ⟨[(.one (.ptr 0 0)), (.one (.val (.int .i64))), (.one (.arr 1))], [(.obj 63 [(.val (.int .i64)), (.map 2), (.map 3), (.val (.int .i64)), (.val (.int .i64)), (.val .bool)]), (.arr 5 (.int .u8)), (.map (.int .i64) ty0 false), (.map (.int .i64) ty0 false)]⟩
abbrev disk_Disk_Write_outs : List Sh := [⟨[(.one (.val .err))], [(.obj 63 [(.val (.int .i64)), (.map 2), (.map 3), (.val (.int .i64)), (.val (.int .i64)), (.val .bool)]), .dead, (.map (.int .i64) ty0 false), (.map (.int .i64) ty0 false)]⟩]
def disk_Disk_Write : Nat → disk_Disk_Write_ins.T → Option (OutsT disk_Disk_Write_outs)
  | 0, _ => none
  | n + 1, ((_, x1, _, _), ((x2, _, _, x3, x4, x5, _), l6, m7, m8, _)) =>
    match disk_Disk_up n (((), ()), ((x2, (), (), x3, x4, x5, ()), m7, m8, ())) with
    | some ((x9, _), ((x10, _, _, x11, x12, x13, _), m14, m15, _)) => (
      if !x9 then
        some ((ErrV.sent 119, ()), ((x10, (), (), x11, x12, x13, ()), (), m14, m15, ()))
      else
        if decide (x1 < 0) then
          some ((ErrV.sent 118, ()), ((x10, (), (), x11, x12, x13, ()), (), m14, m15, ()))
        else
          if decide (x1 ≥ x10) then
            some ((ErrV.sent 118, ()), ((x10, (), (), x11, x12, x13, ()), (), m14, m15, ()))
          else
            if decide ((l6.length : Int) > 128) then
              some ((ErrV.sent 103, ()), ((x10, (), (), x11, x12, x13, ()), (), m14, m15, ()))
            else
              match slices_Clone_byte_byte n ((l6, ()), ()) with
              | some ((_, _), (l16, _)) => (
                let v17 : Int := IntKind.i64.wrap (x11 + 1)
                some ((ErrV.nil, ()), ((x10, (), (), v17, x12, x13, ()), (), m14, mset (keyEq ((.int .i64) : Ty)) x1 l16 m15, ())))
              | none => none)
    | none => none
def disk_Disk_Write_H (n : Nat) : Hints := ⟨[], fun _ => [], fun _ => none, fun _ => none⟩
def disk_Disk_Write_O (n : Nat) : FuncId → List FSpec := asc [(33, ⟨disk_Disk_up_ins, disk_Disk_up_outs, disk_Disk_up n⟩), (34, ⟨slices_Clone_byte_byte_ins, slices_Clone_byte_byte_outs, slices_Clone_byte_byte n⟩)]
def b14 : Code := bodyOf Tryd.f14
theorem disk_Disk_Write_ok {S : Nat → Addr} (ok : CfgOk P CC S) : ∀ n, SpecOk P CC S 14 ⟨disk_Disk_Write_ins, disk_Disk_Write_outs, disk_Disk_Write n⟩ :=
  fn_all ok (O := disk_Disk_Write_O) (H := disk_Disk_Write_H) (fn := Tryd.f14) (body := b14) (by kernel_rfl) (by kernel_rfl) (by kernel_rfl) (by decide) (by kernel_rfl)
    (fun x => by kernel_rfl) (fun n => by
      rintro ⟨⟨⟨⟩, x1, ⟨⟩, ⟨⟩⟩, ⟨⟨x2, ⟨⟩, ⟨⟩, x3, x4, x5, ⟨⟩⟩, x6, x7, x8, ⟨⟩⟩⟩
      kernel_rfl)
    (fun n => obl_of (by kernel_rfl) (by kernel_rfl) (lz) (cn (cn (cn (cn (cn (cn (cn (cn (cn (cn (cn (cz) (by kernel_rfl)) (by kernel_rfl)) (by kernel_rfl)) (by kernel_rfl)) (by kernel_rfl)) (by kernel_rfl)) (by kernel_rfl)) (by kernel_rfl)) (by kernel_rfl)) (by kernel_rfl)) (by kernel_rfl)))
    (fun n ih => asc_cons (disk_Disk_up_ok ok n) <| asc_cons (slices_Clone_byte_byte_ok ok n) <| asc_nil)
/-! ### maps.Keys[map[int][]byte,int,[]byte] -/
abbrev maps_Keys_map_int_byte_int_byte_ins : Sh := ⟨[(.one (.map 0))], [(.map (.int .i64) ty0 false)]⟩
abbrev maps_Keys_map_int_byte_int_byte_outs : List Sh := [⟨[(.one (.fn 46 [1]))], [(.map (.int .i64) ty0 false), (.obj 61 [(.map 0)])]⟩]
def maps_Keys_map_int_byte_int_byte : Nat → maps_Keys_map_int_byte_int_byte_ins.T → Option (OutsT maps_Keys_map_int_byte_int_byte_outs)
  | 0, _ => none
  | n + 1, ((_, _), (m1, _)) =>
    some (((), ()), (m1, ((), ()), ()))
def maps_Keys_map_int_byte_int_byte_H (n : Nat) : Hints := ⟨[], fun _ => [], fun _ => none, fun _ => none⟩
def maps_Keys_map_int_byte_int_byte_O (n : Nat) : FuncId → List FSpec := asc []
def b37 : Code := bodyOf Tryd.f37
theorem maps_Keys_map_int_byte_int_byte_ok {S : Nat → Addr} (ok : CfgOk P CC S) : ∀ n, SpecOk P CC S 37 ⟨maps_Keys_map_int_byte_int_byte_ins, maps_Keys_map_int_byte_int_byte_outs, maps_Keys_map_int_byte_int_byte n⟩ :=
  fn_all ok (O := maps_Keys_map_int_byte_int_byte_O) (H := maps_Keys_map_int_byte_int_byte_H) (fn := Tryd.f37) (body := b37) (by kernel_rfl) (by kernel_rfl) (by kernel_rfl) (by decide) (by kernel_rfl)
    (fun x => by kernel_rfl) (fun n => by
      rintro ⟨⟨⟨⟩, ⟨⟩⟩, ⟨x1, ⟨⟩⟩⟩
      kernel_rfl)
    (fun n => obl_of (by kernel_rfl) (by kernel_rfl) (lz) (cn (cn (cz) (by kernel_rfl)) (by kernel_rfl)))
    (fun n ih => asc_nil)
/-! ### slices.Sorted[int] (by hand) -/
abbrev slices_Sorted_int_ins : Sh := ⟨[(.one (.fn 46 [0]))], [(.obj 61 [(.map 1)]), (.map (.int .i64) ty0 false)]⟩
abbrev slices_Sorted_int_outs : List Sh := [⟨[(.one (.arr 2))], [(.obj 61 [(.map 1)]), (.map (.int .i64) ty0 false), (.arr 3 (.int .i64))]⟩]
def slices_Sorted_int : Nat → slices_Sorted_int_ins.T → Option (OutsT slices_Sorted_int_outs) := fun _ => sortedSem 61 3 ty0 false 46
theorem slices_Sorted_int_ok {S : Nat → Addr} (ok : CfgOk P CC S) : ∀ n, SpecOk P CC S 36 ⟨slices_Sorted_int_ins, slices_Sorted_int_outs, slices_Sorted_int n⟩ := fun n => sorted_spec (ty := 3) ⟨Tryd.f36, by kernel_rfl, by kernel_rfl, by kernel_rfl⟩ (by kernel_rfl) Sq.sorted_calls
/-! ### (*pendulum/disk.Disk).Crash -/
abbrev disk_Disk_Crash_ins : Sh := ⟨[(.one (.ptr 0 0)), (.one (.arr 1))], [(.obj 63 [(.val (.int .i64)), (.map 2), (.map 3), (.val (.int .i64)), (.val (.int .i64)), (.val .bool)]), (.arr 3 (.int .i64)), (.map (.int .i64) ty0 false), (.map (.int .i64) ty0 false)]⟩
abbrev disk_Disk_Crash_outs : List Sh := [⟨[(.tup [])], [(.obj 63 [(.val (.int .i64)), (.map 2), (.map 3), (.val (.int .i64)), (.val (.int .i64)), (.val .bool)]), (.arr 3 (.int .i64)), (.map (.int .i64) ty0 false), (.map (.int .i64) ty0 false)]⟩]
abbrev disk_Disk_Crash_l1_h : Sh := ⟨[(.one (.ptr 0 0)), (.one (.arr 1)), (.one (.arr 4)), (.one (.val (.int .i64))), (.one (.val (.int .i64)))], [(.obj 63 [(.val (.int .i64)), (.map 2), (.map 3), (.val (.int .i64)), (.val (.int .i64)), (.val .bool)]), (.arr 3 (.int .i64)), (.map (.int .i64) ty0 false), (.map (.int .i64) ty0 false), (.arr 3 (.int .i64))]⟩
abbrev disk_Disk_Crash_l1_o : List Out := [⟨(.exit 0), [0], ⟨[(.one (.ptr 0 0))], [(.obj 63 [(.val (.int .i64)), (.map 2), (.map 3), (.val (.int .i64)), (.val (.int .i64)), (.val .bool)]), (.arr 3 (.int .i64)), (.map (.int .i64) ty0 false), (.map (.int .i64) ty0 false)]⟩⟩]
def disk_Disk_Crash_l1 (n : Nat) : Nat → disk_Disk_Crash_l1_h.T → Option (OutT disk_Disk_Crash_l1_o)
  | 0, _ => none
  | k + 1, ((_, _, _, x1, x2, _), ((x3, _, _, x4, x5, x6, _), l7, m8, m9, l10, _)) =>
    if decide (x2 < x1) then
      if 0 ≤ x2 ∧ x2 < (l10.length : Int) then (
        let v11 : Int := rdT ((.int .i64) : Ty) l10 x2
        if decide (x2 < (l7.length : Int)) then
          if 0 ≤ x2 ∧ x2 < (l7.length : Int) then (
            let v12 : Int := rdT ((.int .i64) : Ty) l7 x2
            if bitsOp .and .i64 v12 1 == 1 then
              let v13 : List Int := (mfind (keyEq ((.int .i64) : Ty)) v11 m9).getD []
              let v14 : Int := IntKind.i64.wrap (x2 + 1)
              disk_Disk_Crash_l1 n k (((), (), (), x1, v14, ()), ((x3, (), (), x4, x5, x6, ()), l7, mset (keyEq ((.int .i64) : Ty)) v11 v13 m8, m9, l10, ()))
            else
              let v15 : Int := IntKind.i64.wrap (x2 + 1)
              disk_Disk_Crash_l1 n k (((), (), (), x1, v15, ()), ((x3, (), (), x4, x5, x6, ()), l7, m8, m9, l10, ()))) else none
        else
          let v16 : Int := IntKind.i64.wrap (x2 + 1)
          disk_Disk_Crash_l1 n k (((), (), (), x1, v16, ()), ((x3, (), (), x4, x5, x6, ()), l7, m8, m9, l10, ()))) else none
    else
      some (.inl (((), ()), ((x3, (), (), x4, x5, x6, ()), l7, m8, m9, ())))
def disk_Disk_Crash : Nat → disk_Disk_Crash_ins.T → Option (OutsT disk_Disk_Crash_outs)
  | 0, _ => none
  | n + 1, ((_, _, _), ((x1, _, _, x2, x3, x4, _), l5, m6, m7, _)) =>
    match maps_Keys_map_int_byte_int_byte n (((), ()), (m7, ())) with
    | some ((_, _), (m8, (_, _), _)) => (
      match slices_Sorted_int n (((), ()), (((), ()), m8, ())) with
      | some ((_, _), ((_, _), m9, l10, _)) => (
        match disk_Disk_Crash_l1 n n (((), (), (), (l10.length : Int), 0, ()), ((x1, (), (), x2, x3, x4, ()), l5, m6, m9, l10, ())) with
        | some (.inl ((_, _), ((x11, _, _, x12, x13, x14, _), l15, m16, m17, _))) => (
          some (((), ()), ((x11, (), (), x12, 0, false, ()), l15, m16, [], ())))
        | some (.inr (_)) => none
        | none => none)
      | none => none)
    | none => none
def disk_Disk_Crash_H (n : Nat) : Hints := ⟨[], fun _ => [], fun k => match k with | 1 => some ⟨[0, 1, 11, 12, 13], disk_Disk_Crash_l1_h, disk_Disk_Crash_l1_o, disk_Disk_Crash_l1 n⟩ | _ => none, fun _ => none⟩
def disk_Disk_Crash_O (n : Nat) : FuncId → List FSpec := asc [(36, ⟨slices_Sorted_int_ins, slices_Sorted_int_outs, slices_Sorted_int n⟩), (37, ⟨maps_Keys_map_int_byte_int_byte_ins, maps_Keys_map_int_byte_int_byte_outs, maps_Keys_map_int_byte_int_byte n⟩)]
def b19 : Code := bodyOf Tryd.f19
theorem disk_Disk_Crash_l1_k0 (n : Nat) : LoopOk P CC (disk_Disk_Crash_O n) n 4 52 (disk_Disk_Crash_H n) ⟨[0, 1, 11, 12, 13], disk_Disk_Crash_l1_h, disk_Disk_Crash_l1_o, disk_Disk_Crash_l1 n⟩ ((loopsOf b19).getD 0 .skip) := by
  refine ⟨fun _ => by kernel_rfl, ?_⟩
  rintro k ⟨⟨⟨⟩, ⟨⟩, ⟨⟩, x1, x2, ⟨⟩⟩, ⟨⟨x3, ⟨⟩, ⟨⟩, x4, x5, x6, ⟨⟩⟩, x7, x8, x9, x10, ⟨⟩⟩⟩
  kernel_rfl
theorem disk_Disk_Crash_ok {S : Nat → Addr} (ok : CfgOk P CC S) : ∀ n, SpecOk P CC S 19 ⟨disk_Disk_Crash_ins, disk_Disk_Crash_outs, disk_Disk_Crash n⟩ :=
  fn_all ok (O := disk_Disk_Crash_O) (H := disk_Disk_Crash_H) (fn := Tryd.f19) (body := b19) (by kernel_rfl) (by kernel_rfl) (by kernel_rfl) (by decide) (by kernel_rfl)
    (fun x => by kernel_rfl) (fun n => by
      rintro ⟨⟨⟨⟩, ⟨⟩, ⟨⟩⟩, ⟨⟨x1, ⟨⟩, ⟨⟩, x2, x3, x4, ⟨⟩⟩, x5, x6, x7, ⟨⟩⟩⟩
      kernel_rfl)
    (fun n => obl_of (by kernel_rfl) (by kernel_rfl) (ls (lz) (by kernel_rfl) (disk_Disk_Crash_l1_k0 n)) (cn (cn (cn (cn (cn (cn (cn (cn (cz) (by kernel_rfl)) (by kernel_rfl)) (by kernel_rfl)) (by kernel_rfl)) (by kernel_rfl)) (by kernel_rfl)) (by kernel_rfl)) (by kernel_rfl)))
    (fun n ih => asc_cons (slices_Sorted_int_ok ok n) <| asc_cons (maps_Keys_map_int_byte_int_byte_ok ok n) <| asc_nil)
/-! ### (*pendulum/disk.Disk).Read -/
abbrev disk_Disk_Read_ins : Sh := ⟨[(.one (.ptr 0 0)), (.one (.val (.int .i64)))], [(.obj 63 [(.val (.int .i64)), (.map 1), (.map 2), (.val (.int .i64)), (.val (.int .i64)), (.val .bool)]), (.map (.int .i64) ty0 false), (.map (.int .i64) ty0 false)]⟩
abbrev disk_Disk_Read_outs : List Sh := [⟨[(.tup [(false, [(.arr 3)]), (false, [(.val .bool)]), (false, [(.val .err)])])], [(.obj 63 [(.val (.int .i64)), (.map 1), (.map 2), (.val (.int .i64)), (.val (.int .i64)), (.val .bool)]), (.map (.int .i64) ty0 false), (.map (.int .i64) ty0 false), (.arr 5 (.int .u8))]⟩]
abbrev disk_Disk_Read_c8_h : Sh := ⟨[(.one (.ptr 0 0)), (.one (.val (.int .i64))), (.one (.val ty0)), (.one (.val .bool))], [(.obj 63 [(.val (.int .i64)), (.map 1), (.map 2), (.val (.int .i64)), (.val (.int .i64)), (.val .bool)]), (.map (.int .i64) ty0 false), (.map (.int .i64) ty0 false)]⟩
abbrev disk_Disk_Read_c8_o : List Out := [⟨.normal, [7, 8], ⟨[(.one (.val ty0)), (.one (.val .bool))], [(.obj 63 [(.val (.int .i64)), (.map 1), (.map 2), (.val (.int .i64)), (.val (.int .i64)), (.val .bool)]), (.map (.int .i64) ty0 false), (.map (.int .i64) ty0 false)]⟩⟩]
def disk_Disk_Read_c8 (n : Nat) : disk_Disk_Read_c8_h.T → Option (OutT disk_Disk_Read_c8_o)
  | ((_, x1, x2, x3, _), ((x4, _, _, x5, x6, x7, _), m8, m9, _)) =>
    if !x3 then
      let v10 : List Int := (mfind (keyEq ((.int .i64) : Ty)) x1 m8).getD []
      some (.inl ((v10, (mfind (keyEq ((.int .i64) : Ty)) x1 m8).isSome, ()), ((x4, (), (), x5, x6, x7, ()), m8, m9, ())))
    else
      some (.inl ((x2, x3, ()), ((x4, (), (), x5, x6, x7, ()), m8, m9, ())))
def disk_Disk_Read : Nat → disk_Disk_Read_ins.T → Option (OutsT disk_Disk_Read_outs)
  | 0, _ => none
  | n + 1, ((_, x1, _), ((x2, _, _, x3, x4, x5, _), m6, m7, _)) =>
    if x5 then
      some (((((), ()), (false, ()), (ErrV.sent 119, ()), ()), ()), ((x2, (), (), x3, x4, x5, ()), m6, m7, [], ()))
    else
      if decide (x1 < 0) then
        some (((((), ()), (false, ()), (ErrV.sent 118, ()), ()), ()), ((x2, (), (), x3, x4, x5, ()), m6, m7, [], ()))
      else
        if decide (x1 ≥ x2) then
          some (((((), ()), (false, ()), (ErrV.sent 118, ()), ()), ()), ((x2, (), (), x3, x4, x5, ()), m6, m7, [], ()))
        else
          let v8 : List Int := (mfind (keyEq ((.int .i64) : Ty)) x1 m7).getD []
          match disk_Disk_Read_c8 n (((), x1, v8, (mfind (keyEq ((.int .i64) : Ty)) x1 m7).isSome, ()), ((x2, (), (), x3, x4, x5, ()), m6, m7, ())) with
          | some (.inl ((x9, x10, _), ((x11, _, _, x12, x13, x14, _), m15, m16, _))) => (
            match slices_Clone_byte_byte n ((x9, ()), ()) with
            | some ((_, _), (l17, _)) => (
              some (((((), ()), (x10, ()), (ErrV.nil, ()), ()), ()), ((x11, (), (), x12, x13, x14, ()), m15, m16, l17, ())))
            | none => none)
          | some (.inr (_)) => none
          | none => none
def disk_Disk_Read_H (n : Nat) : Hints := ⟨[], fun _ => [], fun _ => none, fun k => match k with | 8 => some ⟨[0, 1, 7, 8], disk_Disk_Read_c8_h, disk_Disk_Read_c8_o, fun n => disk_Disk_Read_c8 n⟩ | _ => none⟩
def disk_Disk_Read_O (n : Nat) : FuncId → List FSpec := asc [(34, ⟨slices_Clone_byte_byte_ins, slices_Clone_byte_byte_outs, slices_Clone_byte_byte n⟩)]
def b15 : Code := bodyOf Tryd.f15
theorem disk_Disk_Read_c8_k8 (n : Nat) : CutOk P CC (disk_Disk_Read_O n) n 3 48 (disk_Disk_Read_H n) ⟨[0, 1, 7, 8], disk_Disk_Read_c8_h, disk_Disk_Read_c8_o, fun n => disk_Disk_Read_c8 n⟩ ((cutsOf b15).getD 8 (0, .skip)).2 := by
  rintro ⟨⟨⟨⟩, x1, x2, x3, ⟨⟩⟩, ⟨⟨x4, ⟨⟩, ⟨⟩, x5, x6, x7, ⟨⟩⟩, x8, x9, ⟨⟩⟩⟩
  kernel_rfl
theorem disk_Disk_Read_ok {S : Nat → Addr} (ok : CfgOk P CC S) : ∀ n, SpecOk P CC S 15 ⟨disk_Disk_Read_ins, disk_Disk_Read_outs, disk_Disk_Read n⟩ :=
  fn_all ok (O := disk_Disk_Read_O) (H := disk_Disk_Read_H) (fn := Tryd.f15) (body := b15) (by kernel_rfl) (by kernel_rfl) (by kernel_rfl) (by decide) (by kernel_rfl)
    (fun x => by kernel_rfl) (fun n => by
      rintro ⟨⟨⟨⟩, x1, ⟨⟩⟩, ⟨⟨x2, ⟨⟩, ⟨⟩, x3, x4, x5, ⟨⟩⟩, x6, x7, ⟨⟩⟩⟩
      kernel_rfl)
    (fun n => obl_of (by kernel_rfl) (by kernel_rfl) (lz) (cn (cn (cs (cn (cn (cn (cn (cn (cn (cn (cn (cz) (by kernel_rfl)) (by kernel_rfl)) (by kernel_rfl)) (by kernel_rfl)) (by kernel_rfl)) (by kernel_rfl)) (by kernel_rfl)) (by kernel_rfl)) (by kernel_rfl) (disk_Disk_Read_c8_k8 n)) (by kernel_rfl)) (by kernel_rfl)))
    (fun n ih => asc_cons (slices_Clone_byte_byte_ok ok n) <| asc_nil)
/-! ### pendulum/pendulumlaw3.first -/
abbrev law3_first_ins : Sh := ⟨[], []⟩
abbrev law3_first_outs : List Sh := [⟨[(.one (.val .bool))], []⟩]
def law3_first : Nat → law3_first_ins.T → Option (OutsT law3_first_outs)
  | 0, _ => none
  | n + 1, (_, _) =>
    match disk_New n ((4, ()), ()) with
    | some (.inl ((((_, _), (x1, _), _), _), ((x2, _, _, x3, x4, x5, _), m6, m7, _))) => (
      if !(errNil x1) then
        some ((false, ()), ())
      else
        match disk_Disk_Write n (((), 0, (), ()), ((x2, (), (), x3, x4, x5, ()), [1], m6, m7, ())) with
        | some ((x9, _), ((x10, _, _, x11, x12, x13, _), _, m14, m15, _)) => (
          if !(errNil x9) then
            some ((false, ()), ())
          else
            match disk_Disk_Crash n (((), (), ()), ((x10, (), (), x11, x12, x13, ()), [], m14, m15, ())) with
            | some ((_, _), ((x16, _, _, x17, x18, x19, _), l20, m21, m22, _)) => (
              match disk_Disk_Read n (((), 0, ()), ((x16, (), (), x17, x18, x19, ()), m21, m22, ())) with
              | some ((((_, _), (x23, _), (x24, _), _), _), ((x25, _, _, x26, x27, x28, _), m29, m30, l31, _)) => (
                some ((!x23, ()), ()))
              | none => none)
            | none => none)
        | none => none)
    | some (.inr (((((_, _), (x8, _), _), _), _))) => (
      some ((false, ()), ()))
    | none => none
def law3_first_H (n : Nat) : Hints := ⟨[], fun _ => [], fun _ => none, fun _ => none⟩
def law3_first_O (n : Nat) : FuncId → List FSpec := asc [(11, ⟨disk_New_ins, disk_New_outs, disk_New n⟩), (14, ⟨disk_Disk_Write_ins, disk_Disk_Write_outs, disk_Disk_Write n⟩), (15, ⟨disk_Disk_Read_ins, disk_Disk_Read_outs, disk_Disk_Read n⟩), (19, ⟨disk_Disk_Crash_ins, disk_Disk_Crash_outs, disk_Disk_Crash n⟩)]
def b9 : Code := bodyOf Tryd.f9
theorem law3_first_ok {S : Nat → Addr} (ok : CfgOk P CC S) : ∀ n, SpecOk P CC S 9 ⟨law3_first_ins, law3_first_outs, law3_first n⟩ :=
  fn_all ok (O := law3_first_O) (H := law3_first_H) (fn := Tryd.f9) (body := b9) (by kernel_rfl) (by kernel_rfl) (by kernel_rfl) (by decide) (by kernel_rfl)
    (fun x => by kernel_rfl) (fun n => by
      rintro ⟨⟨⟩, ⟨⟩⟩
      kernel_rfl)
    (fun n => obl_of (by kernel_rfl) (by kernel_rfl) (lz) (cn (cn (cn (cn (cn (cn (cn (cn (cz) (by kernel_rfl)) (by kernel_rfl)) (by kernel_rfl)) (by kernel_rfl)) (by kernel_rfl)) (by kernel_rfl)) (by kernel_rfl)) (by kernel_rfl)))
    (fun n ih => asc_cons (disk_New_ok ok n) <| asc_cons (disk_Disk_Write_ok ok n) <| asc_cons (disk_Disk_Read_ok ok n) <| asc_cons (disk_Disk_Crash_ok ok n) <| asc_nil)
/-! ### (*pendulum/disk.Disk).Write -/
abbrev disk_Disk_Write_2_ins : Sh := ⟨[(.one (.ptr 0 0)), (.one (.val (.int .i64))), (.one (.val ty0))], [(.obj 63 [(.val (.int .i64)), (.map 1), (.map 2), (.val (.int .i64)), (.val (.int .i64)), (.val .bool)]), (.map (.int .i64) ty0 false), (.map (.int .i64) ty0 false)]⟩
abbrev disk_Disk_Write_2_outs : List Sh := [⟨[(.one (.val .err))], [(.obj 63 [(.val (.int .i64)), (.map 1), (.map 2), (.val (.int .i64)), (.val (.int .i64)), (.val .bool)]), (.map (.int .i64) ty0 false), (.map (.int .i64) ty0 false)]⟩]
def disk_Disk_Write_2 : Nat → disk_Disk_Write_2_ins.T → Option (OutsT disk_Disk_Write_2_outs)
  | 0, _ => none
  | n + 1, ((_, x1, x2, _), ((x3, _, _, x4, x5, x6, _), m7, m8, _)) =>
    match disk_Disk_up n (((), ()), ((x3, (), (), x4, x5, x6, ()), m7, m8, ())) with
    | some ((x9, _), ((x10, _, _, x11, x12, x13, _), m14, m15, _)) => (
      if !x9 then
        some ((ErrV.sent 119, ()), ((x10, (), (), x11, x12, x13, ()), m14, m15, ()))
      else
        if decide (x1 < 0) then
          some ((ErrV.sent 118, ()), ((x10, (), (), x11, x12, x13, ()), m14, m15, ()))
        else
          if decide (x1 ≥ x10) then
            some ((ErrV.sent 118, ()), ((x10, (), (), x11, x12, x13, ()), m14, m15, ()))
          else
            if decide ((x2.length : Int) > 128) then
              some ((ErrV.sent 103, ()), ((x10, (), (), x11, x12, x13, ()), m14, m15, ()))
            else
              match slices_Clone_byte_byte n ((x2, ()), ()) with
              | some ((_, _), (l16, _)) => (
                let v17 : Int := IntKind.i64.wrap (x11 + 1)
                some ((ErrV.nil, ()), ((x10, (), (), v17, x12, x13, ()), m14, mset (keyEq ((.int .i64) : Ty)) x1 l16 m15, ())))
              | none => none)
    | none => none
def disk_Disk_Write_2_H (n : Nat) : Hints := ⟨[], fun _ => [], fun _ => none, fun _ => none⟩
def disk_Disk_Write_2_O (n : Nat) : FuncId → List FSpec := asc [(33, ⟨disk_Disk_up_ins, disk_Disk_up_outs, disk_Disk_up n⟩), (34, ⟨slices_Clone_byte_byte_ins, slices_Clone_byte_byte_outs, slices_Clone_byte_byte n⟩)]
theorem disk_Disk_Write_2_ok {S : Nat → Addr} (ok : CfgOk P CC S) : ∀ n, SpecOk P CC S 14 ⟨disk_Disk_Write_2_ins, disk_Disk_Write_2_outs, disk_Disk_Write_2 n⟩ :=
  fn_all ok (O := disk_Disk_Write_2_O) (H := disk_Disk_Write_2_H) (fn := Tryd.f14) (body := b14) (by kernel_rfl) (by kernel_rfl) (by kernel_rfl) (by decide) (by kernel_rfl)
    (fun x => by kernel_rfl) (fun n => by
      rintro ⟨⟨⟨⟩, x1, x2, ⟨⟩⟩, ⟨⟨x3, ⟨⟩, ⟨⟩, x4, x5, x6, ⟨⟩⟩, x7, x8, ⟨⟩⟩⟩
      kernel_rfl)
    (fun n => obl_of (by kernel_rfl) (by kernel_rfl) (lz) (cn (cn (cn (cn (cn (cn (cn (cn (cn (cn (cn (cz) (by kernel_rfl)) (by kernel_rfl)) (by kernel_rfl)) (by kernel_rfl)) (by kernel_rfl)) (by kernel_rfl)) (by kernel_rfl)) (by kernel_rfl)) (by kernel_rfl)) (by kernel_rfl)) (by kernel_rfl)))
    (fun n ih => asc_cons (disk_Disk_up_ok ok n) <| asc_cons (slices_Clone_byte_byte_ok ok n) <| asc_nil)
/-! ### maps.Copy[map[int][]byte,map[int][]byte,int,[]byte] (by hand) -/
abbrev maps_Copy_ins : Sh := ⟨[(.one (.map 0)), (.one (.map 1))], [(.map (.int .i64) ty0 false), (.map (.int .i64) ty0 false)]⟩
abbrev maps_Copy_outs : List Sh := [⟨[(.tup [])], [(.map (.int .i64) ty0 false), (.map (.int .i64) ty0 false)]⟩]
def maps_Copy : Nat → maps_Copy_ins.T → Option (OutsT maps_Copy_outs) := fun _ => copySem ty0 false
theorem maps_Copy_ok {S : Nat → Addr} (ok : CfgOk P CC S) : ∀ n, SpecOk P CC S 35 ⟨maps_Copy_ins, maps_Copy_outs, maps_Copy n⟩ := fun n => copy_spec (ty := 3) (vT := 32) ⟨Tryd.f35, by kernel_rfl, by kernel_rfl, by kernel_rfl⟩ (by kernel_rfl) Sq.copy_calls
/-! ### (*pendulum/disk.Disk).Flush -/
abbrev disk_Disk_Flush_ins : Sh := ⟨[(.one (.ptr 0 0))], [(.obj 63 [(.val (.int .i64)), (.map 1), (.map 2), (.val (.int .i64)), (.val (.int .i64)), (.val .bool)]), (.map (.int .i64) ty0 false), (.map (.int .i64) ty0 false)]⟩
abbrev disk_Disk_Flush_outs : List Sh := [⟨[(.one (.val .err))], [(.obj 63 [(.val (.int .i64)), (.map 1), (.map 2), (.val (.int .i64)), (.val (.int .i64)), (.val .bool)]), (.map (.int .i64) ty0 false), (.map (.int .i64) ty0 false)]⟩]
def disk_Disk_Flush : Nat → disk_Disk_Flush_ins.T → Option (OutsT disk_Disk_Flush_outs)
  | 0, _ => none
  | n + 1, ((_, _), ((x1, _, _, x2, x3, x4, _), m5, m6, _)) =>
    match disk_Disk_up n (((), ()), ((x1, (), (), x2, x3, x4, ()), m5, m6, ())) with
    | some ((x7, _), ((x8, _, _, x9, x10, x11, _), m12, m13, _)) => (
      if !x7 then
        some ((ErrV.sent 119, ()), ((x8, (), (), x9, x10, x11, ()), m12, m13, ()))
      else
        match maps_Copy n (((), (), ()), (m12, m13, ())) with
        | some ((_, _), (m14, m15, _)) => (
          let v16 : Int := IntKind.i64.wrap (x9 + 1)
          some ((ErrV.nil, ()), ((x8, (), (), v16, x10, x11, ()), m14, [], ())))
        | none => none)
    | none => none
def disk_Disk_Flush_H (n : Nat) : Hints := ⟨[], fun _ => [], fun _ => none, fun _ => none⟩
def disk_Disk_Flush_O (n : Nat) : FuncId → List FSpec := asc [(33, ⟨disk_Disk_up_ins, disk_Disk_up_outs, disk_Disk_up n⟩), (35, ⟨maps_Copy_ins, maps_Copy_outs, maps_Copy n⟩)]
def b18 : Code := bodyOf Tryd.f18
theorem disk_Disk_Flush_ok {S : Nat → Addr} (ok : CfgOk P CC S) : ∀ n, SpecOk P CC S 18 ⟨disk_Disk_Flush_ins, disk_Disk_Flush_outs, disk_Disk_Flush n⟩ :=
  fn_all ok (O := disk_Disk_Flush_O) (H := disk_Disk_Flush_H) (fn := Tryd.f18) (body := b18) (by kernel_rfl) (by kernel_rfl) (by kernel_rfl) (by decide) (by kernel_rfl)
    (fun x => by kernel_rfl) (fun n => by
      rintro ⟨⟨⟨⟩, ⟨⟩⟩, ⟨⟨x1, ⟨⟩, ⟨⟩, x2, x3, x4, ⟨⟩⟩, x5, x6, ⟨⟩⟩⟩
      kernel_rfl)
    (fun n => obl_of (by kernel_rfl) (by kernel_rfl) (lz) (cn (cn (cn (cn (cn (cn (cn (cn (cz) (by kernel_rfl)) (by kernel_rfl)) (by kernel_rfl)) (by kernel_rfl)) (by kernel_rfl)) (by kernel_rfl)) (by kernel_rfl)) (by kernel_rfl)))
    (fun n ih => asc_cons (disk_Disk_up_ok ok n) <| asc_cons (maps_Copy_ok ok n) <| asc_nil)
/-! ### pendulum/pendulumref.Bytes -/
abbrev ref_Bytes_ins : Sh := ⟨[(.one (.val ty0))], []⟩
abbrev ref_Bytes_outs : List Sh := [⟨[(.one (.arr 0))], [(.arr 5 (.int .u8))]⟩]
abbrev ref_Bytes_l3_h : Sh := ⟨[(.one (.val ty0)), (.one (.arr 0)), (.one (.val (.int .i64)))], [(.arr 5 (.int .u8))]⟩
abbrev ref_Bytes_l3_o : List Out := [⟨(.exit 0), [3], ⟨[(.one (.arr 0))], [(.arr 5 (.int .u8))]⟩⟩]
def ref_Bytes_l3 (n : Nat) : Nat → ref_Bytes_l3_h.T → Option (OutT ref_Bytes_l3_o)
  | 0, _ => none
  | k + 1, ((x1, _, x2, _), (l3, _)) =>
    if decide (x2 < (x1.length : Int)) then
      if 0 ≤ x2 ∧ x2 < (x1.length : Int) then (
        let v4 : Int := rdT ((.int .u8) : Ty) x1 x2
        if (l3.length + ([v4] : List ((.int .u8) : Ty).T).length) * 1 ≤ 140737488355328 then (
          let v5 : Int := IntKind.i64.wrap (x2 + 1)
          ref_Bytes_l3 n k ((x1, (), v5, ()), (l3 ++ [v4], ()))) else none) else none
    else
      some (.inl (((), ()), (l3, ())))
def ref_Bytes : Nat → ref_Bytes_ins.T → Option (OutsT ref_Bytes_outs)
  | 0, _ => none
  | n + 1, ((x1, _), _) =>
    if 0 ≤ (0 : Int) ∧ (0 : Int) ≤ (x1.length : Int) ∧ (x1.length : Int) * ((1 : Nat) : Int) ≤ 140737488355328 ∧ (x1.length : Int) ≤ 140737488355328 then (
      match ref_Bytes_l3 n n ((x1, (), 0, ()), (List.replicate (0 : Int).toNat 0, ())) with
      | some (.inl ((_, _), (l2, _))) => (
        some (((), ()), (l2, ())))
      | some (.inr (_)) => none
      | none => none) else none
def ref_Bytes_H (n : Nat) : Hints := ⟨[], fun _ => [], fun k => match k with | 3 => some ⟨[0, 3, 4], ref_Bytes_l3_h, ref_Bytes_l3_o, ref_Bytes_l3 n⟩ | _ => none, fun _ => none⟩
def ref_Bytes_O (n : Nat) : FuncId → List FSpec := asc []
def b23 : Code := bodyOf Tryd.f23
theorem ref_Bytes_l3_k0 (n : Nat) : LoopOk P CC (ref_Bytes_O n) n 0 22 (ref_Bytes_H n) ⟨[0, 3, 4], ref_Bytes_l3_h, ref_Bytes_l3_o, ref_Bytes_l3 n⟩ ((loopsOf b23).getD 0 .skip) := by
  refine ⟨fun _ => by kernel_rfl, ?_⟩
  rintro k ⟨⟨x1, ⟨⟩, x2, ⟨⟩⟩, ⟨x3, ⟨⟩⟩⟩
  kernel_rfl
theorem ref_Bytes_ok {S : Nat → Addr} (ok : CfgOk P CC S) : ∀ n, SpecOk P CC S 23 ⟨ref_Bytes_ins, ref_Bytes_outs, ref_Bytes n⟩ :=
  fn_all ok (O := ref_Bytes_O) (H := ref_Bytes_H) (fn := Tryd.f23) (body := b23) (by kernel_rfl) (by kernel_rfl) (by kernel_rfl) (by decide) (by kernel_rfl)
    (fun x => by kernel_rfl) (fun n => by
      rintro ⟨⟨x1, ⟨⟩⟩, ⟨⟩⟩
      kernel_rfl)
    (fun n => obl_of (by kernel_rfl) (by kernel_rfl) (ls (lz) (by kernel_rfl) (ref_Bytes_l3_k0 n)) (cn (cn (cn (cn (cn (cn (cn (cn (cz) (by kernel_rfl)) (by kernel_rfl)) (by kernel_rfl)) (by kernel_rfl)) (by kernel_rfl)) (by kernel_rfl)) (by kernel_rfl)) (by kernel_rfl)))
    (fun n ih => asc_nil)
/-! ### maps.Clone[map[int][]byte,int,[]byte] (by hand) -/
abbrev maps_Clone_ins : Sh := ⟨[(.one (.map 0))], [(.map (.int .i64) ty0 false)]⟩
abbrev maps_Clone_outs : List Sh := [⟨[(.one (.map 1))], [(.map (.int .i64) ty0 false), (.map (.int .i64) ty0 false)]⟩]
def maps_Clone : Nat → maps_Clone_ins.T → Option (OutsT maps_Clone_outs) := fun _ => cloneSem ty0 false
theorem maps_Clone_ok {S : Nat → Addr} (ok : CfgOk P CC S) : ∀ n, SpecOk P CC S 38 ⟨maps_Clone_ins, maps_Clone_outs, maps_Clone n⟩ := fun n => mclone_spec ⟨Tryd.f38, by kernel_rfl, by kernel_rfl, by kernel_rfl⟩ Sq.clone_calls
/-! ### (*pendulum/disk.Disk).Clone -/
abbrev disk_Disk_Clone_ins : Sh := ⟨[(.one (.ptr 0 0))], [(.obj 63 [(.val (.int .i64)), (.map 1), (.map 2), (.val (.int .i64)), (.val (.int .i64)), (.val .bool)]), (.map (.int .i64) ty0 false), (.map (.int .i64) ty0 false)]⟩
abbrev disk_Disk_Clone_outs : List Sh := [⟨[(.one (.ptr 3 0))], [(.obj 63 [(.val (.int .i64)), (.map 1), (.map 2), (.val (.int .i64)), (.val (.int .i64)), (.val .bool)]), (.map (.int .i64) ty0 false), (.map (.int .i64) ty0 false), (.obj 63 [(.val (.int .i64)), (.map 4), (.map 5), (.val (.int .i64)), (.val (.int .i64)), (.val .bool)]), (.map (.int .i64) ty0 false), (.map (.int .i64) ty0 false)]⟩]
def disk_Disk_Clone : Nat → disk_Disk_Clone_ins.T → Option (OutsT disk_Disk_Clone_outs)
  | 0, _ => none
  | n + 1, ((_, _), ((x1, _, _, x2, x3, x4, _), m5, m6, _)) =>
    match maps_Clone n (((), ()), (m5, ())) with
    | some ((_, _), (m7, m8, _)) => (
      match maps_Clone n (((), ()), (m6, ())) with
      | some ((_, _), (m9, m10, _)) => (
        some (((), ()), ((x1, (), (), x2, x3, x4, ()), m7, m9, (x1, (), (), x2, x3, x4, ()), m8, m10, ())))
      | none => none)
    | none => none
def disk_Disk_Clone_H (n : Nat) : Hints := ⟨[], fun _ => [], fun _ => none, fun _ => none⟩
def disk_Disk_Clone_O (n : Nat) : FuncId → List FSpec := asc [(38, ⟨maps_Clone_ins, maps_Clone_outs, maps_Clone n⟩)]
def b24 : Code := bodyOf Tryd.f24
theorem disk_Disk_Clone_ok {S : Nat → Addr} (ok : CfgOk P CC S) : ∀ n, SpecOk P CC S 24 ⟨disk_Disk_Clone_ins, disk_Disk_Clone_outs, disk_Disk_Clone n⟩ :=
  fn_all ok (O := disk_Disk_Clone_O) (H := disk_Disk_Clone_H) (fn := Tryd.f24) (body := b24) (by kernel_rfl) (by kernel_rfl) (by kernel_rfl) (by decide) (by kernel_rfl)
    (fun x => by kernel_rfl) (fun n => by
      rintro ⟨⟨⟨⟩, ⟨⟩⟩, ⟨⟨x1, ⟨⟩, ⟨⟩, x2, x3, x4, ⟨⟩⟩, x5, x6, ⟨⟩⟩⟩
      kernel_rfl)
    (fun n => obl_of (by kernel_rfl) (by kernel_rfl) (lz) (cn (cn (cn (cn (cz) (by kernel_rfl)) (by kernel_rfl)) (by kernel_rfl)) (by kernel_rfl)))
    (fun n ih => asc_cons (maps_Clone_ok ok n) <| asc_nil)
/-! ### pendulum/pendulumref.SameBytes -/
abbrev ref_SameBytes_ins : Sh := ⟨[(.one (.arr 0)), (.one (.arr 1))], [(.arr 5 (.int .u8)), (.arr 5 (.int .u8))]⟩
abbrev ref_SameBytes_outs : List Sh := [⟨[(.one (.val .bool))], [(.arr 5 (.int .u8)), (.arr 5 (.int .u8))]⟩]
abbrev ref_SameBytes_l4_h : Sh := ⟨[(.one (.arr 0)), (.one (.arr 1)), (.one (.val (.int .i64)))], [(.arr 5 (.int .u8)), (.arr 5 (.int .u8))]⟩
abbrev ref_SameBytes_l4_o : List Out := [⟨(.exit 0), [], ⟨[], [(.arr 5 (.int .u8)), (.arr 5 (.int .u8))]⟩⟩, ⟨.ret, [4], ⟨[(.one (.val .bool))], [(.arr 5 (.int .u8)), (.arr 5 (.int .u8))]⟩⟩]
def ref_SameBytes_l4 (n : Nat) : Nat → ref_SameBytes_l4_h.T → Option (OutT ref_SameBytes_l4_o)
  | 0, _ => none
  | k + 1, ((_, _, x1, _), (l2, l3, _)) =>
    if decide (x1 < (l2.length : Int)) then
      if 0 ≤ x1 ∧ x1 < (l2.length : Int) then (
        let v4 : Int := rdT ((.int .u8) : Ty) l2 x1
        if 0 ≤ x1 ∧ x1 < (l3.length : Int) then (
          let v5 : Int := rdT ((.int .u8) : Ty) l3 x1
          if !(v4 == v5) then
            some (.inr (.inl ((false, ()), (l2, l3, ()))))
          else
            let v6 : Int := IntKind.i64.wrap (x1 + 1)
            ref_SameBytes_l4 n k (((), (), v6, ()), (l2, l3, ()))) else none) else none
    else
      some (.inl ((), (l2, l3, ())))
def ref_SameBytes : Nat → ref_SameBytes_ins.T → Option (OutsT ref_SameBytes_outs)
  | 0, _ => none
  | n + 1, ((_, _, _), (l1, l2, _)) =>
    if (l1.length : Int) != (l2.length : Int) then
      some ((false, ()), (l1, l2, ()))
    else
      match ref_SameBytes_l4 n n (((), (), 0, ()), (l1, l2, ())) with
      | some (.inl (_, (l3, l4, _))) => (
        some ((true, ()), (l3, l4, ())))
      | some (.inr (.inl ((x5, _), (l6, l7, _)))) => (
        some ((x5, ()), (l6, l7, ())))
      | some (.inr (.inr (_))) => none
      | none => none
def ref_SameBytes_H (n : Nat) : Hints := ⟨[], fun _ => [], fun k => match k with | 4 => some ⟨[0, 1, 5], ref_SameBytes_l4_h, ref_SameBytes_l4_o, ref_SameBytes_l4 n⟩ | _ => none, fun _ => none⟩
def ref_SameBytes_O (n : Nat) : FuncId → List FSpec := asc []
def b20 : Code := bodyOf Tryd.f20
theorem ref_SameBytes_l4_k0 (n : Nat) : LoopOk P CC (ref_SameBytes_O n) n 2 29 (ref_SameBytes_H n) ⟨[0, 1, 5], ref_SameBytes_l4_h, ref_SameBytes_l4_o, ref_SameBytes_l4 n⟩ ((loopsOf b20).getD 0 .skip) := by
  refine ⟨fun _ => by kernel_rfl, ?_⟩
  rintro k ⟨⟨⟨⟩, ⟨⟩, x1, ⟨⟩⟩, ⟨x2, x3, ⟨⟩⟩⟩
  kernel_rfl
theorem ref_SameBytes_ok {S : Nat → Addr} (ok : CfgOk P CC S) : ∀ n, SpecOk P CC S 20 ⟨ref_SameBytes_ins, ref_SameBytes_outs, ref_SameBytes n⟩ :=
  fn_all ok (O := ref_SameBytes_O) (H := ref_SameBytes_H) (fn := Tryd.f20) (body := b20) (by kernel_rfl) (by kernel_rfl) (by kernel_rfl) (by decide) (by kernel_rfl)
    (fun x => by kernel_rfl) (fun n => by
      rintro ⟨⟨⟨⟩, ⟨⟩, ⟨⟩⟩, ⟨x1, x2, ⟨⟩⟩⟩
      kernel_rfl)
    (fun n => obl_of (by kernel_rfl) (by kernel_rfl) (ls (lz) (by kernel_rfl) (ref_SameBytes_l4_k0 n)) (cn (cn (cn (cn (cn (cn (cn (cn (cn (cn (cn (cn (cn (cz) (by kernel_rfl)) (by kernel_rfl)) (by kernel_rfl)) (by kernel_rfl)) (by kernel_rfl)) (by kernel_rfl)) (by kernel_rfl)) (by kernel_rfl)) (by kernel_rfl)) (by kernel_rfl)) (by kernel_rfl)) (by kernel_rfl)) (by kernel_rfl)))
    (fun n ih => asc_nil)
/-! ### pendulum/pendulumlaw3.DiskTwins -/
abbrev law3_DiskTwins_ins : Sh := ⟨[(.one (.val ty0)), (.one (.val ty0)), (.one (.val .bool))], []⟩
abbrev law3_DiskTwins_outs : List Sh := [⟨[(.one (.val .bool))], []⟩]
abbrev law3_DiskTwins_c9_h : Sh := ⟨[(.one (.val ty0)), (.one (.val ty0)), (.one (.val .bool)), (.one (.ptr 0 0)), (.one (.val .err))], [(.obj 63 [(.val (.int .i64)), (.map 1), (.map 2), (.val (.int .i64)), (.val (.int .i64)), (.val .bool)]), (.map (.int .i64) ty0 false), (.map (.int .i64) ty0 false)]⟩
abbrev law3_DiskTwins_c9_o : List Out := [⟨.normal, [0, 1, 2, 8], ⟨[(.one (.val ty0)), (.one (.val ty0)), (.one (.val .bool)), (.one (.ptr 0 0))], [(.obj 63 [(.val (.int .i64)), (.map 1), (.map 2), (.val (.int .i64)), (.val (.int .i64)), (.val .bool)]), (.map (.int .i64) ty0 false), (.map (.int .i64) ty0 false)]⟩⟩, ⟨.ret, [6], ⟨[(.one (.val .bool))], []⟩⟩]
def law3_DiskTwins_c9 (n : Nat) : law3_DiskTwins_c9_h.T → Option (OutT law3_DiskTwins_c9_o)
  | ((x1, x2, x3, _, x4, _), ((x5, _, _, x6, x7, x8, _), m9, m10, _)) =>
    if !(errNil x4) then
      some (.inr (.inl ((false, ()), ())))
    else
      match disk_Disk_Write_2 n (((), 3, x1, ()), ((x5, (), (), x6, x7, x8, ()), m9, m10, ())) with
      | some ((x11, _), ((x12, _, _, x13, x14, x15, _), m16, m17, _)) => (
        if !(errNil x11) then
          some (.inr (.inl ((false, ()), ())))
        else
          if x3 then
            match disk_Disk_Flush n (((), ()), ((x12, (), (), x13, x14, x15, ()), m16, m17, ())) with
            | some ((x18, _), ((x19, _, _, x20, x21, x22, _), m23, m24, _)) => (
              if !(errNil x18) then
                some (.inr (.inl ((false, ()), ())))
              else
                some (.inl ((x1, x2, x3, (), ()), ((x19, (), (), x20, x21, x22, ()), m23, m24, ()))))
            | none => none
          else
            some (.inl ((x1, x2, x3, (), ()), ((x12, (), (), x13, x14, x15, ()), m16, m17, ()))))
      | none => none
abbrev law3_DiskTwins_l17_h : Sh := ⟨[(.one (.val .bool)), (.one (.arr 0)), (.one (.ptr 1 0)), (.one (.arr 2)), (.one (.val (.int .i64)))], [(.arr 5 (.int .u8)), (.obj 63 [(.val (.int .i64)), (.map 3), (.map 4), (.val (.int .i64)), (.val (.int .i64)), (.val .bool)]), (.arr 5 (.int .u8)), (.map (.int .i64) ty0 false), (.map (.int .i64) ty0 false)]⟩
abbrev law3_DiskTwins_l17_o : List Out := [⟨(.exit 0), [2, 10, 11], ⟨[(.one (.val .bool)), (.one (.arr 0)), (.one (.ptr 1 0))], [(.arr 5 (.int .u8)), (.obj 63 [(.val (.int .i64)), (.map 2), (.map 3), (.val (.int .i64)), (.val (.int .i64)), (.val .bool)]), (.map (.int .i64) ty0 false), (.map (.int .i64) ty0 false)]⟩⟩]
def law3_DiskTwins_l17 (n : Nat) : Nat → law3_DiskTwins_l17_h.T → Option (OutT law3_DiskTwins_l17_o)
  | 0, _ => none
  | k + 1, ((x1, _, _, _, x2, _), (l3, (x4, _, _, x5, x6, x7, _), l8, m9, m10, _)) =>
    if decide (x2 < (l8.length : Int)) then
      if 0 ≤ x2 ∧ x2 < (l8.length : Int) then (
        let v11 : Int := rdT ((.int .u8) : Ty) l8 x2
        let v12 : Int := IntKind.u8.wrap (v11 + 1)
        if 0 ≤ x2 ∧ x2 < (l8.length : Int) then (
          let v13 : Int := IntKind.i64.wrap (x2 + 1)
          law3_DiskTwins_l17 n k ((x1, (), (), (), v13, ()), (l3, (x4, (), (), x5, x6, x7, ()), List.set l8 (x2 : Int).toNat v12, m9, m10, ()))) else none) else none
    else
      some (.inl ((x1, (), (), ()), (l3, (x4, (), (), x5, x6, x7, ()), m9, m10, ())))
def law3_DiskTwins : Nat → law3_DiskTwins_ins.T → Option (OutsT law3_DiskTwins_outs)
  | 0, _ => none
  | n + 1, ((x1, x2, x3, _), _) =>
    match law3_first n ((), ()) with
    | some ((x4, _), _) => (
      if !x4 then
        some ((false, ()), ())
      else
        if decide ((x1.length : Int) > 100) then
          some ((x4, ()), ())
        else
          if decide ((x2.length : Int) > 100) then
            some ((x4, ()), ())
          else
            if !x4 then
              some ((x4, ()), ())
            else
              match disk_New n ((8, ()), ()) with
              | some (.inl ((((_, _), (x5, _), _), _), ((x6, _, _, x7, x8, x9, _), m10, m11, _))) => (
                match law3_DiskTwins_c9 n ((x1, x2, x3, (), x5, ()), ((x6, (), (), x7, x8, x9, ()), m10, m11, ())) with
                | some (.inl ((x13, x14, x15, _, _), ((x16, _, _, x17, x18, x19, _), m20, m21, _))) => (
                  match ref_Bytes n ((x13, ()), ()) with
                  | some ((_, _), (l23, _)) => (
                    match disk_Disk_Clone n (((), ()), ((x16, (), (), x17, x18, x19, ()), m20, m21, ())) with
                    | some ((_, _), ((x24, _, _, x25, x26, x27, _), m28, m29, (x30, _, _, x31, x32, x33, _), m34, m35, _)) => (
                      match disk_Disk_Write_2 n (((), 3, x14, ()), ((x24, (), (), x25, x26, x27, ()), m28, m29, ())) with
                      | some ((x36, _), ((x37, _, _, x38, x39, x40, _), m41, m42, _)) => (
                        if !(errNil x36) then
                          some ((false, ()), ())
                        else
                          match disk_Disk_Read n (((), 3, ()), ((x30, (), (), x31, x32, x33, ()), m34, m35, ())) with
                          | some ((((_, _), (x43, _), (x44, _), _), _), ((x45, _, _, x46, x47, x48, _), m49, m50, l51, _)) => (
                            if !x43 then
                              some ((false, ()), ())
                            else
                              if !(errNil x44) then
                                some ((false, ()), ())
                              else
                                match ref_SameBytes n (((), (), ()), (l51, l23, ())) with
                                | some ((x52, _), (l53, l54, _)) => (
                                  if !x52 then
                                    some ((false, ()), ())
                                  else
                                    match law3_DiskTwins_l17 n n ((x15, (), (), (), 0, ()), (l54, (x45, (), (), x46, x47, x48, ()), l53, m49, m50, ())) with
                                    | some (.inl ((x55, _, _, _), (l56, (x57, _, _, x58, x59, x60, _), m61, m62, _))) => (
                                      match disk_Disk_Read n (((), 3, ()), ((x57, (), (), x58, x59, x60, ()), m61, m62, ())) with
                                      | some ((((_, _), (x63, _), (x64, _), _), _), ((x65, _, _, x66, x67, x68, _), m69, m70, l71, _)) => (
                                        match disk_Disk_Crash n (((), (), ()), ((x65, (), (), x66, x67, x68, ()), [], m69, m70, ())) with
                                        | some ((_, _), ((x72, _, _, x73, x74, x75, _), l76, m77, m78, _)) => (
                                          match disk_Disk_Read n (((), 3, ()), ((x72, (), (), x73, x74, x75, ()), m77, m78, ())) with
                                          | some ((((_, _), (x79, _), (x80, _), _), _), ((x81, _, _, x82, x83, x84, _), m85, m86, l87, _)) => (
                                            match ref_SameBytes n (((), (), ()), (l71, l56, ())) with
                                            | some ((x88, _), (l89, l90, _)) => (
                                              if x88 then
                                                if x79 == x55 then
                                                  if errNil x80 then
                                                    if !x55 then
                                                      some ((true, ()), ())
                                                    else
                                                      match ref_SameBytes n (((), (), ()), (l87, l90, ())) with
                                                      | some ((x91, _), (l92, l93, _)) => (
                                                        some ((x91, ()), ()))
                                                      | none => none
                                                  else
                                                    some ((false, ()), ())
                                                else
                                                  some ((false, ()), ())
                                              else
                                                some ((false, ()), ()))
                                            | none => none)
                                          | none => none)
                                        | none => none)
                                      | none => none)
                                    | some (.inr (_)) => none
                                    | none => none)
                                | none => none)
                          | none => none)
                      | none => none)
                    | none => none)
                  | none => none)
                | some (.inr (.inl ((x22, _), _))) => (
                  some ((x22, ()), ()))
                | some (.inr (.inr (_))) => none
                | none => none)
              | some (.inr (((((_, _), (x12, _), _), _), _))) => (
                none)
              | none => none)
    | none => none
def law3_DiskTwins_H (n : Nat) : Hints := ⟨[], fun _ => [], fun k => match k with | 17 => some ⟨[2, 10, 11, 12, 15], law3_DiskTwins_l17_h, law3_DiskTwins_l17_o, law3_DiskTwins_l17 n⟩ | _ => none, fun k => match k with | 9 => some ⟨[0, 1, 2, 8, 9], law3_DiskTwins_c9_h, law3_DiskTwins_c9_o, fun n => law3_DiskTwins_c9 n⟩ | _ => none⟩
def law3_DiskTwins_O (n : Nat) : FuncId → List FSpec := asc [(9, ⟨law3_first_ins, law3_first_outs, law3_first n⟩), (11, ⟨disk_New_ins, disk_New_outs, disk_New n⟩), (14, ⟨disk_Disk_Write_2_ins, disk_Disk_Write_2_outs, disk_Disk_Write_2 n⟩), (15, ⟨disk_Disk_Read_ins, disk_Disk_Read_outs, disk_Disk_Read n⟩), (18, ⟨disk_Disk_Flush_ins, disk_Disk_Flush_outs, disk_Disk_Flush n⟩), (19, ⟨disk_Disk_Crash_ins, disk_Disk_Crash_outs, disk_Disk_Crash n⟩), (20, ⟨ref_SameBytes_ins, ref_SameBytes_outs, ref_SameBytes n⟩), (23, ⟨ref_Bytes_ins, ref_Bytes_outs, ref_Bytes n⟩), (24, ⟨disk_Disk_Clone_ins, disk_Disk_Clone_outs, disk_Disk_Clone n⟩)]
def b7 : Code := bodyOf Tryd.f7
theorem law3_DiskTwins_l17_k0 (n : Nat) : LoopOk P CC (law3_DiskTwins_O n) n 0 139 (law3_DiskTwins_H n) ⟨[2, 10, 11, 12, 15], law3_DiskTwins_l17_h, law3_DiskTwins_l17_o, law3_DiskTwins_l17 n⟩ ((loopsOf b7).getD 0 .skip) := by
  refine ⟨fun _ => by kernel_rfl, ?_⟩
  rintro k ⟨⟨x1, ⟨⟩, ⟨⟩, ⟨⟩, x2, ⟨⟩⟩, ⟨x3, ⟨x4, ⟨⟩, ⟨⟩, x5, x6, x7, ⟨⟩⟩, x8, x9, x10, ⟨⟩⟩⟩
  kernel_rfl
theorem law3_DiskTwins_c9_k9 (n : Nat) : CutOk P CC (law3_DiskTwins_O n) n 0 139 (law3_DiskTwins_H n) ⟨[0, 1, 2, 8, 9], law3_DiskTwins_c9_h, law3_DiskTwins_c9_o, fun n => law3_DiskTwins_c9 n⟩ ((cutsOf b7).getD 9 (0, .skip)).2 := by
  rintro ⟨⟨x1, x2, x3, ⟨⟩, x4, ⟨⟩⟩, ⟨⟨x5, ⟨⟩, ⟨⟩, x6, x7, x8, ⟨⟩⟩, x9, x10, ⟨⟩⟩⟩
  kernel_rfl
theorem law3_DiskTwins_ok {S : Nat → Addr} (ok : CfgOk P CC S) : ∀ n, SpecOk P CC S 7 ⟨law3_DiskTwins_ins, law3_DiskTwins_outs, law3_DiskTwins n⟩ :=
  fn_all ok (O := law3_DiskTwins_O) (H := law3_DiskTwins_H) (fn := Tryd.f7) (body := b7) (by kernel_rfl) (by kernel_rfl) (by kernel_rfl) (by decide) (by kernel_rfl)
    (fun x => by kernel_rfl) (fun n => by
      rintro ⟨⟨x1, x2, x3, ⟨⟩⟩, ⟨⟩⟩
      kernel_rfl)
    (fun n => obl_of (by kernel_rfl) (by kernel_rfl) (ls (lz) (by kernel_rfl) (law3_DiskTwins_l17_k0 n)) (cn (cn (cn (cn (cn (cn (cn (cn (cn (cn (cn (cn (cn (cn (cn (cn (cn (cn (cn (cn (cs (cn (cn (cn (cn (cn (cn (cn (cn (cn (cz) (by kernel_rfl)) (by kernel_rfl)) (by kernel_rfl)) (by kernel_rfl)) (by kernel_rfl)) (by kernel_rfl)) (by kernel_rfl)) (by kernel_rfl)) (by kernel_rfl)) (by kernel_rfl) (law3_DiskTwins_c9_k9 n)) (by kernel_rfl)) (by kernel_rfl)) (by kernel_rfl)) (by kernel_rfl)) (by kernel_rfl)) (by kernel_rfl)) (by kernel_rfl)) (by kernel_rfl)) (by kernel_rfl)) (by kernel_rfl)) (by kernel_rfl)) (by kernel_rfl)) (by kernel_rfl)) (by kernel_rfl)) (by kernel_rfl)) (by kernel_rfl)) (by kernel_rfl)) (by kernel_rfl)) (by kernel_rfl)) (by kernel_rfl)))
    (fun n ih => asc_cons (law3_first_ok ok n) <| asc_cons (disk_New_ok ok n) <| asc_cons (disk_Disk_Write_2_ok ok n) <| asc_cons (disk_Disk_Read_ok ok n) <| asc_cons (disk_Disk_Flush_ok ok n) <| asc_cons (disk_Disk_Crash_ok ok n) <| asc_cons (ref_SameBytes_ok ok n) <| asc_cons (ref_Bytes_ok ok n) <| asc_cons (disk_Disk_Clone_ok ok n) <| asc_nil)
end
end Go.Proofs.YtgpoomkbkckbaaaDoor.Cm

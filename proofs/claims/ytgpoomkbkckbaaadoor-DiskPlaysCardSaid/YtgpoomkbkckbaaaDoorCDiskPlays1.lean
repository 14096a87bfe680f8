/- Printed by cmtext.py: the code as plain functions. -/
import Derived.Test.YtgpoomkbkckbaaaDoorCDiskPlays0
namespace Go.Proofs.YtgpoomkbkckbaaaDoor.Cm
open Go
noncomputable section
set_option linter.unusedVariables false
set_option maxRecDepth 100000
/-! ### pendulum/pendulumlaw3.DiskPlays -/
abbrev law3_DiskPlays_ins : Sh := ⟨[(.one (.val (.int .i64))), (.one (.val ty7))], []⟩
abbrev law3_DiskPlays_outs : List Sh := [⟨[(.one (.val .bool))], []⟩]
abbrev law3_DiskPlays_c32_h : Sh := ⟨[(.one (.val ty7)), (.one (.ptr 0 0)), (.one (.ptr 1 0)), (.one (.val (.int .i64))), (.one (.ptr 2 0)), (.one (.ptr 3 0)), (.one (.val (.int .i64)))], [(.obj 63 [(.val (.int .i64)), (.map 4), (.map 5), (.val (.int .i64)), (.val (.int .i64)), (.val .bool)]), (.obj 57 [(.val (.int .i64)), (.val (.int .i64)), (.val ty6), (.val ty6), (.val (.int .i64)), (.val .bool)]), (.obj 52 [(.val (.int .i64)), (.val (.int .i64)), (.val ty0), (.val ty4)]), (.obj 63 [(.val (.int .i64)), (.map 6), (.map 7), (.val (.int .i64)), (.val (.int .i64)), (.val .bool)]), (.map (.int .i64) ty0 false), (.map (.int .i64) ty0 false), (.map (.int .i64) ty0 false), (.map (.int .i64) ty0 false)]⟩
abbrev law3_DiskPlays_c32_o : List Out := [⟨.normal, [1, 6, 8, 10, 12, 13], ⟨[(.one (.val ty7)), (.one (.ptr 0 0)), (.one (.ptr 1 0)), (.one (.val (.int .i64))), (.one (.ptr 2 0)), (.one (.val (.int .i64)))], [(.obj 63 [(.val (.int .i64)), (.map 3), (.map 4), (.val (.int .i64)), (.val (.int .i64)), (.val .bool)]), (.obj 57 [(.val (.int .i64)), (.val (.int .i64)), (.val ty6), (.val ty6), (.val (.int .i64)), (.val .bool)]), (.obj 63 [(.val (.int .i64)), (.map 5), (.map 6), (.val (.int .i64)), (.val (.int .i64)), (.val .bool)]), (.map (.int .i64) ty0 false), (.map (.int .i64) ty0 false), (.map (.int .i64) ty0 false), (.map (.int .i64) ty0 false)]⟩⟩, ⟨.ret, [4], ⟨[(.one (.val .bool))], []⟩⟩]
def law3_DiskPlays_c32 (n : Nat) : law3_DiskPlays_c32_h.T → Option (OutT law3_DiskPlays_c32_o)
  | ((x1, _, _, x2, _, _, x3, _), ((x4, _, _, x5, x6, x7, _), (x8, x9, x10, x11, x12, x13, _), (x14, x15, x16, x17, _), (x18, _, _, x19, x20, x21, _), m22, m23, m24, m25, _)) =>
    if x14 == 1 then
      match disk_Disk_Write_2 n (((), x15, x16, ()), ((x4, (), (), x5, x6, x7, ()), m22, m23, ())) with
      | some ((x26, _), ((x27, _, _, x28, x29, x30, _), m31, m32, _)) => (
        match ref3_Disk_Write_3 n (((), x15, x16, ()), ((x8, x9, x10, x11, x12, x13, ()), ())) with
        | some ((x33, _), ((x34, x35, x36, x37, x38, x39, _), _)) => (
          match pendulumsee_Is n ((x26, x33, ()), ()) with
          | some ((x40, _), _) => (
            if !x40 then
              some (.inr (.inl ((false, ()), ())))
            else
              some (.inl ((x1, (), (), x2, (), x3, ()), ((x27, (), (), x28, x29, x30, ()), (x34, x35, x36, x37, x38, x39, ()), (x18, (), (), x19, x20, x21, ()), m31, m32, m24, m25, ()))))
          | none => none)
        | none => none)
      | none => none
    else
      if x14 == 2 then
        match disk_Disk_Flush n (((), ()), ((x4, (), (), x5, x6, x7, ()), m22, m23, ())) with
        | some ((x41, _), ((x42, _, _, x43, x44, x45, _), m46, m47, _)) => (
          match ref3_Disk_Flush_3 n (((), ()), ((x8, x9, x10, x11, x12, x13, ()), ())) with
          | some ((x48, _), ((x49, x50, x51, x52, x53, x54, _), _)) => (
            match pendulumsee_Is n ((x41, x48, ()), ()) with
            | some ((x55, _), _) => (
              if !x55 then
                some (.inr (.inl ((false, ()), ())))
              else
                some (.inl ((x1, (), (), x2, (), x3, ()), ((x42, (), (), x43, x44, x45, ()), (x49, x50, x51, x52, x53, x54, ()), (x18, (), (), x19, x20, x21, ()), m46, m47, m24, m25, ()))))
            | none => none)
          | none => none)
        | none => none
      else
        if x14 == 3 then
          match disk_Disk_Arm n (((), x15, ()), ((x4, (), (), x5, x6, x7, ()), m22, m23, ())) with
          | some ((_, _), ((x56, _, _, x57, x58, x59, _), m60, m61, _)) => (
            match ref3_Disk_Arm_3 n (((), x15, ()), ((x8, x9, x10, x11, x12, x13, ()), ())) with
            | some ((_, _), ((x62, x63, x64, x65, x66, x67, _), _)) => (
              some (.inl ((x1, (), (), x2, (), x3, ()), ((x56, (), (), x57, x58, x59, ()), (x62, x63, x64, x65, x66, x67, ()), (x18, (), (), x19, x20, x21, ()), m60, m61, m24, m25, ()))))
            | none => none)
          | none => none
        else
          match disk_Disk_Crash_2 n (((), x17, ()), ((x4, (), (), x5, x6, x7, ()), m22, m23, ())) with
          | some ((_, _), ((x68, _, _, x69, x70, x71, _), m72, m73, _)) => (
            match ref3_Disk_Crash_3 n (((), x17, ()), ((x8, x9, x10, x11, x12, x13, ()), ())) with
            | some ((_, _), ((x74, x75, x76, _, x77, x78, _), _)) => (
              some (.inl ((x1, (), (), x2, (), x3, ()), ((x68, (), (), x69, x70, x71, ()), (x74, x75, x76, [], x77, x78, ()), (x18, (), (), x19, x20, x21, ()), m72, m73, m24, m25, ()))))
            | none => none)
          | none => none
abbrev law3_DiskPlays_l35_h : Sh := ⟨[(.one (.val ty7)), (.one (.ptr 0 0)), (.one (.ptr 1 0)), (.one (.val (.int .i64))), (.one (.val (.int .i64)))], [(.obj 63 [(.val (.int .i64)), (.map 2), (.map 3), (.val (.int .i64)), (.val (.int .i64)), (.val .bool)]), (.obj 57 [(.val (.int .i64)), (.val (.int .i64)), (.val ty6), (.val ty6), (.val (.int .i64)), (.val .bool)]), (.map (.int .i64) ty0 false), (.map (.int .i64) ty0 false)]⟩
abbrev law3_DiskPlays_l35_o : List Out := [⟨(.exit 3), [1, 6, 8, 10], ⟨[(.one (.val ty7)), (.one (.ptr 0 0)), (.one (.ptr 1 0)), (.one (.val (.int .i64)))], [(.obj 63 [(.val (.int .i64)), (.map 2), (.map 3), (.val (.int .i64)), (.val (.int .i64)), (.val .bool)]), (.obj 57 [(.val (.int .i64)), (.val (.int .i64)), (.val ty6), (.val ty6), (.val (.int .i64)), (.val .bool)]), (.map (.int .i64) ty0 false), (.map (.int .i64) ty0 false)]⟩⟩, ⟨.ret, [4], ⟨[(.one (.val .bool))], []⟩⟩]
def law3_DiskPlays_l35 (n : Nat) : Nat → law3_DiskPlays_l35_h.T → Option (OutT law3_DiskPlays_l35_o)
  | 0, _ => none
  | k + 1, ((x1, _, _, x2, x3, _), ((x4, _, _, x5, x6, x7, _), (x8, x9, x10, x11, x12, x13, _), m14, m15, _)) =>
    let v16 : Int := IntKind.i64.wrap (x8 + 1)
    if decide (x3 < (mn v16 14)) then
      match disk_Disk_Read n (((), x3, ()), ((x4, (), (), x5, x6, x7, ()), m14, m15, ())) with
      | some ((((_, _), (x17, _), (x18, _), _), _), ((x19, _, _, x20, x21, x22, _), m23, m24, l25, _)) => (
        match ref3_Disk_Read_2 n (((), x3, ()), ((x8, x9, x10, x11, x12, x13, ()), ())) with
        | some ((((x26, _), (x27, _), (x28, _), _), _), ((x29, x30, x31, x32, x33, x34, _), _)) => (
          match ref_SameBytes n ((l25, x26, ()), ()) with
          | some ((x35, _), _) => (
            if !x35 then
              some (.inr (.inl ((false, ()), ())))
            else
              if !(x17 == x27) then
                some (.inr (.inl ((false, ()), ())))
              else
                match pendulumsee_Is n ((x18, x28, ()), ()) with
                | some ((x36, _), _) => (
                  if !x36 then
                    some (.inr (.inl ((false, ()), ())))
                  else
                    let v37 : Int := IntKind.i64.wrap (x3 + 1)
                    law3_DiskPlays_l35 n k ((x1, (), (), x2, v37, ()), ((x19, (), (), x20, x21, x22, ()), (x29, x30, x31, x32, x33, x34, ()), m23, m24, ())))
                | none => none)
          | none => none)
        | none => none)
      | none => none
    else
      some (.inl ((x1, (), (), x2, ()), ((x4, (), (), x5, x6, x7, ()), (x8, x9, x10, x11, x12, x13, ()), m14, m15, ())))
abbrev law3_DiskPlays_l13_h : Sh := ⟨[(.one (.val ty7)), (.one (.ptr 0 0)), (.one (.ptr 1 0)), (.one (.val (.int .i64)))], [(.obj 63 [(.val (.int .i64)), (.map 2), (.map 3), (.val (.int .i64)), (.val (.int .i64)), (.val .bool)]), (.obj 57 [(.val (.int .i64)), (.val (.int .i64)), (.val ty6), (.val ty6), (.val (.int .i64)), (.val .bool)]), (.map (.int .i64) ty0 false), (.map (.int .i64) ty0 false)]⟩
abbrev law3_DiskPlays_l13_o : List Out := [⟨(.exit 0), [], ⟨[], []⟩⟩, ⟨.ret, [4], ⟨[(.one (.val .bool))], []⟩⟩]
def law3_DiskPlays_l13 (n : Nat) : Nat → law3_DiskPlays_l13_h.T → Option (OutT law3_DiskPlays_l13_o)
  | 0, _ => none
  | k + 1, ((x1, _, _, x2, _), ((x3, _, _, x4, x5, x6, _), (x7, x8, x9, x10, x11, x12, _), m13, m14, _)) =>
    if decide (x2 < (x1.length : Int)) then
      if 0 ≤ x2 ∧ x2 < (x1.length : Int) then (
        if decide ((((((rdT ty1 x1 x2).2).2).1).length : Int) > 400) then
          some (.inr (.inl ((true, ()), ())))
        else
          if decide ((((((rdT ty1 x1 x2).2).2).2).length : Int) > 30) then
            some (.inr (.inl ((true, ()), ())))
          else
            match disk_Disk_Clone n (((), ()), ((x3, (), (), x4, x5, x6, ()), m13, m14, ())) with
            | some ((_, _), ((x15, _, _, x16, x17, x18, _), m19, m20, (x21, _, _, x22, x23, x24, _), m25, m26, _)) => (
              match disk_Disk_Calls n (((), ()), ((x21, (), (), x22, x23, x24, ()), m25, m26, ())) with
              | some ((x27, _), ((x28, _, _, x29, x30, x31, _), m32, m33, _)) => (
                match law3_DiskPlays_c32 n ((x1, (), (), x2, (), (), x27, ()), ((x15, (), (), x16, x17, x18, ()), (x7, x8, x9, x10, x11, x12, ()), ((rdT ty1 x1 x2).1, ((rdT ty1 x1 x2).2).1, (((rdT ty1 x1 x2).2).2).1, (((rdT ty1 x1 x2).2).2).2, ()), (x28, (), (), x29, x30, x31, ()), m19, m20, m32, m33, ())) with
                | some (.inl ((x34, _, _, x35, _, x36, _), ((x37, _, _, x38, x39, x40, _), (x41, x42, x43, x44, x45, x46, _), (x47, _, _, x48, x49, x50, _), m51, m52, m53, m54, _))) => (
                  match disk_Disk_Sectors n (((), ()), ((x37, (), (), x38, x39, x40, ()), m51, m52, ())) with
                  | some ((x56, _), ((x57, _, _, x58, x59, x60, _), m61, m62, _)) => (
                    if x56 != x41 then
                      some (.inr (.inl ((false, ()), ())))
                    else
                      match disk_Disk_Pending n (((), ()), ((x57, (), (), x58, x59, x60, ()), m61, m62, ())) with
                      | some ((x63, _), ((x64, _, _, x65, x66, x67, _), m68, m69, _)) => (
                        if x63 != (x44.length : Int) then
                          some (.inr (.inl ((false, ()), ())))
                        else
                          match disk_Disk_Calls n (((), ()), ((x64, (), (), x65, x66, x67, ()), m68, m69, ())) with
                          | some ((x70, _), ((x71, _, _, x72, x73, x74, _), m75, m76, _)) => (
                            if x70 != x42 then
                              some (.inr (.inl ((false, ()), ())))
                            else
                              match disk_Disk_Down n (((), ()), ((x71, (), (), x72, x73, x74, ()), m75, m76, ())) with
                              | some ((x77, _), ((x78, _, _, x79, x80, x81, _), m82, m83, _)) => (
                                if !(x77 == x46) then
                                  some (.inr (.inl ((false, ()), ())))
                                else
                                  match disk_Disk_Calls n (((), ()), ((x47, (), (), x48, x49, x50, ()), m53, m54, ())) with
                                  | some ((x84, _), ((x85, _, _, x86, x87, x88, _), m89, m90, _)) => (
                                    if x84 != x36 then
                                      some (.inr (.inl ((false, ()), ())))
                                    else
                                      match law3_DiskPlays_l35 n n ((x34, (), (), x35, (-1), ()), ((x78, (), (), x79, x80, x81, ()), (x41, x42, x43, x44, x45, x46, ()), m82, m83, ())) with
                                      | some (.inl ((x91, _, _, x92, _), ((x93, _, _, x94, x95, x96, _), (x97, x98, x99, x100, x101, x102, _), m103, m104, _))) => (
                                        let v106 : Int := IntKind.i64.wrap (x92 + 1)
                                        law3_DiskPlays_l13 n k ((x91, (), (), v106, ()), ((x93, (), (), x94, x95, x96, ()), (x97, x98, x99, x100, x101, x102, ()), m103, m104, ())))
                                      | some (.inr (.inl ((x105, _), _))) => (
                                        some (.inr (.inl ((x105, ()), ()))))
                                      | some (.inr (.inr (_))) => none
                                      | none => none)
                                  | none => none)
                              | none => none)
                          | none => none)
                      | none => none)
                  | none => none)
                | some (.inr (.inl ((x55, _), _))) => (
                  some (.inr (.inl ((x55, ()), ()))))
                | some (.inr (.inr (_))) => none
                | none => none)
              | none => none)
            | none => none) else none
    else
      some (.inl ((), ()))
def law3_DiskPlays : Nat → law3_DiskPlays_ins.T → Option (OutsT law3_DiskPlays_outs)
  | 0, _ => none
  | n + 1, ((x1, x2, _), _) =>
    match law3_first n ((), ()) with
    | some ((x3, _), _) => (
      if !x3 then
        some ((false, ()), ())
      else
        if decide ((x2.length : Int) > 60) then
          some ((x3, ()), ())
        else
          if !x3 then
            some ((x3, ()), ())
          else
            match disk_New n ((x1, ()), ()) with
            | some (.inl ((((_, _), (x4, _), _), _), ((x5, _, _, x6, x7, x8, _), m9, m10, _))) => (
              match ref3_New n ((x1, ()), ()) with
              | some (.inl ((((_, _), (x12, _), _), _), ((x13, x14, _, _, x15, x16, _), _))) => (
                match pendulumsee_Is n ((x4, x12, ()), ()) with
                | some ((x18, _), _) => (
                  if !x18 then
                    some ((false, ()), ())
                  else
                    match law3_DiskPlays_l13 n n ((x2, (), (), 0, ()), ((x5, (), (), x6, x7, x8, ()), (x13, x14, [], [], x15, x16, ()), m9, m10, ())) with
                    | some (.inl (_, _)) => (
                      some ((true, ()), ()))
                    | some (.inr (.inl ((x19, _), _))) => (
                      some ((x19, ()), ()))
                    | some (.inr (.inr (_))) => none
                    | none => none)
                | none => none)
              | some (.inr (((((_, _), (x17, _), _), _), _))) => (
                match pendulumsee_Is n ((x4, x17, ()), ()) with
                | some ((x20, _), _) => (
                  if !x20 then
                    some ((false, ()), ())
                  else
                    some ((false, ()), ()))
                | none => none)
              | none => none)
            | some (.inr (((((_, _), (x11, _), _), _), _))) => (
              match ref3_New n ((x1, ()), ()) with
              | some (.inl ((((_, _), (x21, _), _), _), ((x22, x23, _, _, x24, x25, _), _))) => (
                match pendulumsee_Is n ((x11, x21, ()), ()) with
                | some ((x27, _), _) => (
                  if !x27 then (
                    some ((false, ()), ())) else none)
                | none => none)
              | some (.inr (((((_, _), (x26, _), _), _), _))) => (
                match pendulumsee_Is n ((x11, x26, ()), ()) with
                | some ((x28, _), _) => (
                  if !x28 then
                    some ((false, ()), ())
                  else
                    some ((true, ()), ()))
                | none => none)
              | none => none)
            | none => none)
    | none => none
def law3_DiskPlays_H (n : Nat) : Hints := ⟨[], fun _ => [], fun k => match k with | 35 => some ⟨[1, 6, 8, 10, 14], law3_DiskPlays_l35_h, law3_DiskPlays_l35_o, law3_DiskPlays_l35 n⟩ | 13 => some ⟨[1, 6, 8, 10], law3_DiskPlays_l13_h, law3_DiskPlays_l13_o, law3_DiskPlays_l13 n⟩ | _ => none, fun k => match k with | 32 => some ⟨[1, 6, 8, 10, 11, 12, 13], law3_DiskPlays_c32_h, law3_DiskPlays_c32_o, fun n => law3_DiskPlays_c32 n⟩ | _ => none⟩
def law3_DiskPlays_O (n : Nat) : FuncId → List FSpec := asc [(9, ⟨law3_first_ins, law3_first_outs, law3_first n⟩), (11, ⟨disk_New_ins, disk_New_outs, disk_New n⟩), (12, ⟨pendulumsee_Is_ins, pendulumsee_Is_outs, pendulumsee_Is n⟩), (13, ⟨disk_Disk_Sectors_ins, disk_Disk_Sectors_outs, disk_Disk_Sectors n⟩), (14, ⟨disk_Disk_Write_2_ins, disk_Disk_Write_2_outs, disk_Disk_Write_2 n⟩), (15, ⟨disk_Disk_Read_ins, disk_Disk_Read_outs, disk_Disk_Read n⟩), (16, ⟨disk_Disk_Pending_ins, disk_Disk_Pending_outs, disk_Disk_Pending n⟩), (17, ⟨disk_Disk_Calls_ins, disk_Disk_Calls_outs, disk_Disk_Calls n⟩), (18, ⟨disk_Disk_Flush_ins, disk_Disk_Flush_outs, disk_Disk_Flush n⟩), (19, ⟨disk_Disk_Crash_2_ins, disk_Disk_Crash_2_outs, disk_Disk_Crash_2 n⟩), (20, ⟨ref_SameBytes_ins, ref_SameBytes_outs, ref_SameBytes n⟩), (21, ⟨disk_Disk_Arm_ins, disk_Disk_Arm_outs, disk_Disk_Arm n⟩), (22, ⟨disk_Disk_Down_ins, disk_Disk_Down_outs, disk_Disk_Down n⟩), (24, ⟨disk_Disk_Clone_ins, disk_Disk_Clone_outs, disk_Disk_Clone n⟩), (25, ⟨ref3_New_ins, ref3_New_outs, ref3_New n⟩), (26, ⟨ref3_Disk_Write_3_ins, ref3_Disk_Write_3_outs, ref3_Disk_Write_3 n⟩), (27, ⟨ref3_Disk_Flush_3_ins, ref3_Disk_Flush_3_outs, ref3_Disk_Flush_3 n⟩), (28, ⟨ref3_Disk_Arm_3_ins, ref3_Disk_Arm_3_outs, ref3_Disk_Arm_3 n⟩), (29, ⟨ref3_Disk_Crash_3_ins, ref3_Disk_Crash_3_outs, ref3_Disk_Crash_3 n⟩), (30, ⟨ref3_Disk_Read_2_ins, ref3_Disk_Read_2_outs, ref3_Disk_Read_2 n⟩)]
def b8 : Code := bodyOf Tryd.f8
theorem law3_DiskPlays_l13_k0 (n : Nat) : LoopOk P CC (law3_DiskPlays_O n) n 0 198 (law3_DiskPlays_H n) ⟨[1, 6, 8, 10], law3_DiskPlays_l13_h, law3_DiskPlays_l13_o, law3_DiskPlays_l13 n⟩ ((loopsOf b8).getD 0 .skip) := by
  refine ⟨fun _ => by kernel_rfl, ?_⟩
  rintro k ⟨⟨x1, ⟨⟩, ⟨⟩, x2, ⟨⟩⟩, ⟨⟨x3, ⟨⟩, ⟨⟩, x4, x5, x6, ⟨⟩⟩, ⟨x7, x8, x9, x10, x11, x12, ⟨⟩⟩, x13, x14, ⟨⟩⟩⟩
  kernel_rfl
theorem law3_DiskPlays_l35_k1 (n : Nat) : LoopOk P CC (law3_DiskPlays_O n) n 0 198 (law3_DiskPlays_H n) ⟨[1, 6, 8, 10, 14], law3_DiskPlays_l35_h, law3_DiskPlays_l35_o, law3_DiskPlays_l35 n⟩ ((loopsOf b8).getD 1 .skip) := by
  refine ⟨fun _ => by kernel_rfl, ?_⟩
  rintro k ⟨⟨x1, ⟨⟩, ⟨⟩, x2, x3, ⟨⟩⟩, ⟨⟨x4, ⟨⟩, ⟨⟩, x5, x6, x7, ⟨⟩⟩, ⟨x8, x9, x10, x11, x12, x13, ⟨⟩⟩, x14, x15, ⟨⟩⟩⟩
  kernel_rfl
theorem law3_DiskPlays_c32_k27 (n : Nat) : CutOk P CC (law3_DiskPlays_O n) n 0 198 (law3_DiskPlays_H n) ⟨[1, 6, 8, 10, 11, 12, 13], law3_DiskPlays_c32_h, law3_DiskPlays_c32_o, fun n => law3_DiskPlays_c32 n⟩ ((cutsOf b8).getD 27 (0, .skip)).2 := by
  rintro ⟨⟨x1, ⟨⟩, ⟨⟩, x2, ⟨⟩, ⟨⟩, x3, ⟨⟩⟩, ⟨⟨x4, ⟨⟩, ⟨⟩, x5, x6, x7, ⟨⟩⟩, ⟨x8, x9, x10, x11, x12, x13, ⟨⟩⟩, ⟨x14, x15, x16, x17, ⟨⟩⟩, ⟨x18, ⟨⟩, ⟨⟩, x19, x20, x21, ⟨⟩⟩, x22, x23, x24, x25, ⟨⟩⟩⟩
  kernel_rfl
theorem law3_DiskPlays_ok {S : Nat → Addr} (ok : CfgOk P CC S) : ∀ n, SpecOk P CC S 8 ⟨law3_DiskPlays_ins, law3_DiskPlays_outs, law3_DiskPlays n⟩ :=
  fn_all ok (O := law3_DiskPlays_O) (H := law3_DiskPlays_H) (fn := Tryd.f8) (body := b8) (by kernel_rfl) (by kernel_rfl) (by kernel_rfl) (by decide) (by kernel_rfl)
    (fun x => by kernel_rfl) (fun n => by
      rintro ⟨⟨x1, x2, ⟨⟩⟩, ⟨⟩⟩
      kernel_rfl)
    (fun n => obl_of (by kernel_rfl) (by kernel_rfl) (ls (ls (lz) (by kernel_rfl) (law3_DiskPlays_l13_k0 n)) (by kernel_rfl) (law3_DiskPlays_l35_k1 n)) (cn (cn (cn (cn (cn (cn (cn (cn (cn (cn (cn (cn (cn (cn (cn (cn (cn (cn (cn (cn (cn (cn (cs (cn (cn (cn (cn (cn (cn (cn (cn (cn (cn (cn (cn (cn (cn (cn (cn (cn (cn (cn (cn (cn (cn (cn (cn (cn (cn (cn (cz) (by kernel_rfl)) (by kernel_rfl)) (by kernel_rfl)) (by kernel_rfl)) (by kernel_rfl)) (by kernel_rfl)) (by kernel_rfl)) (by kernel_rfl)) (by kernel_rfl)) (by kernel_rfl)) (by kernel_rfl)) (by kernel_rfl)) (by kernel_rfl)) (by kernel_rfl)) (by kernel_rfl)) (by kernel_rfl)) (by kernel_rfl)) (by kernel_rfl)) (by kernel_rfl)) (by kernel_rfl)) (by kernel_rfl)) (by kernel_rfl)) (by kernel_rfl)) (by kernel_rfl)) (by kernel_rfl)) (by kernel_rfl)) (by kernel_rfl)) (by kernel_rfl) (law3_DiskPlays_c32_k27 n)) (by kernel_rfl)) (by kernel_rfl)) (by kernel_rfl)) (by kernel_rfl)) (by kernel_rfl)) (by kernel_rfl)) (by kernel_rfl)) (by kernel_rfl)) (by kernel_rfl)) (by kernel_rfl)) (by kernel_rfl)) (by kernel_rfl)) (by kernel_rfl)) (by kernel_rfl)) (by kernel_rfl)) (by kernel_rfl)) (by kernel_rfl)) (by kernel_rfl)) (by kernel_rfl)) (by kernel_rfl)) (by kernel_rfl)) (by kernel_rfl)))
    (fun n ih => asc_cons (law3_first_ok ok n) <| asc_cons (disk_New_ok ok n) <| asc_cons (pendulumsee_Is_ok ok n) <| asc_cons (disk_Disk_Sectors_ok ok n) <| asc_cons (disk_Disk_Write_2_ok ok n) <| asc_cons (disk_Disk_Read_ok ok n) <| asc_cons (disk_Disk_Pending_ok ok n) <| asc_cons (disk_Disk_Calls_ok ok n) <| asc_cons (disk_Disk_Flush_ok ok n) <| asc_cons (disk_Disk_Crash_2_ok ok n) <| asc_cons (ref_SameBytes_ok ok n) <| asc_cons (disk_Disk_Arm_ok ok n) <| asc_cons (disk_Disk_Down_ok ok n) <| asc_cons (disk_Disk_Clone_ok ok n) <| asc_cons (ref3_New_ok ok n) <| asc_cons (ref3_Disk_Write_3_ok ok n) <| asc_cons (ref3_Disk_Flush_3_ok ok n) <| asc_cons (ref3_Disk_Arm_3_ok ok n) <| asc_cons (ref3_Disk_Crash_3_ok ok n) <| asc_cons (ref3_Disk_Read_2_ok ok n) <| asc_nil)
end
end Go.Proofs.YtgpoomkbkckbaaaDoor.Cm

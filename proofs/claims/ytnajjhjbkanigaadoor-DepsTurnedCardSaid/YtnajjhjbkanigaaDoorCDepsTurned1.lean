/- Printed by cmtext.py: the code as plain functions. -/
import Derived.Test.YtnajjhjbkanigaaDoorCDepsTurned0
namespace Go.Proofs.YtnajjhjbkanigaaDoor.Cm
open Go
noncomputable section
set_option linter.unusedVariables false
set_option maxRecDepth 100000
/-! ### pendulum/pendulumlaw24.DepsTurned -/
abbrev law24_DepsTurned_ins : Sh := ⟨[(.one (.val ty22)), (.one (.val .str)), (.one (.val (.int .i64)))], []⟩
abbrev law24_DepsTurned_outs : List Sh := [⟨[(.one (.val .bool))], []⟩]
def law24_DepsTurned : Nat → law24_DepsTurned_ins.T → Option (OutsT law24_DepsTurned_outs)
  | 0, _ => none
  | n + 1, ((x1, x2, x3, _), _) =>
    match law24_first n ((), ()) with
    | some ((x4, _), _) => (
      if !x4 then
        some ((false, ()), ())
      else
        match world_Nodes n ((x1, 14, ()), ()) with
        | some ((x5, _), _) => (
          if !x5 then
            some ((x4, ()), ())
          else
            if decide ((x2.size : Int) > 60) then
              some ((x4, ()), ())
            else
              if (x1.length : Int) == 0 then
                some ((x4, ()), ())
              else
                if !x4 then
                  some ((x4, ()), ())
                else
                  match deps_New_2 n ((x1, ()), ()) with
                  | some (.inl ((((_, _), (x6, _), _), _), ((_, _), m7, _))) => (
                    match world_Number n ((x3, (x1.length : Int), ()), ()) with
                    | some ((x9, _), _) => (
                      if 0 ≤ x9 ∧ x9 ≤ (x1.length : Int) then (
                        let v10 : List ty0.T := cutL x1 x9 (x1.length : Int)
                        if (([] : List ty0.T).length + v10.length) * 112 ≤ 140737488355328 then (
                          if 0 ≤ x9 ∧ x9 ≤ (x1.length : Int) then (
                            if (([] ++ v10 : List ty0.T).length + (cutL x1 0 x9).length) * 112 ≤ 140737488355328 then (
                              match deps_New n (((), ()), (([] ++ v10) ++ (cutL x1 0 x9), ())) with
                              | some (.inl ((((_, _), (x11, _), _), _), (l12, (_, _), m13, _))) => (
                                if !(errNil x6) then
                                  if !(errNil x6) then
                                    some ((!(errNil x11), ()), ())
                                  else
                                    some ((false, ()), ())
                                else
                                  if !(errNil x11) then
                                    if !(errNil x6) then
                                      some ((!(errNil x11), ()), ())
                                    else
                                      some ((false, ()), ())
                                  else
                                    match deps_Graph_All n (((), x2, ()), (((), ()), m7, ())) with
                                    | some ((((_, _), (x16, _), _), _), ((_, _), m17, l18, _)) => (
                                      match deps_Graph_All n (((), x2, ()), (((), ()), m13, ())) with
                                      | some ((((_, _), (x19, _), _), _), ((_, _), m20, l21, _)) => (
                                        match ref_SameTexts n ((l18, l21, ()), ()) with
                                        | some ((x22, _), _) => (
                                          if x22 then
                                            if (errNil x16) == (errNil x19) then
                                              match deps_Graph_Depth n (((), x2, ()), (((), ()), m17, ())) with
                                              | some ((x23, _), ((_, _), m24, _)) => (
                                                match deps_Graph_Depth n (((), x2, ()), (((), ()), m20, ())) with
                                                | some ((x25, _), ((_, _), m26, _)) => (
                                                  if x23 == x25 then
                                                    match deps_Graph_Names n (((), ()), (((), ()), m24, ())) with
                                                    | some ((_, _), ((_, _), m27, l28, _)) => (
                                                      match deps_Graph_Names n (((), ()), (((), ()), m26, ())) with
                                                      | some ((_, _), ((_, _), m29, l30, _)) => (
                                                        match ref_SameTexts n ((l28, l30, ()), ()) with
                                                        | some ((x31, _), _) => (
                                                          if x31 then
                                                            match deps_Graph_Used n (((), x2, ()), (((), ()), m27, ())) with
                                                            | some ((_, _), ((_, _), m32, l33, _)) => (
                                                              match deps_Graph_Used n (((), x2, ()), (((), ()), m29, ())) with
                                                              | some ((_, _), ((_, _), m34, l35, _)) => (
                                                                match ref_SameTexts n ((l33, l35, ()), ()) with
                                                                | some ((x36, _), _) => (
                                                                  some ((x36, ()), ()))
                                                                | none => none)
                                                              | none => none)
                                                            | none => none
                                                          else
                                                            some ((false, ()), ()))
                                                        | none => none)
                                                      | none => none)
                                                    | none => none
                                                  else
                                                    some ((false, ()), ()))
                                                | none => none)
                                              | none => none
                                            else
                                              some ((false, ()), ())
                                          else
                                            some ((false, ()), ()))
                                        | none => none)
                                      | none => none)
                                    | none => none)
                              | some (.inr (((((_, _), (x14, _), _), _), (l15, _)))) => (
                                if !(errNil x6) then
                                  if !(errNil x6) then
                                    some ((!(errNil x14), ()), ())
                                  else
                                    some ((false, ()), ())
                                else
                                  if !(errNil x14) then
                                    if !(errNil x6) then
                                      some ((!(errNil x14), ()), ())
                                    else
                                      some ((false, ()), ())
                                  else
                                    match deps_Graph_All n (((), x2, ()), (((), ()), m7, ())) with
                                    | some ((((_, _), (x37, _), _), _), ((_, _), m38, l39, _)) => (
                                      match deps_Graph_All_2 n (((), x2, ()), ()) with
                                      | some ((((_, _), (x40, _), _), _), (l41, _)) => (
                                        match ref_SameTexts n ((l39, l41, ()), ()) with
                                        | some ((x42, _), _) => (
                                          if x42 then
                                            if (errNil x37) == (errNil x40) then
                                              match deps_Graph_Depth n (((), x2, ()), (((), ()), m38, ())) with
                                              | some ((x43, _), ((_, _), m44, _)) => (
                                                match deps_Graph_Depth_2 n (((), x2, ()), ()) with
                                                | some ((x45, _), _) => (
                                                  if x43 == x45 then
                                                    match deps_Graph_Names n (((), ()), (((), ()), m44, ())) with
                                                    | some ((_, _), ((_, _), m46, l47, _)) => (
                                                      none)
                                                    | none => none
                                                  else
                                                    some ((false, ()), ()))
                                                | none => none)
                                              | none => none
                                            else
                                              some ((false, ()), ())
                                          else
                                            some ((false, ()), ()))
                                        | none => none)
                                      | none => none)
                                    | none => none)
                              | none => none) else none) else none) else none) else none)
                    | none => none)
                  | some (.inr (((((_, _), (x8, _), _), _), _))) => (
                    match world_Number n ((x3, (x1.length : Int), ()), ()) with
                    | some ((x48, _), _) => (
                      if 0 ≤ x48 ∧ x48 ≤ (x1.length : Int) then (
                        let v49 : List ty0.T := cutL x1 x48 (x1.length : Int)
                        if (([] : List ty0.T).length + v49.length) * 112 ≤ 140737488355328 then (
                          if 0 ≤ x48 ∧ x48 ≤ (x1.length : Int) then (
                            if (([] ++ v49 : List ty0.T).length + (cutL x1 0 x48).length) * 112 ≤ 140737488355328 then (
                              match deps_New n (((), ()), (([] ++ v49) ++ (cutL x1 0 x48), ())) with
                              | some (.inl ((((_, _), (x50, _), _), _), (l51, (_, _), m52, _))) => (
                                if !(errNil x8) then
                                  if !(errNil x8) then
                                    some ((!(errNil x50), ()), ())
                                  else
                                    some ((false, ()), ())
                                else
                                  if !(errNil x50) then
                                    if !(errNil x8) then
                                      some ((!(errNil x50), ()), ())
                                    else
                                      some ((false, ()), ())
                                  else
                                    match deps_Graph_All_2 n (((), x2, ()), ()) with
                                    | some ((((_, _), (x55, _), _), _), (l56, _)) => (
                                      match deps_Graph_All n (((), x2, ()), (((), ()), m52, ())) with
                                      | some ((((_, _), (x57, _), _), _), ((_, _), m58, l59, _)) => (
                                        match ref_SameTexts n ((l56, l59, ()), ()) with
                                        | some ((x60, _), _) => (
                                          if x60 then
                                            if (errNil x55) == (errNil x57) then
                                              match deps_Graph_Depth_2 n (((), x2, ()), ()) with
                                              | some ((x61, _), _) => (
                                                match deps_Graph_Depth n (((), x2, ()), (((), ()), m58, ())) with
                                                | some ((x62, _), ((_, _), m63, _)) => (
                                                  if x61 == x62 then
                                                    none
                                                  else
                                                    some ((false, ()), ()))
                                                | none => none)
                                              | none => none
                                            else
                                              some ((false, ()), ())
                                          else
                                            some ((false, ()), ()))
                                        | none => none)
                                      | none => none)
                                    | none => none)
                              | some (.inr (((((_, _), (x53, _), _), _), (l54, _)))) => (
                                if !(errNil x8) then
                                  if !(errNil x8) then
                                    some ((!(errNil x53), ()), ())
                                  else
                                    some ((false, ()), ())
                                else
                                  if !(errNil x53) then
                                    if !(errNil x8) then
                                      some ((!(errNil x53), ()), ())
                                    else
                                      some ((false, ()), ())
                                  else
                                    match deps_Graph_All_2 n (((), x2, ()), ()) with
                                    | some ((((_, _), (x64, _), _), _), (l65, _)) => (
                                      match deps_Graph_All_2 n (((), x2, ()), ()) with
                                      | some ((((_, _), (x66, _), _), _), (l67, _)) => (
                                        match ref_SameTexts n ((l65, l67, ()), ()) with
                                        | some ((x68, _), _) => (
                                          if x68 then
                                            if (errNil x64) == (errNil x66) then
                                              match deps_Graph_Depth_2 n (((), x2, ()), ()) with
                                              | some ((x69, _), _) => (
                                                match deps_Graph_Depth_2 n (((), x2, ()), ()) with
                                                | some ((x70, _), _) => (
                                                  if x69 == x70 then
                                                    none
                                                  else
                                                    some ((false, ()), ()))
                                                | none => none)
                                              | none => none
                                            else
                                              some ((false, ()), ())
                                          else
                                            some ((false, ()), ()))
                                        | none => none)
                                      | none => none)
                                    | none => none)
                              | none => none) else none) else none) else none) else none)
                    | none => none)
                  | none => none)
        | none => none)
    | none => none
def law24_DepsTurned_H (n : Nat) : Hints := ⟨[], fun _ => [], fun _ => none, fun _ => none, fun _ => none, fun _ => 0⟩
def law24_DepsTurned_O (n : Nat) : FuncId → List FSpec := asc [(19, ⟨law24_first_ins, law24_first_outs, law24_first n⟩), (20, ⟨world_Nodes_ins, world_Nodes_outs, world_Nodes n⟩), (21, ⟨deps_New_ins, deps_New_outs, deps_New n⟩), (21, ⟨deps_New_2_ins, deps_New_2_outs, deps_New_2 n⟩), (22, ⟨world_Number_ins, world_Number_outs, world_Number n⟩), (23, ⟨deps_Graph_All_ins, deps_Graph_All_outs, deps_Graph_All n⟩), (23, ⟨deps_Graph_All_2_ins, deps_Graph_All_2_outs, deps_Graph_All_2 n⟩), (24, ⟨ref_SameTexts_ins, ref_SameTexts_outs, ref_SameTexts n⟩), (25, ⟨deps_Graph_Depth_ins, deps_Graph_Depth_outs, deps_Graph_Depth n⟩), (25, ⟨deps_Graph_Depth_2_ins, deps_Graph_Depth_2_outs, deps_Graph_Depth_2 n⟩), (26, ⟨deps_Graph_Names_ins, deps_Graph_Names_outs, deps_Graph_Names n⟩), (27, ⟨deps_Graph_Used_ins, deps_Graph_Used_outs, deps_Graph_Used n⟩)]
def b4 : Code := bodyOf Tryd.f4
theorem law24_DepsTurned_ok {S : Nat → Addr} (ok : CfgOk P CC S) : ∀ n, SpecOk P CC S 4 ⟨law24_DepsTurned_ins, law24_DepsTurned_outs, law24_DepsTurned n⟩ :=
  fn_all ok (O := law24_DepsTurned_O) (H := law24_DepsTurned_H) (fn := Tryd.f4) (body := b4) (by kernel_rfl) (by kernel_rfl) (by kernel_rfl) (by decide) (by kernel_rfl)
    (fun x => by kernel_rfl) (fun n => by
      rintro ⟨⟨x1, x2, x3, ⟨⟩⟩, ⟨⟩⟩
      kernel_rfl)
    (fun n => obl_of (by kernel_rfl) (by kernel_rfl) (lz) (cn (cn (cn (cn (cn (cn (cn (cn (cn (cn (cn (cn (cn (cn (cn (cn (cn (cz) (by kernel_rfl)) (by kernel_rfl)) (by kernel_rfl)) (by kernel_rfl)) (by kernel_rfl)) (by kernel_rfl)) (by kernel_rfl)) (by kernel_rfl)) (by kernel_rfl)) (by kernel_rfl)) (by kernel_rfl)) (by kernel_rfl)) (by kernel_rfl)) (by kernel_rfl)) (by kernel_rfl)) (by kernel_rfl)) (by kernel_rfl)) (hn fun _ => rfl))
    (fun n ih => asc_cons (law24_first_ok ok n) <| asc_cons (world_Nodes_ok ok n) <| asc_cons (deps_New_ok ok n) <| asc_cons (deps_New_2_ok ok n) <| asc_cons (world_Number_ok ok n) <| asc_cons (deps_Graph_All_ok ok n) <| asc_cons (deps_Graph_All_2_ok ok n) <| asc_cons (ref_SameTexts_ok ok n) <| asc_cons (deps_Graph_Depth_ok ok n) <| asc_cons (deps_Graph_Depth_2_ok ok n) <| asc_cons (deps_Graph_Names_ok ok n) <| asc_cons (deps_Graph_Used_ok ok n) <| asc_nil)
end
end Go.Proofs.YtnajjhjbkanigaaDoor.Cm

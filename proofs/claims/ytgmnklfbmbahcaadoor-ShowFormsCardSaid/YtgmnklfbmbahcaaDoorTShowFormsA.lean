/- What package show answers of an expression, in plain words. -/
import Derived.Test.YtgmnklfbmbahcaaDoorKTShowFormsR
import Derived.Test.YtgmnklfbmbahcaaDoorPl
import Derived.Test.YtgmnklfbmbahcaaDoorItoa
set_option linter.unusedSimpArgs false
set_option linter.unusedVariables false
namespace Go.Proofs.YtgmnklfbmbahcaaDoor.TShowFormsA
open Go.RowKit Go.Proofs.YtgmnklfbmbahcaaDoor.KTShowForms Go.Proofs.YtgmnklfbmbahcaaDoor.Pl Go.Proofs.YtgmnklfbmbahcaaDoorW.PrintWords Go.Proofs.YtgmnklfbmbahcaaDoorW.PrintLast Go.Proofs.YtgmnklfbmbahcaaDoorW.PrintMore

theorem in_mono_j {E E' : Int → Int → Int → ByteArray → List S26 → Option ByteArray} (hE : ∀ a b c d e, LeO (E a b c d e) (E' a b c d e)) : ∀ k y0 y1 y2 y3 y4 y5, LeO (show_in.j0 E k y0 y1 y2 y3 y4 y5) (show_in.j0 E' (k + 1) y0 y1 y2 y3 y4 y5)
  | 0, _, _, _, _, _, _ => fun r h => by simp [show_in.j0] at h
  | k + 1, y0, y1, y2, y3, y4, y5 => by
    unfold show_in.j0
    exact LeO.ite (LeO.bind (hE _ _ _ _ _) (fun _ => LeO.refl _)) (LeO.bind (hE _ _ _ _ _) (fun _ => LeO.refl _))
theorem in_mono {E E' : Int → Int → Int → ByteArray → List S26 → Option ByteArray} (hE : ∀ a b c d e, LeO (E a b c d e) (E' a b c d e)) (k : Nat) (a b c : Int) (d : ByteArray) (e : List S26) : LeO (show_in.f E k a b c d e) (show_in.f E' (k + 1) a b c d e) := by
  unfold show_in.f
  exact LeO.ite (in_mono_j hE _ _ _ _ _ _ _) (LeO.ite (in_mono_j hE _ _ _ _ _ _ _) (LeO.ite (in_mono_j hE _ _ _ _ _ _ _) (in_mono_j hE _ _ _ _ _ _ _)))
theorem expr_mono : ∀ k a b c d e, LeO (show_Expr.f k a b c d e) (show_Expr.f (k + 1) a b c d e)
  | 0, _, _, _, _, _ => fun r h => by simp [show_Expr.f] at h
  | k + 1, a, b, c, d, e => by
    have ih := expr_mono k
    unfold show_Expr.f
    repeat' first
      | (with_reducible exact in_mono ih _ _ _ _ _ _)
      | (with_reducible exact ih _ _ _ _ _)
      | (with_reducible exact show_few.mono _ _)
      | (with_reducible exact show_Sign.mono _ _)
      | (with_reducible exact LeO.refl _)
      | (with_reducible exact LeO.none _)
      | (with_reducible refine LeO.ite ?_ ?_)
      | (with_reducible refine LeO.bind ?_ (fun _ => ?_))

/-- An expression's text. -/
def Sh (e : S26) (t : ByteArray) : Prop := Ans (fun k => show_Expr.f k e.f0 e.f1 e.f2 e.f3 e.f4) t
def atom (op : Int) : Bool := op == 1 || op == 2 || op == 3 || op == 25
/-- A part of another one. -/
def inn (op : Int) (t : ByteArray) : ByteArray := if atom op = true then t else ((⟨#[40]⟩ : ByteArray) ++ t) ++ (⟨#[41]⟩ : ByteArray)
theorem size1 (c : UInt8) : (⟨#[c]⟩ : ByteArray).size = 1 := rfl
theorem inn_size (op : Int) (t : ByteArray) : (inn op t).size ≤ t.size + 2 := by
  unfold inn
  split
  · omega
  · rw [ByteArray.size_append, ByteArray.size_append, size1, size1]; omega
theorem in_ans {e : S26} {t : ByteArray} (h : Sh e t) (hs : t.size ≤ 4611686018427387904) : Ans (fun k => show_in.f (show_Expr.f k) k e.f0 e.f1 e.f2 e.f3 e.f4) (inn e.f0 t) := by
  have hj : ∀ b, b = atom e.f0 → Ans (fun k => show_in.j0 (show_Expr.f k) k b e.f0 e.f1 e.f2 e.f3 e.f4) (inn e.f0 t) := by
    intro b hb
    refine Ans.succ (fun k => by simp only [show_in.j0]; rfl) ?_
    refine Ans.ite (fun h1 => ?_) (fun h1 => ?_)
    · refine Ans.bind h.shift ?_
      rw [inn, if_pos (hb.symm.trans h1)]
      exact Ans.some _
    · refine Ans.bind h.shift ?_
      refine Ans.ite_pos (by omega) (Ans.ite_pos (by rw [ByteArray.size_append, size1]; omega) ?_)
      rw [inn, if_neg (fun h2 => h1 (hb.trans h2))]
      exact Ans.some _
  unfold show_in.f
  refine Ans.ite (fun h1 => hj _ ?_) (fun h1 => Ans.ite (fun h2 => hj _ ?_) (fun h2 => Ans.ite (fun h3 => hj _ ?_) (fun h3 => hj _ ?_)))
  · rw [h1]; rfl
  · rw [h2]; rfl
  · rw [h3]; rfl
  · unfold atom
    rw [show (e.f0 == 1) = false from beq_eq_false_iff_ne.2 h1, show (e.f0 == 2) = false from beq_eq_false_iff_ne.2 h2, show (e.f0 == 3) = false from beq_eq_false_iff_ne.2 h3]
    simp

theorem few_ans (op r : Int) (m : Nat) (h : show_few.f m op = some r) : Ans (fun k => show_few.f k op) r := Ans.of_mono (fun k => show_few.mono _ k) h
theorem rd0 (e : S26) (l : List S26) : rd_T26 (e :: l) 0 = e := rfl
theorem rd1 (e e2 : S26) (l : List S26) : rd_T26 (e :: e2 :: l) 1 = e2 := rfl
theorem rd2 (e e2 e3 : S26) (l : List S26) : rd_T26 (e :: e2 :: e3 :: l) 2 = e3 := rfl
theorem sh_var (b c : Int) (d : ByteArray) (l : List S26) : Sh ⟨3, b, c, d, l⟩ d := by
  unfold Sh
  refine Ans.succ (fun k => by simp only [show_Expr.f, rd0, rd1]; rfl) ?_
  refine Ans.bind (few_ans 3 0 10 (by kernel_rfl)) ?_
  refine Ans.ite_neg (by omega) ?_
  refine Ans.ite_neg (by omega) (Ans.ite_neg (by omega) (Ans.ite_pos trivial ?_))
  exact Ans.some _
theorem sh_int (b c : Int) (d : ByteArray) (l : List S26) (h0 : -9223372036854775808 ≤ c) (h1 : c ≤ 9223372036854775807) : Sh ⟨1, b, c, d, l⟩ ⟨(Lib.itoa c).toArray⟩ := by
  unfold Sh
  refine Ans.succ (fun k => by simp only [show_Expr.f, rd0, rd1]; rfl) ?_
  refine Ans.bind (few_ans 1 0 10 (by kernel_rfl)) ?_
  refine Ans.ite_neg (by omega) ?_
  refine Ans.ite_pos trivial ?_
  exact Ans.of_eq fun _ => by simp only [strconv_FormatInt.f]; rw [if_pos ⟨trivial, h0, h1⟩]; rfl
theorem sh_bool (b c : Int) (d : ByteArray) (l : List S26) : Sh ⟨2, b, c, d, l⟩ (if c = 1 then ⟨#[116, 114, 117, 101]⟩ else ⟨#[102, 97, 108, 115, 101]⟩) := by
  unfold Sh
  refine Ans.succ (fun k => by simp only [show_Expr.f, rd0, rd1]; rfl) ?_
  refine Ans.bind (few_ans 2 0 10 (by kernel_rfl)) ?_
  refine Ans.ite_neg (by omega) ?_
  refine Ans.ite_neg (by omega) (Ans.ite_pos trivial ?_)
  refine Ans.of_eq fun _ => ?_
  unfold strconv_FormatBool_25.f strconv_FormatBool_52.f
  by_cases h : c = 1
  · subst h; rfl
  · rw [if_neg h, if_neg (by simpa using h)]; rfl
theorem sh_neg (b c : Int) (d : ByteArray) (e : S26) (l : List S26) (t : ByteArray) (h : Sh e t) (hs : t.size ≤ 4611686018427387000) : Sh ⟨4, b, c, d, e :: l⟩ ((⟨#[45]⟩ : ByteArray) ++ inn e.f0 t) := by
  unfold Sh
  have hi := inn_size e.f0 t
  refine Ans.succ (fun k => by simp only [show_Expr.f, rd0, rd1]; rfl) ?_
  refine Ans.bind (few_ans 4 1 10 (by kernel_rfl)) ?_
  refine Ans.ite_neg (by simp only [List.length_cons]; omega) ?_
  refine Ans.ite_neg (by omega) (Ans.ite_neg (by omega) (Ans.ite_neg (by omega) (Ans.ite_pos trivial (Ans.ite_pos (by simp only [List.length_cons]; omega) ?_))))
  refine Ans.bind (in_ans h (by omega)) ?_
  exact Ans.ite_pos (by omega) (Ans.some _)
theorem sh_not (b c : Int) (d : ByteArray) (e : S26) (l : List S26) (t : ByteArray) (h : Sh e t) (hs : t.size ≤ 4611686018427387000) : Sh ⟨5, b, c, d, e :: l⟩ ((⟨#[110, 111, 116, 32]⟩ : ByteArray) ++ inn e.f0 t) := by
  unfold Sh
  have hi := inn_size e.f0 t
  refine Ans.succ (fun k => by simp only [show_Expr.f, rd0, rd1]; rfl) ?_
  refine Ans.bind (few_ans 5 1 10 (by kernel_rfl)) ?_
  refine Ans.ite_neg (by simp only [List.length_cons]; omega) ?_
  refine Ans.ite_neg (by omega) (Ans.ite_neg (by omega) (Ans.ite_neg (by omega) (Ans.ite_neg (by omega) (Ans.ite_pos trivial (Ans.ite_pos (by simp only [List.length_cons]; omega) ?_)))))
  refine Ans.bind (in_ans h (by omega)) ?_
  exact Ans.ite_pos (by omega) (Ans.some _)
theorem sh_pre (b c : Int) (d : ByteArray) (e : S26) (l : List S26) (t : ByteArray) (h : Sh e t) (hs : t.size ≤ 4611686018427387000) : Sh ⟨23, b, c, d, e :: l⟩ ((⟨#[112, 114, 101, 32]⟩ : ByteArray) ++ inn e.f0 t) := by
  unfold Sh
  have hi := inn_size e.f0 t
  refine Ans.succ (fun k => by simp only [show_Expr.f, rd0, rd1]; rfl) ?_
  refine Ans.bind (few_ans 23 1 10 (by kernel_rfl)) ?_
  refine Ans.ite_neg (by simp only [List.length_cons]; omega) ?_
  refine Ans.ite_neg (by omega) (Ans.ite_neg (by omega) (Ans.ite_neg (by omega) (Ans.ite_neg (by omega) (Ans.ite_neg (by omega) (Ans.ite_pos trivial (Ans.ite_pos (by simp only [List.length_cons]; omega) ?_))))))
  refine Ans.bind (in_ans h (by omega)) ?_
  exact Ans.ite_pos (by omega) (Ans.some _)
theorem sh_if (b c : Int) (d : ByteArray) (e e2 e3 : S26) (l : List S26) (t t2 t3 : ByteArray) (h : Sh e t) (h2 : Sh e2 t2) (h3 : Sh e3 t3) (hs : t.size ≤ 1000000) (hs2 : t2.size ≤ 1000000) (hs3 : t3.size ≤ 1000000) :
    Sh ⟨20, b, c, d, e :: e2 :: e3 :: l⟩ ((((((⟨#[105, 102, 32]⟩ : ByteArray) ++ inn e.f0 t) ++ (⟨#[32, 116, 104, 101, 110, 32]⟩ : ByteArray)) ++ inn e2.f0 t2) ++ (⟨#[32, 101, 108, 115, 101, 32]⟩ : ByteArray)) ++ inn e3.f0 t3) := by
  unfold Sh
  have hi := inn_size e.f0 t
  have hi2 := inn_size e2.f0 t2
  have hi3 := inn_size e3.f0 t3
  have s3 : (⟨#[105, 102, 32]⟩ : ByteArray).size = 3 := rfl
  have s6 : (⟨#[32, 116, 104, 101, 110, 32]⟩ : ByteArray).size = 6 := rfl
  have s6' : (⟨#[32, 101, 108, 115, 101, 32]⟩ : ByteArray).size = 6 := rfl
  refine Ans.succ (fun k => by simp only [show_Expr.f, rd0, rd1, rd2]; rfl) ?_
  refine Ans.bind (few_ans 20 3 10 (by kernel_rfl)) ?_
  refine Ans.ite_neg (by simp only [List.length_cons]; omega) ?_
  refine Ans.ite_neg (by omega) (Ans.ite_neg (by omega) (Ans.ite_neg (by omega) (Ans.ite_neg (by omega) (Ans.ite_neg (by omega) (Ans.ite_neg (by omega) (Ans.ite_pos trivial (Ans.ite_pos (by simp only [List.length_cons]; omega) ?_)))))))
  refine Ans.bind (in_ans h (by omega)) ?_
  refine Ans.ite_pos (by omega) (Ans.ite_pos (by simp only [ByteArray.size_append, s3]; omega) (Ans.ite_pos (by simp only [List.length_cons]; omega) ?_))
  refine Ans.bind (in_ans h2 (by omega)) ?_
  refine Ans.ite_pos (by simp only [ByteArray.size_append, s3, s6]; omega) (Ans.ite_pos (by simp only [ByteArray.size_append, s3, s6]; omega) (Ans.ite_pos (by simp only [List.length_cons]; omega) ?_))
  refine Ans.bind (in_ans h3 (by omega)) ?_
  exact Ans.ite_pos (by simp only [ByteArray.size_append, s3, s6, s6']; omega) (Ans.some _)
theorem sh_when (b c : Int) (d : ByteArray) (e : S26) (l : List S26) (t : ByteArray) (h : Sh e t) (hs : t.size ≤ 4611686018427387000) (hd : d.size ≤ 1000) :
    Sh ⟨24, b, c, d, e :: l⟩ (inn e.f0 t ++ (if c = 1 then (⟨#[32, 119, 104, 101, 110, 32]⟩ : ByteArray) ++ d else (⟨#[32, 119, 104, 101, 110, 32, 110, 111, 116, 32]⟩ : ByteArray) ++ d)) := by
  unfold Sh
  have hi := inn_size e.f0 t
  have s6 : (⟨#[32, 119, 104, 101, 110, 32]⟩ : ByteArray).size = 6 := rfl
  have s10 : (⟨#[32, 119, 104, 101, 110, 32, 110, 111, 116, 32]⟩ : ByteArray).size = 10 := rfl
  refine Ans.succ (fun k => by simp only [show_Expr.f, rd0, rd1]; rfl) ?_
  refine Ans.bind (few_ans 24 1 10 (by kernel_rfl)) ?_
  refine Ans.ite_neg (by simp only [List.length_cons]; omega) ?_
  refine Ans.ite_neg (by omega) (Ans.ite_neg (by omega) (Ans.ite_neg (by omega) (Ans.ite_neg (by omega) (Ans.ite_neg (by omega) (Ans.ite_neg (by omega) (Ans.ite_neg (by omega) (Ans.ite_pos trivial (Ans.ite_pos (by simp only [List.length_cons]; omega) ?_))))))))
  refine Ans.bind (in_ans h (by omega)) ?_
  by_cases hc : c = 1
  · subst hc
    refine Ans.bind (Ans.of_eq fun _ => show show_side.f d ((1 : Int) == 1) = some ((⟨#[32, 119, 104, 101, 110, 32]⟩ : ByteArray) ++ d) by unfold show_side.f; rw [if_pos (by decide), if_pos (by omega)]) ?_
    rw [if_pos rfl]
    exact Ans.ite_pos (by rw [ByteArray.size_append, s6]; omega) (Ans.some _)
  · refine Ans.bind (Ans.of_eq fun _ => show show_side.f d (c == 1) = some ((⟨#[32, 119, 104, 101, 110, 32, 110, 111, 116, 32]⟩ : ByteArray) ++ d) by unfold show_side.f; rw [if_neg (by simpa using hc), if_pos (by omega)]) ?_
    rw [if_neg hc]
    exact Ans.ite_pos (by rw [ByteArray.size_append, s10]; omega) (Ans.some _)
theorem sh_merge (b c : Int) (d : ByteArray) (e e2 : S26) (l : List S26) (t t2 : ByteArray) (h : Sh e t) (h2 : Sh e2 t2) (hs : t.size ≤ 1000000) (hs2 : t2.size ≤ 1000000) (hd : d.size ≤ 1000) :
    Sh ⟨25, b, c, d, e :: e2 :: l⟩ (((((((⟨#[109, 101, 114, 103, 101, 40]⟩ : ByteArray) ++ d) ++ (⟨#[44, 32]⟩ : ByteArray)) ++ t) ++ (⟨#[44, 32]⟩ : ByteArray)) ++ t2) ++ (⟨#[41]⟩ : ByteArray)) := by
  unfold Sh
  have s6 : (⟨#[109, 101, 114, 103, 101, 40]⟩ : ByteArray).size = 6 := rfl
  have s2 : (⟨#[44, 32]⟩ : ByteArray).size = 2 := rfl
  refine Ans.succ (fun k => by simp only [show_Expr.f, rd0, rd1]; rfl) ?_
  refine Ans.bind (few_ans 25 2 10 (by kernel_rfl)) ?_
  refine Ans.ite_neg (by simp only [List.length_cons]; omega) ?_
  refine Ans.ite_neg (by omega) (Ans.ite_neg (by omega) (Ans.ite_neg (by omega) (Ans.ite_neg (by omega) (Ans.ite_neg (by omega) (Ans.ite_neg (by omega) (Ans.ite_neg (by omega) (Ans.ite_neg (by omega) (Ans.ite_pos trivial ?_))))))))
  refine Ans.ite_pos (by omega) (Ans.ite_pos (by rw [ByteArray.size_append, s6]; omega) (Ans.ite_pos (by simp only [List.length_cons]; omega) ?_))
  refine Ans.bind h ?_
  refine Ans.ite_pos (by simp only [ByteArray.size_append, s6, s2]; omega) (Ans.ite_pos (by simp only [ByteArray.size_append, s6, s2]; omega) (Ans.ite_pos (by simp only [List.length_cons]; omega) ?_))
  refine Ans.bind h2 ?_
  exact Ans.ite_pos (by simp only [ByteArray.size_append, s6, s2]; omega) (Ans.ite_pos (by simp only [ByteArray.size_append, s6, s2]; omega) (Ans.some _))
/-- An operator of two, that is none of the others. -/
theorem sh_two (op b c : Int) (d : ByteArray) (e e2 : S26) (l : List S26) (t t2 g : ByteArray) (h : Sh e t) (h2 : Sh e2 t2) (hs : t.size ≤ 1000000) (hs2 : t2.size ≤ 1000000) (hf : Ans (fun k => show_few.f k op) 2) (hg : Ans (fun k => show_Sign.f k op) g) (hgs : g.size ≤ 1000)
    (hn : op ≠ 1 ∧ op ≠ 2 ∧ op ≠ 3 ∧ op ≠ 4 ∧ op ≠ 5 ∧ op ≠ 23 ∧ op ≠ 20 ∧ op ≠ 24 ∧ op ≠ 25) :
    Sh ⟨op, b, c, d, e :: e2 :: l⟩ ((((inn e.f0 t ++ (⟨#[32]⟩ : ByteArray)) ++ g) ++ (⟨#[32]⟩ : ByteArray)) ++ inn e2.f0 t2) := by
  unfold Sh
  obtain ⟨n1, n2, n3, n4, n5, n6, n7, n8, n9⟩ := hn
  have hi := inn_size e.f0 t
  have hi2 := inn_size e2.f0 t2
  refine Ans.succ (fun k => by simp only [show_Expr.f, rd0, rd1]; rfl) ?_
  refine Ans.bind hf ?_
  refine Ans.ite_neg (by simp only [List.length_cons]; omega) ?_
  refine Ans.ite_neg n1 (Ans.ite_neg n2 (Ans.ite_neg n3 (Ans.ite_neg n4 (Ans.ite_neg n5 (Ans.ite_neg n6 (Ans.ite_neg n7 (Ans.ite_neg n8 (Ans.ite_neg n9 (Ans.ite_pos (by simp only [List.length_cons]; omega) ?_)))))))))
  refine Ans.bind (in_ans h (by omega)) ?_
  refine Ans.ite_pos (by omega) ?_
  refine Ans.bind hg ?_
  refine Ans.ite_pos (by simp only [ByteArray.size_append, size1]; omega) (Ans.ite_pos (by simp only [ByteArray.size_append, size1]; omega) (Ans.ite_pos (by simp only [List.length_cons]; omega) ?_))
  refine Ans.bind (in_ans h2 (by omega)) ?_
  exact Ans.ite_pos (by simp only [ByteArray.size_append, size1]; omega) (Ans.some _)
end Go.Proofs.YtgmnklfbmbahcaaDoor.TShowFormsA

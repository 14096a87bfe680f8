/- CodeLoads, in plain words: what is linked is loaded again, linked again the same. By this session. -/
import Derived.Test.YthllmcijlhlimaaGreatDoorCodeLoadsY
namespace Go.Proofs.YthllmcijlhlimaaGreatDoor.Pure
open Go Go.Proofs.YthllmcijlhlimaaGreatDoor.Cm
open Classical
set_option linter.unusedVariables false
set_option linter.unusedSimpArgs false
set_option maxRecDepth 100000
theorem Objects_at {n : Nat} (l : List ObjT) (hn : 2000 + l.length ≤ n) (hbig : l.length < 4611686018427387900) : ∃ b, world_Objects n ((l, ()), ()) = some ((b, ()), ()) ∧ (b = true → l.length ≤ 8 ∧ ∀ o ∈ l, ObjOk o.1 o.2.1 o.2.2.1 o.2.2.2.1 o.2.2.2.2.1 o.2.2.2.2.2.1 o.2.2.2.2.2.2) := by
  obtain ⟨n, rfl⟩ : ∃ m, n = m + 1 := ⟨n - 1, by omega⟩
  have a := for_inv (F := world_Objects_l2 n) (len := l.length) (st := fun i => ((l, (i : Int), ()), ())) (fun i => ∀ o ∈ l.take i, ObjOk o.1 o.2.1 o.2.2.1 o.2.2.2.1 o.2.2.2.2.1 o.2.2.2.2.2.1 o.2.2.2.2.2.2) (fun r => (r = some (.inl ((l, ()), ())) ∧ ∀ o ∈ l, ObjOk o.1 o.2.1 o.2.2.1 o.2.2.2.1 o.2.2.2.2.1 o.2.2.2.2.2.1 o.2.2.2.2.2.2) ∨ r = some (.inr (.inl ((false, ()), ())))) (by simp) (fun i k hi hI => by
    simp only [world_Objects_l2]
    rw [if_pos (decide_eq_true (show (i : Int) < (l.length : Int) by omega)), if_pos (show 0 ≤ (i : Int) ∧ (i : Int) < (l.length : Int) from ⟨by omega, by omega⟩), rdT_nat]
    generalize ho : (l.getD i (Ty.dflt ty0) : ObjT) = o
    obtain ⟨b, hb, hb2⟩ := object_at (n := n) (by omega) o.1 o.2.1 o.2.2.1 o.2.2.2.1 o.2.2.2.2.1 o.2.2.2.2.2.1 o.2.2.2.2.2.2
    rw [hb]
    cases b with
    | false => exact .inr (.inr rfl)
    | true =>
      refine .inl ⟨?_, by rw [w64_up i (by omega)]; rfl⟩
      intro c hc
      rw [take_succ l i hi (Ty.dflt ty0)] at hc
      rcases List.mem_append.1 hc with hc | hc
      · exact hI c hc
      · rw [List.mem_singleton.1 hc, show l.getD i (Ty.dflt ty0) = o from ho]; exact hb2 rfl) (fun k hI => by
    rw [List.take_length] at hI
    refine .inl ⟨?_, hI⟩
    simp only [world_Objects_l2]
    rw [if_neg (by simp)]) n (by omega)
  simp only [world_Objects]
  rw [show (0 : Int) = ((0 : Nat) : Int) from rfl]
  rcases a with ⟨a, h⟩ | a
  · rw [a]
    refine ⟨_, rfl, fun hb => ⟨?_, h⟩⟩
    have := of_decide_eq_true hb
    omega
  · rw [a]
    exact ⟨_, rfl, fun h => by cases h⟩
theorem rises {n k : Nat} (x1 x4 : ByteArray) (x2 : List ObjT) (x3 : Int) (l7 : List Int) {out : List ObjT} (h : Rising (out.map (·.1))) (hk : out.length < k) (hl : out.length < 1000) (h0 : 0 < out.length) :
    law21_CodeLoads_l13 n k ((x1, x2, x3, (), x4, out, 1, ()), (l7, ())) = some (.inl ((x1, x2, x3, (), x4, out, ()), (l7, ()))) := by
  have a := for_all (F := law21_CodeLoads_l13 n) (len := out.length - 1) (fun i => ((x1, x2, x3, (), x4, out, ((i + 1 : Nat) : Int), ()), (l7, ()))) (r := some (.inl ((x1, x2, x3, (), x4, out, ()), (l7, ())))) (fun i k hi => by
    have hlt : strLt ((out.getD i (Ty.dflt ty0)) : ObjT).1 ((out.getD (i + 1) (Ty.dflt ty0)) : ObjT).1 = true := by
      have := List.pairwise_iff_getElem.1 h i (i + 1) (by simp; omega) (by simp; omega) (by omega)
      rw [List.getD_eq_getElem?_getD, List.getD_eq_getElem?_getD, List.getElem?_eq_getElem (show i < out.length by omega), List.getElem?_eq_getElem (show i + 1 < out.length by omega)]
      simpa using this
    have hw : IntKind.i64.wrap (((i + 1 : Nat) : Int) - 1) = (i : Int) := by rw [w64_id (by omega) (by omega)]; omega
    simp only [law21_CodeLoads_l13]
    rw [if_pos (decide_eq_true (show ((i + 1 : Nat) : Int) < (out.length : Int) by omega)), hw, if_pos (show 0 ≤ (i : Int) ∧ (i : Int) < (out.length : Int) from ⟨by omega, by omega⟩), if_pos (show 0 ≤ ((i + 1 : Nat) : Int) ∧ ((i + 1 : Nat) : Int) < (out.length : Int) from ⟨by omega, by omega⟩), rdT_nat, rdT_nat, show strLt (out.getD i (Ty.dflt ty0)).1 (out.getD (i + 1) (Ty.dflt ty0)).1 = true from hlt, if_neg (by decide), w64_up (i + 1) (by omega)]) (fun k => by
    simp only [law21_CodeLoads_l13]
    rw [if_neg (by simp; omega)]) (k := k) (by omega)
  exact a
theorem turned {n : Nat} (x1 : ByteArray) (x3 : Int) (x4 : List Int) (x5 : ErrV) (l7 : List Int) (l : List ObjT) (hl : l.length < 1000) : ∀ (q : Nat) (acc : List ObjT) (k : Nat), q ≤ l.length → q < k → acc.length + q < 10000 →
    law21_CodeLoads_l20 n k ((x1, l, x3, x4, (), x5, (), (q : Int) - 1, ()), (l7, acc, ())) = some (.inl ((x1, x3, x4, (), x5, (), ()), (l7, acc ++ (l.take q).reverse, ()))) := by
  intro q
  induction q with
  | zero =>
    intro acc k _ hk _
    obtain ⟨k, rfl⟩ : ∃ m, k = m + 1 := ⟨k - 1, by omega⟩
    simp only [law21_CodeLoads_l20]
    rw [if_neg (by simp)]
    simp
  | succ q ih =>
    intro acc k hq hk ha
    obtain ⟨k, rfl⟩ : ∃ m, k = m + 1 := ⟨k - 1, by omega⟩
    rw [show ((q + 1 : Nat) : Int) - 1 = (q : Int) by omega]
    simp only [law21_CodeLoads_l20]
    rw [if_pos (decide_eq_true (show (q : Int) ≥ 0 by omega)), if_pos (show 0 ≤ (q : Int) ∧ (q : Int) < (l.length : Int) from ⟨by omega, by omega⟩), rdT_nat, if_pos (by simp only [List.length_cons, List.length_nil]; omega), show IntKind.i64.wrap ((q : Int) - 1) = (q : Int) - 1 from w64_id (by omega) (by omega)]
    rw [ih _ k (by omega) (by omega) (by simp; omega), take_succ l q (by omega) (Ty.dflt ty0), List.reverse_append, List.append_assoc]
    rfl
theorem Bytes_at {n : Nat} (l : List Int) (hn : 10 + l.length ≤ n) (hl : l.length < 100000000) : ref_Bytes n ((l, ()), ()) = some (((), ()), (l, ())) := by
  obtain ⟨n, rfl⟩ : ∃ m, n = m + 1 := ⟨n - 1, by omega⟩
  have h := for_all (F := ref_Bytes_l3 n) (len := l.length) (fun i => ((l, (), (i : Int), ()), (l.take i, ()))) (r := some (.inl (((), ()), (l, ())))) (fun i k hi => by
    simp only [ref_Bytes_l3]
    rw [if_pos (decide_eq_true (show (i : Int) < (l.length : Int) by omega)), if_pos (show 0 ≤ (i : Int) ∧ (i : Int) < (l.length : Int) from ⟨by omega, by omega⟩), if_pos (by simp only [List.length_take, List.length_cons, List.length_nil]; omega), w64_up i (by omega), take_succ l i hi (Ty.dflt (.int .u8)), rdT_nat]) (fun k => by
    simp only [ref_Bytes_l3]
    rw [if_neg (by simp), List.take_length]) (k := n) (by omega)
  simp only [ref_Bytes]
  rw [if_pos ⟨by omega, by omega, by omega, by omega⟩]
  have e0 : ref_Bytes_l3 n n ((l, (), 0, ()), (List.replicate (0 : Int).toNat 0, ())) = some (.inl (((), ()), (l, ()))) := h
  rw [e0]
theorem linkE_len {l : List ObjT} (hO : ∀ o ∈ l, OneOk o) {root : ByteArray} (hr : root.size ≤ 60) {N : SL} (hN : Names l root N) (hNl : N.length ≤ 8) : (linkE l root N).length ≤ 8000000 := by
  have h1 := txt_len root
  have h2 := (enc_len (N.length : Int)).2
  have h3 := flat_len (fun s => oE (ob l s)) 900000 N (fun s hs => oE_len (hO _ (ob_in (hN.k s hs)).1))
  simp only [linkE, List.length_append]
  omega
theorem linkE_pos (l : List ObjT) (root : ByteArray) (N : SL) : 0 < (linkE l root N).length := by
  have := (enc_len root.size).1
  simp only [linkE, txt, List.length_append]
  omega
theorem Load_at {n : Nat} (hn : 9000 < n) {l : List ObjT} (hO : ∀ o ∈ l, OneOk o) {root : ByteArray} (hr : root.size ≤ 60) {N : SL} (hN : Names l root N) (hNl : N.length ≤ 8) (hF : ∀ s ∈ N, OFit (ob l s)) (r : List Int) (hrl : r.length ≤ 1) :
    (0 < r.length → code_Load (n + 1) (((), ()), (linkE l root N ++ r, ())) = some (((((⟨#[]⟩ : ByteArray), ()), ([], ()), (ErrV.at_ ((linkE l root N).length : Int) (ErrV.sent 102), ()), ()), ()), (linkE l root N ++ r, ()))) ∧
    (r = [] → (∃ slots, lay_Of n ((root, N.map (ob l), ()), ()) = some (((((), ()), (ErrV.nil, ()), ()), ()), (slots, ()))) → lay_Uses n ((root, N.map (ob l), ()), ()) = some (((((), ()), (ErrV.nil, ()), ()), ()), (N, ())) → code_Load (n + 1) (((), ()), (linkE l root N ++ r, ())) = some ((((root, ()), (N.map (ob l), ()), (ErrV.nil, ()), ()), ()), (linkE l root N ++ r, ()))) := by
  have hlen := linkE_len hO hr hN hNl
  have hb : (linkE l root N ++ r).length < 1000000000 := by simp only [List.length_append]; omega
  generalize hE : linkE l root N = E at hlen hb ⊢
  have g : G (some E.length) (E ++ r) 0 .nil (linkE l root N ++ []) := ⟨by omega, .inr ⟨rfl, by rw [hE]; simp, r, by rw [hE]; simp⟩⟩
  obtain ⟨r1, a1, e1, v, a2, e2, r2, out, bad, a', e', h1, h2, h3, -, g3, v3⟩ := load_body hn hb hO hr hN hNl hF (E ++ r) g
  have h0 : e' = .nil ∧ a' = E.length := by
    rcases g3.2 with ⟨h, -⟩ | ⟨h, h3, -⟩
    · cases h
    · exact ⟨h, by simpa using h3⟩
  obtain ⟨rfl, rfl⟩ := h0
  obtain ⟨rfl, rfl, rfl⟩ := v3 rfl
  have hL := Left_at (n := n) (by omega) hb g3.1 .nil
  have hl2 : (E ++ r).length - E.length = r.length := by simp
  rw [hl2] at hL
  refine ⟨fun hpos => ?_, fun hr0 hOf hU => ?_⟩
  · simp only [code_Load, new_at (n := n) (by omega) (E ++ r) hb, h1, h2, h3, Err_at (show 1 ≤ n by omega), hL]
    rw [if_neg (by decide), if_pos (decide_eq_true (show ((r.length : Nat) : Int) > 0 by omega)), At_at (by omega)]
  · obtain ⟨slots, hOf⟩ := hOf
    simp only [code_Load, new_at (n := n) (by omega) (E ++ r) hb, h1, h2, h3, Err_at (show 1 ≤ n by omega), hL]
    rw [if_neg (by decide), if_neg (by rw [hr0]; decide), if_neg (by decide), hOf]
    simp only []
    rw [if_neg (by decide), hU]
    simp only []
    rw [if_neg (by decide), if_neg (by simp)]
theorem Load_cut {n : Nat} (hn : 9000 < n) {l : List ObjT} (hO : ∀ o ∈ l, OneOk o) {root : ByteArray} (hr : root.size ≤ 60) {N : SL} (hN : Names l root N) (hNl : N.length ≤ 8) (hF : ∀ s ∈ N, OFit (ob l s)) {i : Nat} (hi : i < (linkE l root N).length) :
    ∃ e, errNil e = false ∧ code_Load_2 (n + 1) (((linkE l root N).take i, ()), ()) = some (((((⟨#[]⟩ : ByteArray), ()), ([], ()), (e, ()), ()), ()), ()) := by
  have hlen := linkE_len hO hr hN hNl
  have hb : ((linkE l root N).take i).length < 1000000000 := by rw [List.length_take]; omega
  have g : G none ((linkE l root N).take i) 0 .nil (linkE l root N ++ []) := ⟨by omega, .inr ⟨rfl, i, by simpa using hi, by simp⟩⟩
  obtain ⟨r1, a1, e1, v, a2, e2, r2, out, bad, a', e', h1, h2, -, h3, g3, v3⟩ := load_body hn hb hO hr hN hNl hF [] g
  have h0 : errNil e' = false := by
    rcases g3.2 with ⟨-, h⟩ | ⟨-, j, h, -⟩
    · exact h
    · simp at h
  refine ⟨e', h0, ?_⟩
  simp only [code_Load_2, new2_at (n := n) (by omega) _ hb, h1, h2, h3, Err_at (show 1 ≤ n by omega)]
  rw [if_pos (by rw [h0]; rfl)]
abbrev tyO : Ty := .pair .str (.pair ty2 (.pair ty2 (.pair (.int .i64) (.pair ty6 (.pair ty10 ty12)))))
theorem good_obj {a : tyO.T} (h : Cm.Good Cm.P tyO a) :
    ObjGood a.2.1 a.2.2.1 a.2.2.2.1 a.2.2.2.2.1 a.2.2.2.2.2.2 := by
  obtain ⟨-, h2, h3, h4, h5, h6, h7⟩ := h
  refine ⟨fun z hz => lit_i64 (h2.2 z hz), fun z hz => lit_i64 (h3.2 z hz), lit_i64 h4, fun c hc => ?_, fun c hc => ?_⟩
  · obtain ⟨-, k1, k2⟩ := h5.2 c hc
    exact ⟨lit_i64 k1, lit_i64 k2⟩
  · obtain ⟨k1, k2, k3, k4, k5, k6⟩ := h7.2 c hc
    exact ⟨lit_i64 k1, lit_i64 k2, lit_i64 k3, lit_i64 k4, lit_i64 k5, lit_i64 k6⟩
theorem like_names {l : List ObjT} {root : ByteArray} {N : SL} (hN : Names l root N) (hNl : N.length ≤ 8) : Like l N (N.map (ob l)) := by
  have hk : keys (objs (N.map (ob l))) = N := by
    rw [objs_keys, List.map_map]
    conv => rhs; rw [← List.map_id N]
    exact List.map_congr_left fun s hs => (ob_in (hN.k s hs)).2
  have hnd : (keys (objs (N.map (ob l)))).Nodup := by rw [hk]; exact rising_nodup hN.up
  refine ⟨by simpa using hNl, hnd, fun s hs => ?_⟩
  have h1 := mf_of hnd (List.mem_map.2 ⟨s, hs, rfl⟩)
  rw [(ob_in (hN.k s hs)).2] at h1
  rw [h1, mf_some (hN.k s hs)]
theorem like_turned {l : List ObjT} {root : ByteArray} {N : SL} (hN : Names l root N) (hl : l.length ≤ 8) : Like l N l.reverse := by
  have hnd : (keys (objs l.reverse)).Nodup := by
    rw [objs_keys, List.map_reverse]
    have := hN.nd
    rw [objs_keys] at this
    exact (List.reverse_perm _).nodup_iff.2 this
  refine ⟨by simpa using hl, hnd, fun s hs => ?_⟩
  have ho := ob_in (hN.k s hs)
  have h1 := mf_of hnd (List.mem_reverse.2 ho.1)
  rw [ho.2] at h1
  rw [h1, mf_some (hN.k s hs)]
theorem CodeLoads : law21_CodeLoads.Pure := by
  intro root l cut gr gl gc
  refine ⟨(100000000 + List.length (α := ObjT) l + 1) + 1, ?_⟩
  have hsz : List.length (α := ObjT) l * Cm.P.bytesOf 37 ≤ 140737488351232 := gl.1
  rw [show Cm.P.bytesOf 37 = 144 by kernel_rfl] at hsz
  have gl : ∀ o : ObjT, o ∈ (l : List ObjT) → ObjGood o.2.1 o.2.2.1 o.2.2.2.1 o.2.2.2.2.1 o.2.2.2.2.2.2 := fun o ho => good_obj (gl.2 o ho)
  generalize hn : 100000000 + List.length (α := ObjT) l = n
  have hn1 : 100000000 ≤ n := by omega
  obtain ⟨p, hp, op⟩ := Objects_at (n := n + 1) l (by omega) (by omega)
  simp only [law21_CodeLoads, first_at (n := n + 1) (by omega), hp]
  rw [if_neg (by simp)]
  cases p with
  | false => rfl
  | true =>
    rw [if_neg (by simp)]
    by_cases hrl : (root.size : Int) > 60
    · rw [if_pos (decide_eq_true hrl)]
    · rw [if_neg (by simpa using hrl), if_neg (by simp)]
      obtain ⟨hl, op⟩ := op rfl
      have hO : ∀ o : ObjT, o ∈ (l : List ObjT) → OneOk o := fun o ho => ⟨op o ho, gl o ho⟩
      have hr : root.size ≤ 60 := by omega
      rcases Link_at (n := n) (by omega) hO hl root hr with ⟨e, he, h⟩ | ⟨N, hN, hF, h⟩
      · rw [h]
        simp only []
        rw [he, if_pos (by decide)]
        rfl
      · have hNl : N.length ≤ 8 := Nat.le_trans hN.len hl
        have hself := h l ⟨hl, hN.nd, fun s _ => rfl⟩
        have hnames := h _ (like_names hN hNl)
        have hturned := h _ (like_turned hN hl)
        have hlen := linkE_len hO hr hN hNl
        have hpos := linkE_pos l root N
        have hLoad := (Load_at (n := n) (by omega) hO hr hN hNl hF [] (by simp)).2 rfl hnames.2.2.1 hnames.2.2.2
        have hLoad0 := (Load_at (n := n) (by omega) hO hr hN hNl hF [0] (by simp)).1 (by simp)
        rw [List.append_nil] at hLoad
        obtain ⟨i, hi, hnum⟩ := num_nat cut (m := ((linkE l root N).length : Int)) (by omega)
        obtain ⟨e2, he2, hcut⟩ := Load_cut (n := n) (by omega) hO hr hN hNl hF (i := i) (by omega)
        have hN0 : 0 < N.length := List.length_pos_of_mem hN.rt
        rw [hself.1]
        simp only []
        rw [if_neg (by decide), hLoad]
        simp only []
        rw [if_neg (by decide), strEq_iff, decide_eq_true rfl, if_neg (by decide), if_neg (by simp; intro h; rw [h] at hN0; cases hN0)]
        have hris : Rising ((N.map (ob l)).map (·.1)) := by
          have : (N.map (ob l)).map (·.1) = N := by
            rw [List.map_map]
            conv => rhs; rw [← List.map_id N]
            exact List.map_congr_left fun s hs => (ob_in (hN.k s hs)).2
          rw [this]; exact hN.up
        rw [rises root root l cut (linkE l root N) hris (by simp; omega) (by simp; omega) (by simpa using hN0)]
        simp only []
        rw [hnames.1]
        simp only []
        rw [show IntKind.i64.wrap ((List.length (α := ObjT) l : Int) - 1) = (List.length (α := ObjT) l : Int) - 1 from w64_id (by omega) (by omega)]
        rw [turned root cut (linkE l root N) .nil (linkE l root N) l (by omega) (List.length (α := ObjT) l) [] (n + 1) (by omega) (by omega) (by simp; omega)]
        simp only []
        rw [List.take_length, List.nil_append, hturned.2.1]
        simp only []
        rw [Number_at (by omega) cut (by omega) (by omega), hnum]
        simp only []
        rw [if_pos (show 0 ≤ (i : Int) ∧ (i : Int) ≤ ((linkE l root N).length : Int) from ⟨by omega, by omega⟩)]
        have ec : cutL (linkE l root N) 0 (i : Int) = (linkE l root N).take i := by simp [cutL]
        rw [ec, hcut]
        simp only []
        rw [Bytes_at _ (by omega) (by omega)]
        simp only []
        rw [if_pos (by simp only [List.length_cons, List.length_nil]; omega), hLoad0]
        simp only []
        rw [if_pos (by decide), if_pos (by decide), SameBytes_at _ _ (by omega) (by omega), decide_eq_true rfl]
        simp only []
        rw [if_pos trivial, if_pos trivial, he2, if_pos (by decide)]
        have hP : ref_Placed (n + 1) ((102, ((linkE l root N).length : Int), ()), ()) = some (((102, true, false, ((linkE l root N).length : Int), 0, ()), ()), ()) := by
          simp only [ref_Placed]
          rw [if_neg (by decide)]
        rw [hP]
        simp only []
        rw [same_fault (by omega)]
end Go.Proofs.YthllmcijlhlimaaGreatDoor.Pure

/- The library's stable sort, by the second form: the whole. -/
import Derived.Test.YtapdcejhfooahaaL7
namespace Go.Proofs.Ytapdcejhfooahaa
set_option linter.unusedVariables false
set_option linter.unusedSimpArgs false
open Go.RowKit Ev Hu

section
variable (lf g cap pw N : Nat) (ws : List Int) (hlf : 3000000 ≤ lf) (hNb : N ≤ 1000000) (d n : Nat) (h : H) (xs : List Nat) (hN : xs.length = N) (hE : EnvT h n g pw ws) (hg : g < n) (hin : ∀ z ∈ xs, z < ws.length)
variable {W : Nat → Prop} {n0 : Nat} (hn0 : n0 ≤ n) (hW : n0 ≤ g ∨ W g) {R : Value → H → Nat → Prop} (k : Ex → Fr → M Value)
/-- an insertion of a stretch that may be empty -/
theorem s_ins' (pre seg post : List Nat) (a b : Int) (hN' : (pre ++ seg ++ post).length = N) (ha : a = (pre.length : Nat)) (hb : b = ((pre.length + seg.length : Nat) : Int)) (hin' : ∀ z ∈ seg, z < ws.length) (hst : seg.Pairwise (fun a b => a < b)) (hh : h.get g = some ⟨3, true, nats (pre ++ seg ++ post)⟩) (hlf : 3000000 ≤ lf) (hNb : N ≤ 1000000) (hE : EnvT h n g pw ws) (hg : g < n) :
    Run (fun x => x = g) n (evCall2 Try.prog gt lf (d + 4) 38 #[.slice (some ⟨g, 0, none⟩) N cap, .int .i64 a, .int .i64 b, FT pw]) h n fun v h' n' => n' = n ∧ ∃ D, D.Perm seg ∧ D.Pairwise (RI (keyW ws)) ∧ At h h' g (pre ++ D ++ post) := by
  by_cases h1 : 1 ≤ seg.length
  · exact s_ins lf d g n cap pw ws h pre seg post N (by omega) hN' hNb h1 hE hg hh hin' hst a b ha hb
  · have h0 : seg = [] := List.eq_nil_of_length_eq_zero (by omega)
    subst h0
    subst ha hb
    have hpl : pre.length ≤ N := by rw [← hN']; simp
    rw [sh_slices_insertionSortCmpFunc_int]
    refine Run.inside_ ?_
    unfold b_slices_insertionSortCmpFunc_int FT
    have aux : ∀ fu, 0 < fu → Run (fun x => x = g) n (lpA_slices_insertionSortCmpFunc_int lf (d + 3) fu (kcA_slices_insertionSortCmpFunc_int lf (d + 3)) (.slice (some ⟨g, 0, none⟩) N cap) (.int .i64 (pre.length : Nat)) (.int .i64 (pre.length : Nat)) (.func (.func 34) #[] #[.pointer (some ⟨pw, 0, none⟩)]) (.int .i64 ((pre.length : Nat) + 1 : Int))) h n fun v h' n' => n' = n ∧ ∃ D, D.Perm [] ∧ D.Pairwise (RI (keyW ws)) ∧ At h h' g (pre ++ D ++ post) := by
      intro fu hfu
      obtain ⟨f, rfl⟩ : ∃ f, fu = f + 1 := ⟨fu - 1, by omega⟩
      have e2 : ¬ ((pre.length : Nat) : Int) + 1 < ((pre.length : Nat) : Int) := by omega
      rw [succA_slices_insertionSortCmpFunc_int]
      try simp (disch := first | omega | assumption | exact one_int _ _ | exact one_slice _ _ _ | exact one_ptr _ | exact one_bool _ | exact one_string _) only [optK_some_eq, nil2_ptr, ifV_true, ifV_false, run_if, run_out0, run_out1, run_out2, run_out3, optG_some, one_int, one_bool, one_string, one_slice, one_ptr, min2_eq, max2_eq, pick2_eq, u_not, u_neg, cells_agg, inside_ret, chk_true, get_eq, get_ne, List.getElem?_cons_zero, List.getElem?_cons_succ, List.set_cons_zero, List.set_cons_succ, List.length_cons, List.length_nil, Int.toNat_natCast, Int.toNat_zero, Nat.zero_add, Nat.add_zero, decide_eq_true_eq, decide_eq_false_iff_not, true_and, and_true, if_true, if_false, true_or, or_true, Bool.false_eq_true, Bool.true_eq_false, Nat.reduceAdd, Nat.reduceLT, wrap_id, wrap_succ, wrap_pred, len22, bgtr3, bleq3, blss3, beql24, beql3, ix22, ldr3, badd3, bneq3, bneq24, bmul3, str3, bsub3, bshl3, bquo3, bd36x0x1x2, len34, ix34, fa36f2, ldr22, fa36f0, fa46f0, bgeq3, fa46f1, beql22s, beql22n, bd46x0x3, fa46f2, str22, fa46f3, fa36f1, cv3x54, bshr54, cv54x3, e2]
      rw [kcAa_slices_insertionSortCmpFunc_int]
      try simp (disch := first | omega | assumption | exact one_int _ _ | exact one_slice _ _ _ | exact one_ptr _ | exact one_bool _ | exact one_string _) only [optK_some_eq, nil2_ptr, ifV_true, ifV_false, run_if, run_out0, run_out1, run_out2, run_out3, optG_some, one_int, one_bool, one_string, one_slice, one_ptr, min2_eq, max2_eq, pick2_eq, u_not, u_neg, cells_agg, inside_ret, chk_true, get_eq, get_ne, List.getElem?_cons_zero, List.getElem?_cons_succ, List.set_cons_zero, List.set_cons_succ, List.length_cons, List.length_nil, Int.toNat_natCast, Int.toNat_zero, Nat.zero_add, Nat.add_zero, decide_eq_true_eq, decide_eq_false_iff_not, true_and, and_true, if_true, if_false, true_or, or_true, Bool.false_eq_true, Bool.true_eq_false, Nat.reduceAdd, Nat.reduceLT, wrap_id, wrap_succ, wrap_pred, len22, bgtr3, bleq3, blss3, beql24, beql3, ix22, ldr3, badd3, bneq3, bneq24, bmul3, str3, bsub3, bshl3, bquo3, bd36x0x1x2, len34, ix34, fa36f2, ldr22, fa36f0, fa46f0, bgeq3, fa46f1, beql22s, beql22n, bd46x0x3, fa46f2, str22, fa46f3, fa36f1, cv3x54, bshr54, cv54x3]
      exact ⟨[], List.Perm.refl _, List.Pairwise.nil, hh, fun b hb => rfl⟩
    try simp (disch := first | omega | assumption | exact one_int _ _ | exact one_slice _ _ _ | exact one_ptr _ | exact one_bool _ | exact one_string _) only [optK_some_eq, nil2_ptr, ifV_true, ifV_false, run_if, run_out0, run_out1, run_out2, run_out3, optG_some, one_int, one_bool, one_string, one_slice, one_ptr, min2_eq, max2_eq, pick2_eq, u_not, u_neg, cells_agg, inside_ret, chk_true, get_eq, get_ne, List.getElem?_cons_zero, List.getElem?_cons_succ, List.set_cons_zero, List.set_cons_succ, List.length_cons, List.length_nil, Int.toNat_natCast, Int.toNat_zero, Nat.zero_add, Nat.add_zero, decide_eq_true_eq, decide_eq_false_iff_not, true_and, and_true, if_true, if_false, true_or, or_true, Bool.false_eq_true, Bool.true_eq_false, Nat.reduceAdd, Nat.reduceLT, wrap_id, wrap_succ, wrap_pred, len22, bgtr3, bleq3, blss3, beql24, beql3, ix22, ldr3, badd3, bneq3, bneq24, bmul3, str3, bsub3, bshl3, bquo3, bd36x0x1x2, len34, ix34, fa36f2, ldr22, fa36f0, fa46f0, bgeq3, fa46f1, beql22s, beql22n, bd46x0x3, fa46f2, str22, fa46f3, fa36f1, cv3x54, bshr54, cv54x3]
    exact aux lf (by omega)

include hlf hNb hN hE hg hin hn0 hW
/-- runs of twenty -/
theorem stA (hK : ∀ hr t U V (a8 : Int) y13, V.length < 20 → St1 (keyW ws) xs t U V → a8 = ((U.length + 20 : Nat) : Int) → At h hr g (U ++ V) → Run W n0 (k (Ex.exit 0) [(0, .slice (some ⟨g, 0, none⟩) N cap), (1, .int .i64 (N : Nat)), (2, FT pw), (6, .int .i64 20), (7, .int .i64 (U.length : Nat)), (8, .int .i64 a8), (13, y13)]) hr n R) :
    ∀ (m : Nat) (U V : List Nat) (t fu : Nat) (hr : H) (a8 : Int), V.length ≤ m → m < fu → St1 (keyW ws) xs t U V → a8 = ((U.length + 20 : Nat) : Int) → At h hr g (U ++ V) →
      Run W n0 (lpA_slices_stableCmpFunc_int lf (d + 4) fu k (.slice (some ⟨g, 0, none⟩) N cap) (.int .i64 (N : Nat)) (FT pw) (.int .i64 20) (.int .i64 (U.length : Nat)) (.int .i64 a8)) hr n R := by
  intro m
  induction m with
  | zero =>
    intro U V t fu hr a8 hV hfu hS ha hA
    obtain ⟨fu, rfl⟩ : ∃ f, fu = f + 1 := ⟨fu - 1, by omega⟩
    have lU := hS.2.2.2.2.length_eq
    simp only [List.length_append] at lU
    rw [succA_slices_stableCmpFunc_int]
    have e1 : ¬ a8 ≤ ((N : Nat) : Int) := by omega
    try simp (disch := first | omega | assumption | exact one_int _ _ | exact one_slice _ _ _ | exact one_ptr _ | exact one_bool _ | exact one_string _) only [optK_some_eq, nil2_ptr, ifV_true, ifV_false, run_if, run_out0, run_out1, run_out2, run_out3, optG_some, one_int, one_bool, one_string, one_slice, one_ptr, min2_eq, max2_eq, pick2_eq, u_not, u_neg, cells_agg, inside_ret, chk_true, get_eq, get_ne, List.getElem?_cons_zero, List.getElem?_cons_succ, List.set_cons_zero, List.set_cons_succ, List.length_cons, List.length_nil, Int.toNat_natCast, Int.toNat_zero, Nat.zero_add, Nat.add_zero, decide_eq_true_eq, decide_eq_false_iff_not, true_and, and_true, if_true, if_false, true_or, or_true, Bool.false_eq_true, Bool.true_eq_false, Nat.reduceAdd, Nat.reduceLT, wrap_id, wrap_succ, wrap_pred, len22, bgtr3, bleq3, blss3, beql24, beql3, ix22, ldr3, badd3, bneq3, bneq24, bmul3, str3, bsub3, bshl3, bquo3, bd36x0x1x2, len34, ix34, fa36f2, ldr22, fa36f0, fa46f0, bgeq3, fa46f1, beql22s, beql22n, bd46x0x3, fa46f2, str22, fa46f3, fa36f1, cv3x54, bshr54, cv54x3, e1]
    exact hK hr t U V a8 _ (by omega) hS ha hA
  | succ m ih =>
    intro U V t fu hr a8 hV hfu hS ha hA
    obtain ⟨fu, rfl⟩ : ∃ f, fu = f + 1 := ⟨fu - 1, by omega⟩
    have lU := hS.2.2.2.2.length_eq
    simp only [List.length_append] at lU
    rw [succA_slices_stableCmpFunc_int]
    by_cases h20 : 20 ≤ V.length
    · have e1 : a8 ≤ ((N : Nat) : Int) := by omega
      try simp (disch := first | omega | assumption | exact one_int _ _ | exact one_slice _ _ _ | exact one_ptr _ | exact one_bool _ | exact one_string _) only [optK_some_eq, nil2_ptr, ifV_true, ifV_false, run_if, run_out0, run_out1, run_out2, run_out3, optG_some, one_int, one_bool, one_string, one_slice, one_ptr, min2_eq, max2_eq, pick2_eq, u_not, u_neg, cells_agg, inside_ret, chk_true, get_eq, get_ne, List.getElem?_cons_zero, List.getElem?_cons_succ, List.set_cons_zero, List.set_cons_succ, List.length_cons, List.length_nil, Int.toNat_natCast, Int.toNat_zero, Nat.zero_add, Nat.add_zero, decide_eq_true_eq, decide_eq_false_iff_not, true_and, and_true, if_true, if_false, true_or, or_true, Bool.false_eq_true, Bool.true_eq_false, Nat.reduceAdd, Nat.reduceLT, wrap_id, wrap_succ, wrap_pred, len22, bgtr3, bleq3, blss3, beql24, beql3, ix22, ldr3, badd3, bneq3, bneq24, bmul3, str3, bsub3, bshl3, bquo3, bd36x0x1x2, len34, ix34, fa36f2, ldr22, fa36f0, fa46f0, bgeq3, fa46f1, beql22s, beql22n, bd46x0x3, fa46f2, str22, fa46f3, fa36f1, cv3x54, bshr54, cv54x3, e1]
      have eV : U ++ V.take 20 ++ V.drop 20 = U ++ V := by rw [List.append_assoc, List.take_append_drop]
      have l20 : (V.take 20).length = 20 := by rw [List.length_take]; omega
      refine run_call okd (s_ins' lf g cap pw N ws d n hr U (V.take 20) (V.drop 20) _ _ (by rw [eV, List.length_append]; omega) rfl (by rw [l20]; exact ha) (fun z hz => hin z (hS.2.2.2.2.mem_iff.1 (List.mem_append_right _ (List.mem_of_mem_take hz)))) (hS.2.2.1.sublist (List.take_sublist _ _)) (by rw [eV]; exact hA.1) hlf hNb (hE.keeps hA.2) hg) hn0 (fun b _ hb => hb ▸ hW) fun v h1 n1 _ _ hq => ?_
      obtain ⟨rfl, D, p, s, hA1⟩ := hq
      have w1 : IntKind.i64.wrap (a8 + 20) = a8 + 20 := wrap_id (by omega) (by omega)
      try simp (disch := first | omega | assumption | exact one_int _ _ | exact one_slice _ _ _ | exact one_ptr _ | exact one_bool _ | exact one_string _) only [optK_some_eq, nil2_ptr, ifV_true, ifV_false, run_if, run_out0, run_out1, run_out2, run_out3, optG_some, one_int, one_bool, one_string, one_slice, one_ptr, min2_eq, max2_eq, pick2_eq, u_not, u_neg, cells_agg, inside_ret, chk_true, get_eq, get_ne, List.getElem?_cons_zero, List.getElem?_cons_succ, List.set_cons_zero, List.set_cons_succ, List.length_cons, List.length_nil, Int.toNat_natCast, Int.toNat_zero, Nat.zero_add, Nat.add_zero, decide_eq_true_eq, decide_eq_false_iff_not, true_and, and_true, if_true, if_false, true_or, or_true, Bool.false_eq_true, Bool.true_eq_false, Nat.reduceAdd, Nat.reduceLT, wrap_id, wrap_succ, wrap_pred, len22, bgtr3, bleq3, blss3, beql24, beql3, ix22, ldr3, badd3, bneq3, bneq24, bmul3, str3, bsub3, bshl3, bquo3, bd36x0x1x2, len34, ix34, fa36f2, ldr22, fa36f0, fa46f0, bgeq3, fa46f1, beql22s, beql22n, bd46x0x3, fa46f2, str22, fa46f3, fa36f1, cv3x54, bshr54, cv54x3, w1]
      have lD := p.length_eq
      have e2 : a8 = (((U ++ D).length : Nat) : Int) := by rw [List.length_append]; omega
      rw [e2]
      exact ih (U ++ D) (V.drop 20) (t + 1) fu h1 _ (by rw [List.length_drop]; omega) (by omega) (hS.next h20 p s) (by omega) (hA.trans hA1)
    · have e1 : ¬ a8 ≤ ((N : Nat) : Int) := by omega
      try simp (disch := first | omega | assumption | exact one_int _ _ | exact one_slice _ _ _ | exact one_ptr _ | exact one_bool _ | exact one_string _) only [optK_some_eq, nil2_ptr, ifV_true, ifV_false, run_if, run_out0, run_out1, run_out2, run_out3, optG_some, one_int, one_bool, one_string, one_slice, one_ptr, min2_eq, max2_eq, pick2_eq, u_not, u_neg, cells_agg, inside_ret, chk_true, get_eq, get_ne, List.getElem?_cons_zero, List.getElem?_cons_succ, List.set_cons_zero, List.set_cons_succ, List.length_cons, List.length_nil, Int.toNat_natCast, Int.toNat_zero, Nat.zero_add, Nat.add_zero, decide_eq_true_eq, decide_eq_false_iff_not, true_and, and_true, if_true, if_false, true_or, or_true, Bool.false_eq_true, Bool.true_eq_false, Nat.reduceAdd, Nat.reduceLT, wrap_id, wrap_succ, wrap_pred, len22, bgtr3, bleq3, blss3, beql24, beql3, ix22, ldr3, badd3, bneq3, bneq24, bmul3, str3, bsub3, bshl3, bquo3, bd36x0x1x2, len34, ix34, fa36f2, ldr22, fa36f0, fa46f0, bgeq3, fa46f1, beql22s, beql22n, bd46x0x3, fa46f2, str22, fa46f3, fa36f1, cv3x54, bshr54, cv54x3, e1]
      exact hK hr t U V a8 _ (by omega) hS ha hA
/-- blocks of C, two by two -/
theorem stC (C : Nat) (hC1 : 20 ≤ C) (hC2 : C ≤ 2000000) (x13 x30 : Value)
    (hK : ∀ hr t U V (a8 : Int) y35, V.length < 2 * C → St3 (keyW ws) xs C t U V → At h hr g (U ++ V) → Run W n0 (k (Ex.exit 4) [(0, .slice (some ⟨g, 0, none⟩) N cap), (1, .int .i64 (N : Nat)), (2, FT pw), (6, .int .i64 (C : Nat)), (7, .int .i64 (U.length : Nat)), (8, .int .i64 a8), (13, x13), (30, x30), (35, y35)]) hr n R) :
    ∀ (m : Nat) (U V : List Nat) (t fu : Nat) (hr : H) (a8 : Int), V.length ≤ m → m < fu → St3 (keyW ws) xs C t U V → a8 = ((U.length + 2 * C : Nat) : Int) → At h hr g (U ++ V) →
      Run W n0 (lpC_slices_stableCmpFunc_int lf (d + N + 4) fu k (.slice (some ⟨g, 0, none⟩) N cap) (.int .i64 (N : Nat)) (FT pw) (.int .i64 (C : Nat)) (.int .i64 (U.length : Nat)) (.int .i64 a8) x13 x30) hr n R := by
  intro m
  induction m with
  | zero =>
    intro U V t fu hr a8 hV hfu hS ha hA
    obtain ⟨fu, rfl⟩ : ∃ f, fu = f + 1 := ⟨fu - 1, by omega⟩
    have lU := hS.2.2.2.2.length_eq
    simp only [List.length_append] at lU
    rw [succC_slices_stableCmpFunc_int]
    have e1 : ¬ a8 ≤ ((N : Nat) : Int) := by omega
    try simp (disch := first | omega | assumption | exact one_int _ _ | exact one_slice _ _ _ | exact one_ptr _ | exact one_bool _ | exact one_string _) only [optK_some_eq, nil2_ptr, ifV_true, ifV_false, run_if, run_out0, run_out1, run_out2, run_out3, optG_some, one_int, one_bool, one_string, one_slice, one_ptr, min2_eq, max2_eq, pick2_eq, u_not, u_neg, cells_agg, inside_ret, chk_true, get_eq, get_ne, List.getElem?_cons_zero, List.getElem?_cons_succ, List.set_cons_zero, List.set_cons_succ, List.length_cons, List.length_nil, Int.toNat_natCast, Int.toNat_zero, Nat.zero_add, Nat.add_zero, decide_eq_true_eq, decide_eq_false_iff_not, true_and, and_true, if_true, if_false, true_or, or_true, Bool.false_eq_true, Bool.true_eq_false, Nat.reduceAdd, Nat.reduceLT, wrap_id, wrap_succ, wrap_pred, len22, bgtr3, bleq3, blss3, beql24, beql3, ix22, ldr3, badd3, bneq3, bneq24, bmul3, str3, bsub3, bshl3, bquo3, bd36x0x1x2, len34, ix34, fa36f2, ldr22, fa36f0, fa46f0, bgeq3, fa46f1, beql22s, beql22n, bd46x0x3, fa46f2, str22, fa46f3, fa36f1, cv3x54, bshr54, cv54x3, e1]
    exact hK hr t U V a8 _ (by omega) hS hA
  | succ m ih =>
    intro U V t fu hr a8 hV hfu hS ha hA
    obtain ⟨fu, rfl⟩ : ∃ f, fu = f + 1 := ⟨fu - 1, by omega⟩
    have lU := hS.2.2.2.2.length_eq
    simp only [List.length_append] at lU
    rw [succC_slices_stableCmpFunc_int]
    by_cases h2C : 2 * C ≤ V.length
    · have e1 : a8 ≤ ((N : Nat) : Int) := by omega
      have w1 : IntKind.i64.wrap (((U.length : Nat) : Int) + ((C : Nat) : Int)) = ((U.length + C : Nat) : Int) := by rw [wrap_id (by omega) (by omega)]; omega
      have w2 : IntKind.i64.wrap (2 * ((C : Nat) : Int)) = ((2 * C : Nat) : Int) := by rw [wrap_id (by omega) (by omega)]; omega
      have w3 : IntKind.i64.wrap (a8 + ((2 * C : Nat) : Int)) = a8 + ((2 * C : Nat) : Int) := wrap_id (by omega) (by omega)
      try simp (disch := first | omega | assumption | exact one_int _ _ | exact one_slice _ _ _ | exact one_ptr _ | exact one_bool _ | exact one_string _) only [optK_some_eq, nil2_ptr, ifV_true, ifV_false, run_if, run_out0, run_out1, run_out2, run_out3, optG_some, one_int, one_bool, one_string, one_slice, one_ptr, min2_eq, max2_eq, pick2_eq, u_not, u_neg, cells_agg, inside_ret, chk_true, get_eq, get_ne, List.getElem?_cons_zero, List.getElem?_cons_succ, List.set_cons_zero, List.set_cons_succ, List.length_cons, List.length_nil, Int.toNat_natCast, Int.toNat_zero, Nat.zero_add, Nat.add_zero, decide_eq_true_eq, decide_eq_false_iff_not, true_and, and_true, if_true, if_false, true_or, or_true, Bool.false_eq_true, Bool.true_eq_false, Nat.reduceAdd, Nat.reduceLT, wrap_id, wrap_succ, wrap_pred, len22, bgtr3, bleq3, blss3, beql24, beql3, ix22, ldr3, badd3, bneq3, bneq24, bmul3, str3, bsub3, bshl3, bquo3, bd36x0x1x2, len34, ix34, fa36f2, ldr22, fa36f0, fa46f0, bgeq3, fa46f1, beql22s, beql22n, bd46x0x3, fa46f2, str22, fa46f3, fa36f1, cv3x54, bshr54, cv54x3, e1, w1, w2, w3]
      have eV : U ++ V.take C ++ (V.drop C).take C ++ V.drop (2 * C) = U ++ V := by rw [List.append_assoc U, two_takes, List.append_assoc, List.take_append_drop]
      have lC : (V.take C).length = C := by rw [List.length_take]; omega
      have lY : ((V.drop C).take C).length = C := by rw [List.length_take, List.length_drop]; omega
      have hmem : ∀ z ∈ V.take C ++ (V.drop C).take C, z < ws.length := fun z hz => hin z (hS.2.2.2.2.mem_iff.1 (List.mem_append_right _ (by
        rcases List.mem_append.1 hz with q | q
        · exact List.mem_of_mem_take q
        · exact List.mem_of_mem_drop (List.mem_of_mem_take q))))
      have pY : ((V.drop C).take C).Pairwise (RI (keyW ws)) := by have := (hS.2.2.1 1).1; rwa [Nat.one_mul] at this
      refine run_call okd (s_sym lf g cap pw N ws hlf hNb N d n hr U (V.take C) ((V.drop C).take C) (V.drop (2 * C)) _ _ _ (by omega) (by rw [eV, List.length_append]; omega) rfl (by omega) (by omega) (by omega) (by omega) (hE.keeps hA.2) hg (by rw [eV]; exact hA.1) hmem hS.2.2.1.first pY (fun x hx y hy => hS.2.2.1.cross x hx y (List.mem_of_mem_take hy))) hn0 (fun b _ hb => hb ▸ hW) fun v h1 n1 _ _ hq => ?_
      obtain ⟨rfl, Z, p, s, hA1⟩ := hq
      try simp (disch := first | omega | assumption | exact one_int _ _ | exact one_slice _ _ _ | exact one_ptr _ | exact one_bool _ | exact one_string _) only [optK_some_eq, nil2_ptr, ifV_true, ifV_false, run_if, run_out0, run_out1, run_out2, run_out3, optG_some, one_int, one_bool, one_string, one_slice, one_ptr, min2_eq, max2_eq, pick2_eq, u_not, u_neg, cells_agg, inside_ret, chk_true, get_eq, get_ne, List.getElem?_cons_zero, List.getElem?_cons_succ, List.set_cons_zero, List.set_cons_succ, List.length_cons, List.length_nil, Int.toNat_natCast, Int.toNat_zero, Nat.zero_add, Nat.add_zero, decide_eq_true_eq, decide_eq_false_iff_not, true_and, and_true, if_true, if_false, true_or, or_true, Bool.false_eq_true, Bool.true_eq_false, Nat.reduceAdd, Nat.reduceLT, wrap_id, wrap_succ, wrap_pred, len22, bgtr3, bleq3, blss3, beql24, beql3, ix22, ldr3, badd3, bneq3, bneq24, bmul3, str3, bsub3, bshl3, bquo3, bd36x0x1x2, len34, ix34, fa36f2, ldr22, fa36f0, fa46f0, bgeq3, fa46f1, beql22s, beql22n, bd46x0x3, fa46f2, str22, fa46f3, fa36f1, cv3x54, bshr54, cv54x3, w2, w3]
      have lZ := p.length_eq
      rw [List.length_append] at lZ
      have e2 : a8 = (((U ++ Z).length : Nat) : Int) := by rw [List.length_append]; omega
      rw [e2]
      exact ih (U ++ Z) (V.drop (2 * C)) (t + 1) fu h1 _ (by rw [List.length_drop]; omega) (by omega) (hS.next h2C p s) (by omega) (hA.trans hA1)
    · have e1 : ¬ a8 ≤ ((N : Nat) : Int) := by omega
      try simp (disch := first | omega | assumption | exact one_int _ _ | exact one_slice _ _ _ | exact one_ptr _ | exact one_bool _ | exact one_string _) only [optK_some_eq, nil2_ptr, ifV_true, ifV_false, run_if, run_out0, run_out1, run_out2, run_out3, optG_some, one_int, one_bool, one_string, one_slice, one_ptr, min2_eq, max2_eq, pick2_eq, u_not, u_neg, cells_agg, inside_ret, chk_true, get_eq, get_ne, List.getElem?_cons_zero, List.getElem?_cons_succ, List.set_cons_zero, List.set_cons_succ, List.length_cons, List.length_nil, Int.toNat_natCast, Int.toNat_zero, Nat.zero_add, Nat.add_zero, decide_eq_true_eq, decide_eq_false_iff_not, true_and, and_true, if_true, if_false, true_or, or_true, Bool.false_eq_true, Bool.true_eq_false, Nat.reduceAdd, Nat.reduceLT, wrap_id, wrap_succ, wrap_pred, len22, bgtr3, bleq3, blss3, beql24, beql3, ix22, ldr3, badd3, bneq3, bneq24, bmul3, str3, bsub3, bshl3, bquo3, bd36x0x1x2, len34, ix34, fa36f2, ldr22, fa36f0, fa46f0, bgeq3, fa46f1, beql22s, beql22n, bd46x0x3, fa46f2, str22, fa46f3, fa36f1, cv3x54, bshr54, cv54x3, e1]
      exact hK hr t U V a8 _ (by omega) hS hA
/-- doubled -/
theorem stB (x13 : Value) (hK : ∀ hr D y6 y7 y8 y30, D.Perm xs → D.Pairwise (RI (keyW ws)) → At h hr g D → Run W n0 (k (Ex.exit 2) [(0, .slice (some ⟨g, 0, none⟩) N cap), (1, .int .i64 (N : Nat)), (2, FT pw), (6, y6), (7, y7), (8, y8), (13, x13), (30, y30)]) hr n R) :
    ∀ (m C fu : Nat) (D : List Nat) (hr : H) (x7 x8 : Value), N - C ≤ m → m < fu → 20 ≤ C → C ≤ 2000000 → BS (keyW ws) C D → D.Perm xs → At h hr g D →
      Run W n0 (lpB_slices_stableCmpFunc_int lf (d + N + 4) fu k (.slice (some ⟨g, 0, none⟩) N cap) (.int .i64 (N : Nat)) (FT pw) (.int .i64 (C : Nat)) x7 x8 x13) hr n R := by
  intro m
  induction m with
  | zero =>
    intro C fu D hr x7 x8 hm hfu h1 h2 hB hp hA
    obtain ⟨fu, rfl⟩ : ∃ f, fu = f + 1 := ⟨fu - 1, by omega⟩
    rw [succB_slices_stableCmpFunc_int]
    have e1 : ¬ ((C : Nat) : Int) < ((N : Nat) : Int) := by omega
    try simp (disch := first | omega | assumption | exact one_int _ _ | exact one_slice _ _ _ | exact one_ptr _ | exact one_bool _ | exact one_string _) only [optK_some_eq, nil2_ptr, ifV_true, ifV_false, run_if, run_out0, run_out1, run_out2, run_out3, optG_some, one_int, one_bool, one_string, one_slice, one_ptr, min2_eq, max2_eq, pick2_eq, u_not, u_neg, cells_agg, inside_ret, chk_true, get_eq, get_ne, List.getElem?_cons_zero, List.getElem?_cons_succ, List.set_cons_zero, List.set_cons_succ, List.length_cons, List.length_nil, Int.toNat_natCast, Int.toNat_zero, Nat.zero_add, Nat.add_zero, decide_eq_true_eq, decide_eq_false_iff_not, true_and, and_true, if_true, if_false, true_or, or_true, Bool.false_eq_true, Bool.true_eq_false, Nat.reduceAdd, Nat.reduceLT, wrap_id, wrap_succ, wrap_pred, len22, bgtr3, bleq3, blss3, beql24, beql3, ix22, ldr3, badd3, bneq3, bneq24, bmul3, str3, bsub3, bshl3, bquo3, bd36x0x1x2, len34, ix34, fa36f2, ldr22, fa36f0, fa46f0, bgeq3, fa46f1, beql22s, beql22n, bd46x0x3, fa46f2, str22, fa46f3, fa36f1, cv3x54, bshr54, cv54x3, e1]
    exact hK hr D _ _ _ _ hp (hB.all (by rw [hp.length_eq, hN]; omega)) hA
  | succ m ih =>
    intro C fu D hr x7 x8 hm hfu h1 h2 hB hp hA
    obtain ⟨fu, rfl⟩ : ∃ f, fu = f + 1 := ⟨fu - 1, by omega⟩
    rw [succB_slices_stableCmpFunc_int]
    by_cases hlt : C < N
    · have e1 : ((C : Nat) : Int) < ((N : Nat) : Int) := by omega
      have w2 : IntKind.i64.wrap (2 * ((C : Nat) : Int)) = ((2 * C : Nat) : Int) := by rw [wrap_id (by omega) (by omega)]; omega
      have w3 : IntKind.i64.wrap (((C : Nat) : Int) * 2) = ((2 * C : Nat) : Int) := by rw [wrap_id (by omega) (by omega)]; omega
      have lD := hp.length_eq
      try simp (disch := first | omega | assumption | exact one_int _ _ | exact one_slice _ _ _ | exact one_ptr _ | exact one_bool _ | exact one_string _) only [optK_some_eq, nil2_ptr, ifV_true, ifV_false, run_if, run_out0, run_out1, run_out2, run_out3, optG_some, one_int, one_bool, one_string, one_slice, one_ptr, min2_eq, max2_eq, pick2_eq, u_not, u_neg, cells_agg, inside_ret, chk_true, get_eq, get_ne, List.getElem?_cons_zero, List.getElem?_cons_succ, List.set_cons_zero, List.set_cons_succ, List.length_cons, List.length_nil, Int.toNat_natCast, Int.toNat_zero, Nat.zero_add, Nat.add_zero, decide_eq_true_eq, decide_eq_false_iff_not, true_and, and_true, if_true, if_false, true_or, or_true, Bool.false_eq_true, Bool.true_eq_false, Nat.reduceAdd, Nat.reduceLT, wrap_id, wrap_succ, wrap_pred, len22, bgtr3, bleq3, blss3, beql24, beql3, ix22, ldr3, badd3, bneq3, bneq24, bmul3, str3, bsub3, bshl3, bquo3, bd36x0x1x2, len34, ix34, fa36f2, ldr22, fa36f0, fa46f0, bgeq3, fa46f1, beql22s, beql22n, bd46x0x3, fa46f2, str22, fa46f3, fa36f1, cv3x54, bshr54, cv54x3, e1, w2]
      refine stC lf g cap pw N ws hlf hNb d n h xs hN hE hg hin hn0 hW _ C h1 h2 _ _ (fun hr2 t U V a8 y35 hV hS hA2 => ?_) D.length [] D 0 lf hr _ (Nat.le_refl _) (by omega) (St3.start hB hp) (by simp) hA
      rw [kcCa_slices_stableCmpFunc_int]
      have lU := hS.2.2.2.2.length_eq
      simp only [List.length_append] at lU
      have w1 : IntKind.i64.wrap (((U.length : Nat) : Int) + ((C : Nat) : Int)) = ((U.length + C : Nat) : Int) := by rw [wrap_id (by omega) (by omega)]; omega
      by_cases hM : C < V.length
      · have e2 : ((U.length + C : Nat) : Int) < ((N : Nat) : Int) := by omega
        try simp (disch := first | omega | assumption | exact one_int _ _ | exact one_slice _ _ _ | exact one_ptr _ | exact one_bool _ | exact one_string _) only [optK_some_eq, nil2_ptr, ifV_true, ifV_false, run_if, run_out0, run_out1, run_out2, run_out3, optG_some, one_int, one_bool, one_string, one_slice, one_ptr, min2_eq, max2_eq, pick2_eq, u_not, u_neg, cells_agg, inside_ret, chk_true, get_eq, get_ne, List.getElem?_cons_zero, List.getElem?_cons_succ, List.set_cons_zero, List.set_cons_succ, List.length_cons, List.length_nil, Int.toNat_natCast, Int.toNat_zero, Nat.zero_add, Nat.add_zero, decide_eq_true_eq, decide_eq_false_iff_not, true_and, and_true, if_true, if_false, true_or, or_true, Bool.false_eq_true, Bool.true_eq_false, Nat.reduceAdd, Nat.reduceLT, wrap_id, wrap_succ, wrap_pred, len22, bgtr3, bleq3, blss3, beql24, beql3, ix22, ldr3, badd3, bneq3, bneq24, bmul3, str3, bsub3, bshl3, bquo3, bd36x0x1x2, len34, ix34, fa36f2, ldr22, fa36f0, fa46f0, bgeq3, fa46f1, beql22s, beql22n, bd46x0x3, fa46f2, str22, fa46f3, fa36f1, cv3x54, bshr54, cv54x3, w1, e2, w3]
        have eV : U ++ V.take C ++ V.drop C ++ [] = U ++ V := by rw [List.append_nil, List.append_assoc, List.take_append_drop]
        have lC : (V.take C).length = C := by rw [List.length_take]; omega
        have lY : (V.drop C).length = V.length - C := List.length_drop
        have hmem : ∀ z ∈ V.take C ++ V.drop C, z < ws.length := fun z hz => hin z (hS.2.2.2.2.mem_iff.1 (List.mem_append_right _ (by rwa [List.take_append_drop] at hz)))
        have pY : (V.drop C).Pairwise (RI (keyW ws)) := by
          have := (hS.2.2.1 1).1
          rw [Nat.one_mul, List.take_of_length_le (by omega)] at this
          exact this
        refine run_call okd (s_sym lf g cap pw N ws hlf hNb N d n hr2 U (V.take C) (V.drop C) [] _ _ _ (by omega) (by rw [eV, List.length_append]; omega) rfl (by omega) (by omega) (by omega) (by omega) (hE.keeps hA2.2) hg (by rw [eV]; exact hA2.1) hmem hS.2.2.1.first pY (fun x hx y hy => hS.2.2.1.cross x hx y hy)) hn0 (fun b _ hb => hb ▸ hW) fun v h1 n1 _ _ hq => ?_
        obtain ⟨rfl, Z, p, s, hA1⟩ := hq
        try simp (disch := first | omega | assumption | exact one_int _ _ | exact one_slice _ _ _ | exact one_ptr _ | exact one_bool _ | exact one_string _) only [optK_some_eq, nil2_ptr, ifV_true, ifV_false, run_if, run_out0, run_out1, run_out2, run_out3, optG_some, one_int, one_bool, one_string, one_slice, one_ptr, min2_eq, max2_eq, pick2_eq, u_not, u_neg, cells_agg, inside_ret, chk_true, get_eq, get_ne, List.getElem?_cons_zero, List.getElem?_cons_succ, List.set_cons_zero, List.set_cons_succ, List.length_cons, List.length_nil, Int.toNat_natCast, Int.toNat_zero, Nat.zero_add, Nat.add_zero, decide_eq_true_eq, decide_eq_false_iff_not, true_and, and_true, if_true, if_false, true_or, or_true, Bool.false_eq_true, Bool.true_eq_false, Nat.reduceAdd, Nat.reduceLT, wrap_id, wrap_succ, wrap_pred, len22, bgtr3, bleq3, blss3, beql24, beql3, ix22, ldr3, badd3, bneq3, bneq24, bmul3, str3, bsub3, bshl3, bquo3, bd36x0x1x2, len34, ix34, fa36f2, ldr22, fa36f0, fa46f0, bgeq3, fa46f1, beql22s, beql22n, bd46x0x3, fa46f2, str22, fa46f3, fa36f1, cv3x54, bshr54, cv54x3, w3]
        rw [List.append_nil] at hA1
        obtain ⟨q1, q2⟩ := hS.last hV p s
        exact ih (2 * C) fu (U ++ Z) h1 _ _ (by omega) (by omega) (by omega) (by omega) q1 q2 (hA2.trans hA1)
      · have e2 : ¬ ((U.length + C : Nat) : Int) < ((N : Nat) : Int) := by omega
        try simp (disch := first | omega | assumption | exact one_int _ _ | exact one_slice _ _ _ | exact one_ptr _ | exact one_bool _ | exact one_string _) only [optK_some_eq, nil2_ptr, ifV_true, ifV_false, run_if, run_out0, run_out1, run_out2, run_out3, optG_some, one_int, one_bool, one_string, one_slice, one_ptr, min2_eq, max2_eq, pick2_eq, u_not, u_neg, cells_agg, inside_ret, chk_true, get_eq, get_ne, List.getElem?_cons_zero, List.getElem?_cons_succ, List.set_cons_zero, List.set_cons_succ, List.length_cons, List.length_nil, Int.toNat_natCast, Int.toNat_zero, Nat.zero_add, Nat.add_zero, decide_eq_true_eq, decide_eq_false_iff_not, true_and, and_true, if_true, if_false, true_or, or_true, Bool.false_eq_true, Bool.true_eq_false, Nat.reduceAdd, Nat.reduceLT, wrap_id, wrap_succ, wrap_pred, len22, bgtr3, bleq3, blss3, beql24, beql3, ix22, ldr3, badd3, bneq3, bneq24, bmul3, str3, bsub3, bshl3, bquo3, bd36x0x1x2, len34, ix34, fa36f2, ldr22, fa36f0, fa46f0, bgeq3, fa46f1, beql22s, beql22n, bd46x0x3, fa46f2, str22, fa46f3, fa36f1, cv3x54, bshr54, cv54x3, w1, e2, w3]
        obtain ⟨q1, q2⟩ := hS.none (by omega)
        exact ih (2 * C) fu (U ++ V) hr2 _ _ (by omega) (by omega) (by omega) (by omega) q1 q2 hA2
    · have e1 : ¬ ((C : Nat) : Int) < ((N : Nat) : Int) := by omega
      try simp (disch := first | omega | assumption | exact one_int _ _ | exact one_slice _ _ _ | exact one_ptr _ | exact one_bool _ | exact one_string _) only [optK_some_eq, nil2_ptr, ifV_true, ifV_false, run_if, run_out0, run_out1, run_out2, run_out3, optG_some, one_int, one_bool, one_string, one_slice, one_ptr, min2_eq, max2_eq, pick2_eq, u_not, u_neg, cells_agg, inside_ret, chk_true, get_eq, get_ne, List.getElem?_cons_zero, List.getElem?_cons_succ, List.set_cons_zero, List.set_cons_succ, List.length_cons, List.length_nil, Int.toNat_natCast, Int.toNat_zero, Nat.zero_add, Nat.add_zero, decide_eq_true_eq, decide_eq_false_iff_not, true_and, and_true, if_true, if_false, true_or, or_true, Bool.false_eq_true, Bool.true_eq_false, Nat.reduceAdd, Nat.reduceLT, wrap_id, wrap_succ, wrap_pred, len22, bgtr3, bleq3, blss3, beql24, beql3, ix22, ldr3, badd3, bneq3, bneq24, bmul3, str3, bsub3, bshl3, bquo3, bd36x0x1x2, len34, ix34, fa36f2, ldr22, fa36f0, fa46f0, bgeq3, fa46f1, beql22s, beql22n, bd46x0x3, fa46f2, str22, fa46f3, fa36f1, cv3x54, bshr54, cv54x3, e1]
      exact hK hr D _ _ _ _ hp (hB.all (by rw [hp.length_eq, hN]; omega)) hA
end

theorem s_SortStable (lf g cap pw N : Nat) (ws : List Int) (hlf : 3000000 ≤ lf) (hNb : N ≤ 1000000) (d n : Nat) (h : H) (xs : List Nat) (hN : xs.length = N) (hE : EnvT h n g pw ws) (hg : g < n) (hin : ∀ z ∈ xs, z < ws.length) (hst : xs.Pairwise (fun a b => a < b)) (hh : h.get g = some ⟨3, true, nats xs⟩) :
    Run (fun x => x = g) n (evCall2 Try.prog gt lf (d + N + 6) 33 #[.slice (some ⟨g, 0, none⟩) N cap, FT pw]) h n fun v h' n' => n' = n ∧ ∃ D, D.Perm xs ∧ D.Pairwise (RI (keyW ws)) ∧ At h h' g D := by
  rw [sh_slices_SortStableFunc_int_int]
  refine Run.inside_ ?_
  unfold b_slices_SortStableFunc_int_int
  try simp (disch := first | omega | assumption | exact one_int _ _ | exact one_slice _ _ _ | exact one_ptr _ | exact one_bool _ | exact one_string _) only [optK_some_eq, nil2_ptr, ifV_true, ifV_false, run_if, run_out0, run_out1, run_out2, run_out3, optG_some, one_int, one_bool, one_string, one_slice, one_ptr, min2_eq, max2_eq, pick2_eq, u_not, u_neg, cells_agg, inside_ret, chk_true, get_eq, get_ne, List.getElem?_cons_zero, List.getElem?_cons_succ, List.set_cons_zero, List.set_cons_succ, List.length_cons, List.length_nil, Int.toNat_natCast, Int.toNat_zero, Nat.zero_add, Nat.add_zero, decide_eq_true_eq, decide_eq_false_iff_not, true_and, and_true, if_true, if_false, true_or, or_true, Bool.false_eq_true, Bool.true_eq_false, Nat.reduceAdd, Nat.reduceLT, wrap_id, wrap_succ, wrap_pred, len22, bgtr3, bleq3, blss3, beql24, beql3, ix22, ldr3, badd3, bneq3, bneq24, bmul3, str3, bsub3, bshl3, bquo3, bd36x0x1x2, len34, ix34, fa36f2, ldr22, fa36f0, fa46f0, bgeq3, fa46f1, beql22s, beql22n, bd46x0x3, fa46f2, str22, fa46f3, fa36f1, cv3x54, bshr54, cv54x3]
  have main : Run (fun x => x = g) n (evCall2 Try.prog gt lf (d + N + 5) 36 #[.slice (some ⟨g, 0, none⟩) N cap, .int .i64 (N : Nat), FT pw]) h n fun v h' n' => n' = n ∧ ∃ D, D.Perm xs ∧ D.Pairwise (RI (keyW ws)) ∧ At h h' g D := by
    rw [sh_slices_stableCmpFunc_int]
    refine Run.inside_ ?_
    unfold b_slices_stableCmpFunc_int
    have := stA (W := fun x => x = g) (R := fun v h' n' => n' = n ∧ ∃ D, D.Perm xs ∧ D.Pairwise (RI (keyW ws)) ∧ At h h' g D) lf g cap pw N ws hlf hNb (d + N) n h xs hN hE hg hin (Nat.le_refl n) (.inr rfl) (kcA_slices_stableCmpFunc_int lf (d + N + 4)) (fun hr t U V a8 y13 hV hS ha8 hA => by
      rw [kcAa_slices_stableCmpFunc_int]
      have lU := hS.2.2.2.2.length_eq
      simp only [List.length_append] at lU
      refine run_call okd (s_ins' lf g cap pw N ws (d + N) n hr U V [] _ _ (by rw [List.append_nil, List.length_append]; omega) rfl (by omega) (fun z hz => hin z (hS.2.2.2.2.mem_iff.1 (List.mem_append_right _ hz))) hS.2.2.1 (by rw [List.append_nil]; exact hA.1) hlf hNb (hE.keeps hA.2) hg) (Nat.le_refl n) (fun b _ hb => .inr hb) fun v h1 n1 _ _ hq => ?_
      obtain ⟨rfl, D, p, s, hA1⟩ := hq
      rw [List.append_nil] at hA1
      obtain ⟨q1, q2⟩ := hS.last (by omega) p s
      have := stB (W := fun x => x = g) (n0 := n1) (R := fun v h' n' => n' = n1 ∧ ∃ D, D.Perm xs ∧ D.Pairwise (RI (keyW ws)) ∧ At h h' g D) lf g cap pw N ws hlf hNb d n1 h xs hN hE hg hin (Nat.le_refl n1) (.inr rfl) (kcB_slices_stableCmpFunc_int lf (d + N + 4)) y13 (fun hr2 D2 y6 y7 y8 y30 p2 s2 hA2 => by
        rw [kcBa_slices_stableCmpFunc_int]
        try simp (disch := first | omega | assumption | exact one_int _ _ | exact one_slice _ _ _ | exact one_ptr _ | exact one_bool _ | exact one_string _) only [optK_some_eq, nil2_ptr, ifV_true, ifV_false, run_if, run_out0, run_out1, run_out2, run_out3, optG_some, one_int, one_bool, one_string, one_slice, one_ptr, min2_eq, max2_eq, pick2_eq, u_not, u_neg, cells_agg, inside_ret, chk_true, get_eq, get_ne, List.getElem?_cons_zero, List.getElem?_cons_succ, List.set_cons_zero, List.set_cons_succ, List.length_cons, List.length_nil, Int.toNat_natCast, Int.toNat_zero, Nat.zero_add, Nat.add_zero, decide_eq_true_eq, decide_eq_false_iff_not, true_and, and_true, if_true, if_false, true_or, or_true, Bool.false_eq_true, Bool.true_eq_false, Nat.reduceAdd, Nat.reduceLT, wrap_id, wrap_succ, wrap_pred, len22, bgtr3, bleq3, blss3, beql24, beql3, ix22, ldr3, badd3, bneq3, bneq24, bmul3, str3, bsub3, bshl3, bquo3, bd36x0x1x2, len34, ix34, fa36f2, ldr22, fa36f0, fa46f0, bgeq3, fa46f1, beql22s, beql22n, bd46x0x3, fa46f2, str22, fa46f3, fa36f1, cv3x54, bshr54, cv54x3]
        exact ⟨D2, p2, s2, hA2⟩) N 20 lf (U ++ D) h1 (.int .i64 (U.length : Nat)) (.int .i64 a8) (by omega) (by omega) (by omega) (by omega) q1 q2 (hA.trans hA1)
      exact this) N [] xs 0 lf h 20 (by omega) (by omega) (St1.start _ hst) (by simp) ⟨by simpa using hh, fun b hb => rfl⟩
    exact this
  refine run_call okd main (Nat.le_refl n) (fun b _ hb => .inr hb) fun v h1 n1 _ _ hq => ?_
  try simp (disch := first | omega | assumption | exact one_int _ _ | exact one_slice _ _ _ | exact one_ptr _ | exact one_bool _ | exact one_string _) only [optK_some_eq, nil2_ptr, ifV_true, ifV_false, run_if, run_out0, run_out1, run_out2, run_out3, optG_some, one_int, one_bool, one_string, one_slice, one_ptr, min2_eq, max2_eq, pick2_eq, u_not, u_neg, cells_agg, inside_ret, chk_true, get_eq, get_ne, List.getElem?_cons_zero, List.getElem?_cons_succ, List.set_cons_zero, List.set_cons_succ, List.length_cons, List.length_nil, Int.toNat_natCast, Int.toNat_zero, Nat.zero_add, Nat.add_zero, decide_eq_true_eq, decide_eq_false_iff_not, true_and, and_true, if_true, if_false, true_or, or_true, Bool.false_eq_true, Bool.true_eq_false, Nat.reduceAdd, Nat.reduceLT, wrap_id, wrap_succ, wrap_pred, len22, bgtr3, bleq3, blss3, beql24, beql3, ix22, ldr3, badd3, bneq3, bneq24, bmul3, str3, bsub3, bshl3, bquo3, bd36x0x1x2, len34, ix34, fa36f2, ldr22, fa36f0, fa46f0, bgeq3, fa46f1, beql22s, beql22n, bd46x0x3, fa46f2, str22, fa46f3, fa36f1, cv3x54, bshr54, cv54x3]
  exact hq

end Go.Proofs.Ytapdcejhfooahaa

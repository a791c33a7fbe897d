/- Layer 25: statement TesterNews. -/
import Derived.Test.YthhhkplbjcknkaaGreatVf
namespace Go.Proofs.YthhhkplbjcknkaaGreat
set_option linter.unusedVariables false
set_option linter.unusedSimpArgs false
open Go.RowKit Ev

theorem law_TNews (u w x : Int) (hl : -9223372036854775808 ≤ x) (hx : x ≤ 9223372036854775807) : Run (fun _ => False) Tryz.prog.globals.size (evCall2 Tryz.prog gt 3000000 1000 7 #[.agg #[.int .i64 u, .int .i64 w], .int .i64 x]) .nil Tryz.prog.globals.size fun v _ _ => v = .bool true := by
  have key : ∀ n : Nat, n = Tryz.prog.globals.size → Run (fun _ => False) n (evCall2 Tryz.prog gt 3000000 1000 7 #[.agg #[.int .i64 u, .int .i64 w], .int .i64 x]) .nil n fun v _ _ => v = .bool true := by
    intro n hn
    rw [sh_balerlaw25_TesterNews]
    refine Run.inside_ ?_
    unfold b_balerlaw25_TesterNews
    refine run_box sz43' _ _ ?_
    by_cases hm : mayU u w 4096 = true
    · have h0 : (24 ≤ u ∧ u ≤ 100000) ∧ mayW w 4096 = true := by unfold mayU at hm; simpa using hm
      try simp (disch := first | omega | assumption | exact one_int _ _ | exact one_slice _ _ _ | exact one_ptr _ | exact one_bool _ | exact one_string _) only [optK_some_eq, nil2_ptr, ifV_true, ifV_false, run_if, run_out0, run_out1, run_out2, run_out3, optG_some, one_int, one_bool, one_string, one_slice, one_ptr, min2_eq, max2_eq, pick2_eq, u_not, u_neg, cells_agg, inside_ret, chk_true, get_eq, get_ne, List.getElem?_cons_zero, List.getElem?_cons_succ, List.set_cons_zero, List.set_cons_succ, List.length_cons, List.length_nil, Int.toNat_natCast, Int.toNat_zero, Nat.zero_add, Nat.add_zero, decide_eq_true_eq, decide_eq_false_iff_not, true_and, and_true, if_true, if_false, true_or, or_true, Bool.false_eq_true, Bool.true_eq_false, Nat.reduceAdd, Nat.reduceLT, wrap_id, wrap_succ, wrap_pred, FX1, FX2, FX3, FX4, false_and, and_false, Bool.not_true, Bool.not_false, beq_self_eq_true, bne_self_eq_false, decide_true, decide_false, Int.reduceBEq, Int.reduceBNe, Int.reduceLT, Int.reduceLE, Int.reduceEq, Int.reduceNe, Int.reduceAdd, Int.reduceSub, Int.reduceMul, Int.reduceNeg, Bool.and_true, Bool.true_and, Bool.and_false, Bool.false_and]
      refine run_call okd (t_New_ok _ _ _ _ h0.1.1 h0.1.2 h0.2) (by omega) (fun _ _ h => h.elim) ?_
      rintro _ _ _ _ _ ⟨rfl, rfl, rfl⟩
      rw [ext0, ext1]
      try simp (disch := first | omega | assumption | exact one_int _ _ | exact one_slice _ _ _ | exact one_ptr _ | exact one_bool _ | exact one_string _) only [optK_some_eq, nil2_ptr, ifV_true, ifV_false, run_if, run_out0, run_out1, run_out2, run_out3, optG_some, one_int, one_bool, one_string, one_slice, one_ptr, min2_eq, max2_eq, pick2_eq, u_not, u_neg, cells_agg, inside_ret, chk_true, get_eq, get_ne, List.getElem?_cons_zero, List.getElem?_cons_succ, List.set_cons_zero, List.set_cons_succ, List.length_cons, List.length_nil, Int.toNat_natCast, Int.toNat_zero, Nat.zero_add, Nat.add_zero, decide_eq_true_eq, decide_eq_false_iff_not, true_and, and_true, if_true, if_false, true_or, or_true, Bool.false_eq_true, Bool.true_eq_false, Nat.reduceAdd, Nat.reduceLT, wrap_id, wrap_succ, wrap_pred, FX1, FX2, FX3, FX4, false_and, and_false, Bool.not_true, Bool.not_false, beq_self_eq_true, bne_self_eq_false, decide_true, decide_false, Int.reduceBEq, Int.reduceBNe, Int.reduceLT, Int.reduceLE, Int.reduceEq, Int.reduceNe, Int.reduceAdd, Int.reduceSub, Int.reduceMul, Int.reduceNeg, Bool.and_true, Bool.true_and, Bool.and_false, Bool.false_and]
      refine run_call okd (t_Need_ok _ _ _ _ h0.1.1 h0.1.2 h0.2) (by omega) (fun _ _ h => h.elim) ?_
      rintro _ _ _ _ _ ⟨rfl, rfl, rfl⟩
      rw [ext0, ext1]
      try simp (disch := first | omega | assumption | exact one_int _ _ | exact one_slice _ _ _ | exact one_ptr _ | exact one_bool _ | exact one_string _) only [optK_some_eq, nil2_ptr, ifV_true, ifV_false, run_if, run_out0, run_out1, run_out2, run_out3, optG_some, one_int, one_bool, one_string, one_slice, one_ptr, min2_eq, max2_eq, pick2_eq, u_not, u_neg, cells_agg, inside_ret, chk_true, get_eq, get_ne, List.getElem?_cons_zero, List.getElem?_cons_succ, List.set_cons_zero, List.set_cons_succ, List.length_cons, List.length_nil, Int.toNat_natCast, Int.toNat_zero, Nat.zero_add, Nat.add_zero, decide_eq_true_eq, decide_eq_false_iff_not, true_and, and_true, if_true, if_false, true_or, or_true, Bool.false_eq_true, Bool.true_eq_false, Nat.reduceAdd, Nat.reduceLT, wrap_id, wrap_succ, wrap_pred, FX1, FX2, FX3, FX4, false_and, and_false, Bool.not_true, Bool.not_false, beq_self_eq_true, bne_self_eq_false, decide_true, decide_false, Int.reduceBEq, Int.reduceBNe, Int.reduceLT, Int.reduceLE, Int.reduceEq, Int.reduceNe, Int.reduceAdd, Int.reduceSub, Int.reduceMul, Int.reduceNeg, Bool.and_true, Bool.true_and, Bool.and_false, Bool.false_and]
      refine run_call okd (t_Digits _ _ _ _ hl hx) (by omega) (fun _ _ h => h.elim) ?_
      rintro _ _ _ _ _ ⟨rfl, rfl, rfl⟩
      refine run_same (s_refDigits _ _ _ _ (by decide) hl hx) (by omega) (fun _ _ h => h.elim) ?_
      have hp := digs_pos x.toNat
      have hq := digs_len 20 x.toNat
      generalize digs 20 x.toNat = L at *
      have g0 : (gar 5 (((((((H.set .nil n (some (setT u w)))).set (n + 1) (some (uRd u))).set (n + 1 + 1) (some (bitsB []))).set (n + 1 + 2) (some (exB w 4096 (n + 1 + 1) (n + 1)))).set (n + 1 + 3) (some (teB (n + 1 + 2)))).set (n + 1 + 4) (some (uRd u))) (n + 1 + 4 + 1) (L.map ceD)).get n = some (setT u w) := by
        rw [gar_get _ _ _ _ _ (by omega)]
        try simp (disch := first | omega | assumption | exact one_int _ _ | exact one_slice _ _ _ | exact one_ptr _ | exact one_bool _ | exact one_string _) only [optK_some_eq, nil2_ptr, ifV_true, ifV_false, run_if, run_out0, run_out1, run_out2, run_out3, optG_some, one_int, one_bool, one_string, one_slice, one_ptr, min2_eq, max2_eq, pick2_eq, u_not, u_neg, cells_agg, inside_ret, chk_true, get_eq, get_ne, List.getElem?_cons_zero, List.getElem?_cons_succ, List.set_cons_zero, List.set_cons_succ, List.length_cons, List.length_nil, Int.toNat_natCast, Int.toNat_zero, Nat.zero_add, Nat.add_zero, decide_eq_true_eq, decide_eq_false_iff_not, true_and, and_true, if_true, if_false, true_or, or_true, Bool.false_eq_true, Bool.true_eq_false, Nat.reduceAdd, Nat.reduceLT, wrap_id, wrap_succ, wrap_pred, FX1, FX2, FX3, FX4, false_and, and_false, Bool.not_true, Bool.not_false, beq_self_eq_true, bne_self_eq_false, decide_true, decide_false, Int.reduceBEq, Int.reduceBNe, Int.reduceLT, Int.reduceLE, Int.reduceEq, Int.reduceNe, Int.reduceAdd, Int.reduceSub, Int.reduceMul, Int.reduceNeg, Bool.and_true, Bool.true_and, Bool.and_false, Bool.false_and]
      unfold strD
      try simp (disch := first | omega | assumption | exact one_int _ _ | exact one_slice _ _ _ | exact one_ptr _ | exact one_bool _ | exact one_string _) only [optK_some_eq, nil2_ptr, ifV_true, ifV_false, run_if, run_out0, run_out1, run_out2, run_out3, optG_some, one_int, one_bool, one_string, one_slice, one_ptr, min2_eq, max2_eq, pick2_eq, u_not, u_neg, cells_agg, inside_ret, chk_true, get_eq, get_ne, List.getElem?_cons_zero, List.getElem?_cons_succ, List.set_cons_zero, List.set_cons_succ, List.length_cons, List.length_nil, Int.toNat_natCast, Int.toNat_zero, Nat.zero_add, Nat.add_zero, decide_eq_true_eq, decide_eq_false_iff_not, true_and, and_true, if_true, if_false, true_or, or_true, Bool.false_eq_true, Bool.true_eq_false, Nat.reduceAdd, Nat.reduceLT, wrap_id, wrap_succ, wrap_pred, FX1, FX2, FX3, FX4, false_and, and_false, Bool.not_true, Bool.not_false, beq_self_eq_true, bne_self_eq_false, decide_true, decide_false, Int.reduceBEq, Int.reduceBNe, Int.reduceLT, Int.reduceLE, Int.reduceEq, Int.reduceNe, Int.reduceAdd, Int.reduceSub, Int.reduceMul, Int.reduceNeg, Bool.and_true, Bool.true_and, Bool.and_false, Bool.false_and]
      refine run_lda (B := setT u w) ag43' sz43' _ _ _ g0 (by omega) (by simp [setT]) ?_
      try simp (disch := first | omega | assumption | exact one_int _ _ | exact one_slice _ _ _ | exact one_ptr _ | exact one_bool _ | exact one_string _) only [optK_some_eq, nil2_ptr, ifV_true, ifV_false, run_if, run_out0, run_out1, run_out2, run_out3, optG_some, one_int, one_bool, one_string, one_slice, one_ptr, min2_eq, max2_eq, pick2_eq, u_not, u_neg, cells_agg, inside_ret, chk_true, get_eq, get_ne, List.getElem?_cons_zero, List.getElem?_cons_succ, List.set_cons_zero, List.set_cons_succ, List.length_cons, List.length_nil, Int.toNat_natCast, Int.toNat_zero, Nat.zero_add, Nat.add_zero, decide_eq_true_eq, decide_eq_false_iff_not, true_and, and_true, if_true, if_false, true_or, or_true, Bool.false_eq_true, Bool.true_eq_false, Nat.reduceAdd, Nat.reduceLT, wrap_id, wrap_succ, wrap_pred, FX1, FX2, FX3, FX4, false_and, and_false, Bool.not_true, Bool.not_false, beq_self_eq_true, bne_self_eq_false, decide_true, decide_false, Int.reduceBEq, Int.reduceBNe, Int.reduceLT, Int.reduceLE, Int.reduceEq, Int.reduceNe, Int.reduceAdd, Int.reduceSub, Int.reduceMul, Int.reduceNeg, Bool.and_true, Bool.true_and, Bool.and_false, Bool.false_and]
      refine run_call okd (t_Smay _ _ _ _ u w) (by omega) (fun _ _ h => h.elim) ?_
      rintro _ _ _ _ _ ⟨rfl, rfl, rfl⟩
      rw [hm]
      have g1 : ∀ B : Option AB, (H.set (gar 5 (((((((H.set .nil n (some (setT u w)))).set (n + 1) (some (uRd u))).set (n + 1 + 1) (some (bitsB []))).set (n + 1 + 2) (some (exB w 4096 (n + 1 + 1) (n + 1)))).set (n + 1 + 3) (some (teB (n + 1 + 2)))).set (n + 1 + 4) (some (uRd u))) (n + 1 + 4 + 1) (L.map ceD)) (n + 1 + 4 + 1 + L.length) B).get n = some (setT u w) := fun B => by
        rw [get_ne _ _ (by omega)]
        exact g0
      unfold setT at g1
      try simp (disch := first | omega | assumption | exact one_int _ _ | exact one_slice _ _ _ | exact one_ptr _ | exact one_bool _ | exact one_string _) only [optK_some_eq, nil2_ptr, ifV_true, ifV_false, run_if, run_out0, run_out1, run_out2, run_out3, optG_some, one_int, one_bool, one_string, one_slice, one_ptr, min2_eq, max2_eq, pick2_eq, u_not, u_neg, cells_agg, inside_ret, chk_true, get_eq, get_ne, List.getElem?_cons_zero, List.getElem?_cons_succ, List.set_cons_zero, List.set_cons_succ, List.length_cons, List.length_nil, Int.toNat_natCast, Int.toNat_zero, Nat.zero_add, Nat.add_zero, decide_eq_true_eq, decide_eq_false_iff_not, true_and, and_true, if_true, if_false, true_or, or_true, Bool.false_eq_true, Bool.true_eq_false, Nat.reduceAdd, Nat.reduceLT, wrap_id, wrap_succ, wrap_pred, FX1, FX2, FX3, FX4, false_and, and_false, Bool.not_true, Bool.not_false, beq_self_eq_true, bne_self_eq_false, decide_true, decide_false, Int.reduceBEq, Int.reduceBNe, Int.reduceLT, Int.reduceLE, Int.reduceEq, Int.reduceNe, Int.reduceAdd, Int.reduceSub, Int.reduceMul, Int.reduceNeg, Bool.and_true, Bool.true_and, Bool.and_false, Bool.false_and, g1]
      refine run_same (t_refNeed _ _ _ _ h0.1.1 h0.1.2 h0.2) (by omega) (fun _ _ h => h.elim) ?_
      try simp (disch := first | omega | assumption | exact one_int _ _ | exact one_slice _ _ _ | exact one_ptr _ | exact one_bool _ | exact one_string _) only [optK_some_eq, nil2_ptr, ifV_true, ifV_false, run_if, run_out0, run_out1, run_out2, run_out3, optG_some, one_int, one_bool, one_string, one_slice, one_ptr, min2_eq, max2_eq, pick2_eq, u_not, u_neg, cells_agg, inside_ret, chk_true, get_eq, get_ne, List.getElem?_cons_zero, List.getElem?_cons_succ, List.set_cons_zero, List.set_cons_succ, List.length_cons, List.length_nil, Int.toNat_natCast, Int.toNat_zero, Nat.zero_add, Nat.add_zero, decide_eq_true_eq, decide_eq_false_iff_not, true_and, and_true, if_true, if_false, true_or, or_true, Bool.false_eq_true, Bool.true_eq_false, Nat.reduceAdd, Nat.reduceLT, wrap_id, wrap_succ, wrap_pred, FX1, FX2, FX3, FX4, false_and, and_false, Bool.not_true, Bool.not_false, beq_self_eq_true, bne_self_eq_false, decide_true, decide_false, Int.reduceBEq, Int.reduceBNe, Int.reduceLT, Int.reduceLE, Int.reduceEq, Int.reduceNe, Int.reduceAdd, Int.reduceSub, Int.reduceMul, Int.reduceNeg, Bool.and_true, Bool.true_and, Bool.and_false, Bool.false_and]
      clear g0 g1
      subst hn
      rcases L with _ | ⟨a1, L⟩
      · exact absurd hp (by simp)
      rcases L with _ | ⟨a2, L⟩
      · exact run_ker (by kernel_rfl)
      rcases L with _ | ⟨a3, L⟩
      · exact run_ker (by kernel_rfl)
      rcases L with _ | ⟨a4, L⟩
      · exact run_ker (by kernel_rfl)
      rcases L with _ | ⟨a5, L⟩
      · exact run_ker (by kernel_rfl)
      rcases L with _ | ⟨a6, L⟩
      · exact run_ker (by kernel_rfl)
      rcases L with _ | ⟨a7, L⟩
      · exact run_ker (by kernel_rfl)
      rcases L with _ | ⟨a8, L⟩
      · exact run_ker (by kernel_rfl)
      rcases L with _ | ⟨a9, L⟩
      · exact run_ker (by kernel_rfl)
      rcases L with _ | ⟨a10, L⟩
      · exact run_ker (by kernel_rfl)
      rcases L with _ | ⟨a11, L⟩
      · exact run_ker (by kernel_rfl)
      rcases L with _ | ⟨a12, L⟩
      · exact run_ker (by kernel_rfl)
      rcases L with _ | ⟨a13, L⟩
      · exact run_ker (by kernel_rfl)
      rcases L with _ | ⟨a14, L⟩
      · exact run_ker (by kernel_rfl)
      rcases L with _ | ⟨a15, L⟩
      · exact run_ker (by kernel_rfl)
      rcases L with _ | ⟨a16, L⟩
      · exact run_ker (by kernel_rfl)
      rcases L with _ | ⟨a17, L⟩
      · exact run_ker (by kernel_rfl)
      rcases L with _ | ⟨a18, L⟩
      · exact run_ker (by kernel_rfl)
      rcases L with _ | ⟨a19, L⟩
      · exact run_ker (by kernel_rfl)
      rcases L with _ | ⟨a20, L⟩
      · exact run_ker (by kernel_rfl)
      rcases L with _ | ⟨a21, L⟩
      · exact run_ker (by kernel_rfl)
      simp at hq
    · have hm : mayU u w 4096 = false := by simpa using hm
      try simp (disch := first | omega | assumption | exact one_int _ _ | exact one_slice _ _ _ | exact one_ptr _ | exact one_bool _ | exact one_string _) only [optK_some_eq, nil2_ptr, ifV_true, ifV_false, run_if, run_out0, run_out1, run_out2, run_out3, optG_some, one_int, one_bool, one_string, one_slice, one_ptr, min2_eq, max2_eq, pick2_eq, u_not, u_neg, cells_agg, inside_ret, chk_true, get_eq, get_ne, List.getElem?_cons_zero, List.getElem?_cons_succ, List.set_cons_zero, List.set_cons_succ, List.length_cons, List.length_nil, Int.toNat_natCast, Int.toNat_zero, Nat.zero_add, Nat.add_zero, decide_eq_true_eq, decide_eq_false_iff_not, true_and, and_true, if_true, if_false, true_or, or_true, Bool.false_eq_true, Bool.true_eq_false, Nat.reduceAdd, Nat.reduceLT, wrap_id, wrap_succ, wrap_pred, FX1, FX2, FX3, FX4, false_and, and_false, Bool.not_true, Bool.not_false, beq_self_eq_true, bne_self_eq_false, decide_true, decide_false, Int.reduceBEq, Int.reduceBNe, Int.reduceLT, Int.reduceLE, Int.reduceEq, Int.reduceNe, Int.reduceAdd, Int.reduceSub, Int.reduceMul, Int.reduceNeg, Bool.and_true, Bool.true_and, Bool.and_false, Bool.false_and]
      refine run_call okd (t_New_no _ _ _ _ hm) (by omega) (fun _ _ h => h.elim) ?_
      rintro _ h1 n1 hn1 fr1 rfl
      have g1 : h1.get n = some ⟨43, true, [.int .i64 u, .int .i64 w]⟩ := by rw [fr1 n (by omega) id, get_eq]
      rw [ext0, ext1]
      try simp (disch := first | omega | assumption | exact one_int _ _ | exact one_slice _ _ _ | exact one_ptr _ | exact one_bool _ | exact one_string _) only [optK_some_eq, nil2_ptr, ifV_true, ifV_false, run_if, run_out0, run_out1, run_out2, run_out3, optG_some, one_int, one_bool, one_string, one_slice, one_ptr, min2_eq, max2_eq, pick2_eq, u_not, u_neg, cells_agg, inside_ret, chk_true, get_eq, get_ne, List.getElem?_cons_zero, List.getElem?_cons_succ, List.set_cons_zero, List.set_cons_succ, List.length_cons, List.length_nil, Int.toNat_natCast, Int.toNat_zero, Nat.zero_add, Nat.add_zero, decide_eq_true_eq, decide_eq_false_iff_not, true_and, and_true, if_true, if_false, true_or, or_true, Bool.false_eq_true, Bool.true_eq_false, Nat.reduceAdd, Nat.reduceLT, wrap_id, wrap_succ, wrap_pred, FX1, FX2, FX3, FX4, false_and, and_false, Bool.not_true, Bool.not_false, beq_self_eq_true, bne_self_eq_false, decide_true, decide_false, Int.reduceBEq, Int.reduceBNe, Int.reduceLT, Int.reduceLE, Int.reduceEq, Int.reduceNe, Int.reduceAdd, Int.reduceSub, Int.reduceMul, Int.reduceNeg, Bool.and_true, Bool.true_and, Bool.and_false, Bool.false_and, g1]
      refine run_call okd (t_Need_no _ _ _ _ hm) (by omega) (fun _ _ h => h.elim) ?_
      rintro _ h2 n2 hn2 fr2 rfl
      have g2 : h2.get n = some ⟨43, true, [.int .i64 u, .int .i64 w]⟩ := by rw [fr2 n (by omega) id, g1]
      rw [ext0, ext1]
      try simp (disch := first | omega | assumption | exact one_int _ _ | exact one_slice _ _ _ | exact one_ptr _ | exact one_bool _ | exact one_string _) only [optK_some_eq, nil2_ptr, ifV_true, ifV_false, run_if, run_out0, run_out1, run_out2, run_out3, optG_some, one_int, one_bool, one_string, one_slice, one_ptr, min2_eq, max2_eq, pick2_eq, u_not, u_neg, cells_agg, inside_ret, chk_true, get_eq, get_ne, List.getElem?_cons_zero, List.getElem?_cons_succ, List.set_cons_zero, List.set_cons_succ, List.length_cons, List.length_nil, Int.toNat_natCast, Int.toNat_zero, Nat.zero_add, Nat.add_zero, decide_eq_true_eq, decide_eq_false_iff_not, true_and, and_true, if_true, if_false, true_or, or_true, Bool.false_eq_true, Bool.true_eq_false, Nat.reduceAdd, Nat.reduceLT, wrap_id, wrap_succ, wrap_pred, FX1, FX2, FX3, FX4, false_and, and_false, Bool.not_true, Bool.not_false, beq_self_eq_true, bne_self_eq_false, decide_true, decide_false, Int.reduceBEq, Int.reduceBNe, Int.reduceLT, Int.reduceLE, Int.reduceEq, Int.reduceNe, Int.reduceAdd, Int.reduceSub, Int.reduceMul, Int.reduceNeg, Bool.and_true, Bool.true_and, Bool.and_false, Bool.false_and]
      refine run_call okd (t_Digits _ _ _ _ hl hx) (by omega) (fun _ _ h => h.elim) ?_
      rintro _ h3 n3 hn3 fr3 ⟨rfl, _, _⟩
      have g3 : h3.get n = some ⟨43, true, [.int .i64 u, .int .i64 w]⟩ := by rw [fr3 n (by omega) id, g2]
      refine run_same (s_refDigits _ _ _ _ (by decide) hl hx) (by omega) (fun _ _ h => h.elim) ?_
      unfold strD
      try simp (disch := first | omega | assumption | exact one_int _ _ | exact one_slice _ _ _ | exact one_ptr _ | exact one_bool _ | exact one_string _) only [optK_some_eq, nil2_ptr, ifV_true, ifV_false, run_if, run_out0, run_out1, run_out2, run_out3, optG_some, one_int, one_bool, one_string, one_slice, one_ptr, min2_eq, max2_eq, pick2_eq, u_not, u_neg, cells_agg, inside_ret, chk_true, get_eq, get_ne, List.getElem?_cons_zero, List.getElem?_cons_succ, List.set_cons_zero, List.set_cons_succ, List.length_cons, List.length_nil, Int.toNat_natCast, Int.toNat_zero, Nat.zero_add, Nat.add_zero, decide_eq_true_eq, decide_eq_false_iff_not, true_and, and_true, if_true, if_false, true_or, or_true, Bool.false_eq_true, Bool.true_eq_false, Nat.reduceAdd, Nat.reduceLT, wrap_id, wrap_succ, wrap_pred, FX1, FX2, FX3, FX4, false_and, and_false, Bool.not_true, Bool.not_false, beq_self_eq_true, bne_self_eq_false, decide_true, decide_false, Int.reduceBEq, Int.reduceBNe, Int.reduceLT, Int.reduceLE, Int.reduceEq, Int.reduceNe, Int.reduceAdd, Int.reduceSub, Int.reduceMul, Int.reduceNeg, Bool.and_true, Bool.true_and, Bool.and_false, Bool.false_and]
      refine run_lda ag43' sz43' _ _ _ g3 (by omega) (by simp) ?_
      refine run_call okd (t_Smay _ _ _ _ u w) (by omega) (fun _ _ h => h.elim) ?_
      rintro _ _ _ _ _ ⟨rfl, rfl, rfl⟩
      rw [hm]
      try simp (disch := first | omega | assumption | exact one_int _ _ | exact one_slice _ _ _ | exact one_ptr _ | exact one_bool _ | exact one_string _) only [optK_some_eq, nil2_ptr, ifV_true, ifV_false, run_if, run_out0, run_out1, run_out2, run_out3, optG_some, one_int, one_bool, one_string, one_slice, one_ptr, min2_eq, max2_eq, pick2_eq, u_not, u_neg, cells_agg, inside_ret, chk_true, get_eq, get_ne, List.getElem?_cons_zero, List.getElem?_cons_succ, List.set_cons_zero, List.set_cons_succ, List.length_cons, List.length_nil, Int.toNat_natCast, Int.toNat_zero, Nat.zero_add, Nat.add_zero, decide_eq_true_eq, decide_eq_false_iff_not, true_and, and_true, if_true, if_false, true_or, or_true, Bool.false_eq_true, Bool.true_eq_false, Nat.reduceAdd, Nat.reduceLT, wrap_id, wrap_succ, wrap_pred, FX1, FX2, FX3, FX4, false_and, and_false, Bool.not_true, Bool.not_false, beq_self_eq_true, bne_self_eq_false, decide_true, decide_false, Int.reduceBEq, Int.reduceBNe, Int.reduceLT, Int.reduceLE, Int.reduceEq, Int.reduceNe, Int.reduceAdd, Int.reduceSub, Int.reduceMul, Int.reduceNeg, Bool.and_true, Bool.true_and, Bool.and_false, Bool.false_and]
      exact run_three (by omega)
  exact key _ rfl
theorem ce43 : cellTs Tryz.prog 8 43 = some [3, 3] := by kernel_rfl
theorem ag43q : isAggT Tryz.prog 43 = true := by kernel_rfl
set_option maxRecDepth 4000 in
theorem r_setT {w : World} {v : Value} (x : ArgR Tryz.prog w 43 v) : ∃ a b : Int, v = .agg #[.int .i64 a, .int .i64 b] := by
  obtain ⟨cs, rfl, q⟩ := argR_agg ce43 ag43q x
  obtain ⟨a, b, rfl, q1, q2⟩ := all2_2 q
  obtain ⟨i, rfl, _⟩ := repR_int (f := 7) Tryz.underlying3 q1
  obtain ⟨j, rfl, _⟩ := repR_int (f := 7) Tryz.underlying3 q2
  exact ⟨i, j, rfl⟩
set_option maxRecDepth 4000 in
theorem r_int {w : World} {v : Value} (x : ArgR Tryz.prog w 3 v) : ∃ i : Int, v = .int .i64 i ∧ -9223372036854775808 ≤ i ∧ i ≤ 9223372036854775807 := by
  have q := argR_cell ce3 ag3' x
  obtain ⟨i, rfl, h⟩ := repR_int (f := 7) Tryz.underlying3 q
  exact ⟨i, rfl, wf64 h⟩
theorem call_TNews {w : World} {vs : List Value} (ha : All2 (ArgR Tryz.prog w) [43, 3] vs) : Calls Tryz.prog 7 vs.toArray w fun e w' => e = .returned (.bool true) ∧ Below w.heap.size w w' := by
  obtain ⟨a, b, rfl, h1, h2⟩ := all2_2 ha
  obtain ⟨u, v, rfl⟩ := r_setT h1
  obtain ⟨x, rfl, hl, hx⟩ := r_int h2
  exact the_flat rfl (law_TNews u v x hl hx)

end Go.Proofs.YthhhkplbjcknkaaGreat

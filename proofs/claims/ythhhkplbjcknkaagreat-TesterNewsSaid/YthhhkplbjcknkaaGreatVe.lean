/- Layer 25: a number's digits by the document. -/
import Derived.Test.YthhhkplbjcknkaaGreatVd
namespace Go.Proofs.YthhhkplbjcknkaaGreat
set_option linter.unusedVariables false
set_option linter.unusedSimpArgs false
open Go.RowKit Ev

theorem dg {m : Nat} (h : m < 10) : List.take (m + 1 - m) (List.drop m ([48, 49, 50, 51, 52, 53, 54, 55, 56, 57] : List UInt8)) = [byD m] := by
  have key : ∀ m : Fin 10, List.take (m.1 + 1 - m.1) (List.drop m.1 ([48, 49, 50, 51, 52, 53, 54, 55, 56, 57] : List UInt8)) = [byD m.1] := by decide
  exact key ⟨m, h⟩
theorem pre_len : ∀ (k n : Nat), (pre k n).length ≤ k
  | 0, _ => Nat.le_refl _
  | k + 1, n => by
    unfold pre
    by_cases h1 : n < 10
    · rw [if_pos h1]; simp
    · rw [if_neg h1]
      have := pre_len k (n / 10)
      simp; omega
section
variable {lf d n n0 : Nat} {h : H} {W : Nat → Prop} {Q : Value → H → Nat → Prop}
theorem refDigL {K : Ex → Fr → M Value} {x2 x5 : Value} : ∀ (k x fu : Nat) (l : List UInt8), x < 10 ^ (k + 1) → x ≤ 9223372036854775807 → k < fu → k + l.length < 1000 → (∀ y0 y13, Run W n0 (K (Ex.exit 0) [(0, y0), (2, x2), (3, .string ⟨((pre (k + 1) x).map byD ++ l).toArray⟩), (5, x5), (13, y13)]) h n Q) →
    Run W n0 (lpA_balerref25_Digits lf d fu K (.int .i64 (x : Int)) x2 (.string ⟨l.toArray⟩) x5) h n Q := by
  intro k
  induction k with
  | zero =>
    intro x fu l hx hx2 hf hk hK
    obtain ⟨fu, rfl⟩ : ∃ f, fu = f + 1 := ⟨fu - 1, by omega⟩
    have hx : x < 10 := by simpa using hx
    rw [succA_balerref25_Digits]
    have h1 : ¬ ((10 : Int) ≤ (x : Int)) := by omega
    unfold pre at hK
    rw [if_pos hx] at hK
    try simp (disch := first | omega | assumption | exact one_int _ _ | exact one_slice _ _ _ | exact one_ptr _ | exact one_bool _ | exact one_string _) only [optK_some_eq, nil2_ptr, ifV_true, ifV_false, run_if, run_out0, run_out1, run_out2, run_out3, optG_some, one_int, one_bool, one_string, one_slice, one_ptr, min2_eq, max2_eq, pick2_eq, u_not, u_neg, cells_agg, inside_ret, chk_true, get_eq, get_ne, List.getElem?_cons_zero, List.getElem?_cons_succ, List.set_cons_zero, List.set_cons_succ, List.length_cons, List.length_nil, Int.toNat_natCast, Int.toNat_zero, Nat.zero_add, Nat.add_zero, decide_eq_true_eq, decide_eq_false_iff_not, true_and, and_true, if_true, if_false, true_or, or_true, Bool.false_eq_true, Bool.true_eq_false, Nat.reduceAdd, Nat.reduceLT, wrap_id, wrap_succ, wrap_pred, FX1, FX2, FX3, FX4, false_and, and_false, Bool.not_true, Bool.not_false, beq_self_eq_true, bne_self_eq_false, decide_true, decide_false, Int.reduceBEq, Int.reduceBNe, Int.reduceLT, Int.reduceLE, Int.reduceEq, Int.reduceNe, Int.reduceAdd, Int.reduceSub, Int.reduceMul, Int.reduceNeg, Bool.and_true, Bool.true_and, Bool.and_false, Bool.false_and, h1]
    exact hK _ _
  | succ k ih =>
    intro x fu l hx hx2 hf hk hK
    obtain ⟨fu, rfl⟩ : ∃ f, fu = f + 1 := ⟨fu - 1, by omega⟩
    rw [succA_balerref25_Digits]
    by_cases h10 : x < 10
    · have h1 : ¬ ((10 : Int) ≤ (x : Int)) := by omega
      unfold pre at hK
      rw [if_pos h10] at hK
      try simp (disch := first | omega | assumption | exact one_int _ _ | exact one_slice _ _ _ | exact one_ptr _ | exact one_bool _ | exact one_string _) only [optK_some_eq, nil2_ptr, ifV_true, ifV_false, run_if, run_out0, run_out1, run_out2, run_out3, optG_some, one_int, one_bool, one_string, one_slice, one_ptr, min2_eq, max2_eq, pick2_eq, u_not, u_neg, cells_agg, inside_ret, chk_true, get_eq, get_ne, List.getElem?_cons_zero, List.getElem?_cons_succ, List.set_cons_zero, List.set_cons_succ, List.length_cons, List.length_nil, Int.toNat_natCast, Int.toNat_zero, Nat.zero_add, Nat.add_zero, decide_eq_true_eq, decide_eq_false_iff_not, true_and, and_true, if_true, if_false, true_or, or_true, Bool.false_eq_true, Bool.true_eq_false, Nat.reduceAdd, Nat.reduceLT, wrap_id, wrap_succ, wrap_pred, FX1, FX2, FX3, FX4, false_and, and_false, Bool.not_true, Bool.not_false, beq_self_eq_true, bne_self_eq_false, decide_true, decide_false, Int.reduceBEq, Int.reduceBNe, Int.reduceLT, Int.reduceLE, Int.reduceEq, Int.reduceNe, Int.reduceAdd, Int.reduceSub, Int.reduceMul, Int.reduceNeg, Bool.and_true, Bool.true_and, Bool.and_false, Bool.false_and, h1]
      exact hK _ _
    · have h1 : (10 : Int) ≤ (x : Int) := by omega
      have hm : x / 10 % 10 < 10 := by omega
      have e1 := dg hm
      have e2 : (((x / 10 % 10 : Nat) : Int) + 1).toNat = x / 10 % 10 + 1 := by omega
      have hlen : [byD (x / 10 % 10)].length + l.length ≤ 9223372036854775807 := by simp; omega
      have w1 : IntKind.i64.wrap ((x / 10 : Nat) : Int) = ((x / 10 : Nat) : Int) := wrap_id (by omega) (by omega)
      have hs : (([48, 49, 50, 51, 52, 53, 54, 55, 56, 57] : List UInt8)).length = 10 := rfl
      try simp (disch := first | omega | assumption | exact one_int _ _ | exact one_slice _ _ _ | exact one_ptr _ | exact one_bool _ | exact one_string _) only [optK_some_eq, nil2_ptr, ifV_true, ifV_false, run_if, run_out0, run_out1, run_out2, run_out3, optG_some, one_int, one_bool, one_string, one_slice, one_ptr, min2_eq, max2_eq, pick2_eq, u_not, u_neg, cells_agg, inside_ret, chk_true, get_eq, get_ne, List.getElem?_cons_zero, List.getElem?_cons_succ, List.set_cons_zero, List.set_cons_succ, List.length_cons, List.length_nil, Int.toNat_natCast, Int.toNat_zero, Nat.zero_add, Nat.add_zero, decide_eq_true_eq, decide_eq_false_iff_not, true_and, and_true, if_true, if_false, true_or, or_true, Bool.false_eq_true, Bool.true_eq_false, Nat.reduceAdd, Nat.reduceLT, wrap_id, wrap_succ, wrap_pred, FX1, FX2, FX3, FX4, false_and, and_false, Bool.not_true, Bool.not_false, beq_self_eq_true, bne_self_eq_false, decide_true, decide_false, Int.reduceBEq, Int.reduceBNe, Int.reduceLT, Int.reduceLE, Int.reduceEq, Int.reduceNe, Int.reduceAdd, Int.reduceSub, Int.reduceMul, Int.reduceNeg, Bool.and_true, Bool.true_and, Bool.and_false, Bool.false_and, h1, tdiv10, tmod10, e1, e2, w1, hs]
      refine ih (x / 10) fu _ (by rw [Nat.pow_succ] at hx; omega) (by omega) (by omega) (by simp; omega) fun y0 y13 => ?_
      have := hK y0 y13
      unfold pre at this
      rw [if_neg h10] at this
      simpa [List.append_assoc] using this
end
theorem s_refDigits (lf d n : Nat) (h : H) (hlf : 30 ≤ lf) {x : Int} (hl : -9223372036854775808 ≤ x) (hx : x ≤ 9223372036854775807) : Run (fun _ => False) n (evCall2 Tryz.prog gt lf (d + 1) 38 #[.int .i64 x]) h n fun v h' n' => v = strD (digs 20 x.toNat) ∧ h' = h ∧ n' = n := by
  rw [sh_balerref25_Digits]
  refine Run.inside_ ?_
  unfold b_balerref25_Digits
  have hb : x.toNat < 10 ^ (19 + 1) := by omega
  have hd := digs_pre 19 x.toNat hb
  have fin : ∀ (x5 : Value), Run (fun _ => False) n (lpA_balerref25_Digits lf d lf (kcA_balerref25_Digits lf d) (.int .i64 (x.toNat : Int)) (Value.string { data := #[] }) (.string ⟨[byD (x.toNat % 10)].toArray⟩) x5) h n fun v h' n' => v = strD (digs 20 x.toNat) ∧ h' = h ∧ n' = n := fun x5 => by
    refine refDigL 19 x.toNat lf _ hb (by omega) (by omega) (by simp) fun y0 y13 => ?_
    rw [kcAa_balerref25_Digits, run_out1, hd]
    refine ⟨?_, rfl, rfl⟩
    unfold strD
    simp
  by_cases h0 : x < 0
  · have e0 : x.toNat = 0 := by omega
    rw [e0] at fin ⊢
    have e1 := dg (m := 0) (by omega)
    have hs : (([48, 49, 50, 51, 52, 53, 54, 55, 56, 57] : List UInt8)).length = 10 := rfl
    have t0 : Int.tmod 0 10 = ((0 : Nat) : Int) := rfl
    have e2 : (((0 : Nat) : Int) + 1).toNat = 0 + 1 := rfl
    try simp (disch := first | omega | assumption | exact one_int _ _ | exact one_slice _ _ _ | exact one_ptr _ | exact one_bool _ | exact one_string _) only [optK_some_eq, nil2_ptr, ifV_true, ifV_false, run_if, run_out0, run_out1, run_out2, run_out3, optG_some, one_int, one_bool, one_string, one_slice, one_ptr, min2_eq, max2_eq, pick2_eq, u_not, u_neg, cells_agg, inside_ret, chk_true, get_eq, get_ne, List.getElem?_cons_zero, List.getElem?_cons_succ, List.set_cons_zero, List.set_cons_succ, List.length_cons, List.length_nil, Int.toNat_natCast, Int.toNat_zero, Nat.zero_add, Nat.add_zero, decide_eq_true_eq, decide_eq_false_iff_not, true_and, and_true, if_true, if_false, true_or, or_true, Bool.false_eq_true, Bool.true_eq_false, Nat.reduceAdd, Nat.reduceLT, wrap_id, wrap_succ, wrap_pred, FX1, FX2, FX3, FX4, false_and, and_false, Bool.not_true, Bool.not_false, beq_self_eq_true, bne_self_eq_false, decide_true, decide_false, Int.reduceBEq, Int.reduceBNe, Int.reduceLT, Int.reduceLE, Int.reduceEq, Int.reduceNe, Int.reduceAdd, Int.reduceSub, Int.reduceMul, Int.reduceNeg, Bool.and_true, Bool.true_and, Bool.and_false, Bool.false_and, h0, t0, e1, e2, hs]
    trace_state
    exact fin _
  · obtain ⟨m, rfl⟩ : ∃ m : Nat, x = m := ⟨x.toNat, by omega⟩
    have h1 : ¬ ((m : Int) < 0) := h0
    have e1 := dg (m := m % 10) (by omega)
    have e2 : (((m % 10 : Nat) : Int) + 1).toNat = m % 10 + 1 := by omega
    have hs : (([48, 49, 50, 51, 52, 53, 54, 55, 56, 57] : List UInt8)).length = 10 := rfl
    try simp (disch := first | omega | assumption | exact one_int _ _ | exact one_slice _ _ _ | exact one_ptr _ | exact one_bool _ | exact one_string _) only [optK_some_eq, nil2_ptr, ifV_true, ifV_false, run_if, run_out0, run_out1, run_out2, run_out3, optG_some, one_int, one_bool, one_string, one_slice, one_ptr, min2_eq, max2_eq, pick2_eq, u_not, u_neg, cells_agg, inside_ret, chk_true, get_eq, get_ne, List.getElem?_cons_zero, List.getElem?_cons_succ, List.set_cons_zero, List.set_cons_succ, List.length_cons, List.length_nil, Int.toNat_natCast, Int.toNat_zero, Nat.zero_add, Nat.add_zero, decide_eq_true_eq, decide_eq_false_iff_not, true_and, and_true, if_true, if_false, true_or, or_true, Bool.false_eq_true, Bool.true_eq_false, Nat.reduceAdd, Nat.reduceLT, wrap_id, wrap_succ, wrap_pred, FX1, FX2, FX3, FX4, false_and, and_false, Bool.not_true, Bool.not_false, beq_self_eq_true, bne_self_eq_false, decide_true, decide_false, Int.reduceBEq, Int.reduceBNe, Int.reduceLT, Int.reduceLE, Int.reduceEq, Int.reduceNe, Int.reduceAdd, Int.reduceSub, Int.reduceMul, Int.reduceNeg, Bool.and_true, Bool.true_and, Bool.and_false, Bool.false_and, h1, tmod10, e1, e2, hs]
    exact fin _

end Go.Proofs.YthhhkplbjcknkaaGreat

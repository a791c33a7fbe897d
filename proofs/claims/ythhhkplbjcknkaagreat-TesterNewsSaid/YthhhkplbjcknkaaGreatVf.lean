/- Layer 25: statement TesterNews. -/
import Derived.Test.YthhhkplbjcknkaaGreatVe
import Derived.Test.YthhhkplbjcknkaaGreatUd
namespace Go.Proofs.YthhhkplbjcknkaaGreat
set_option linter.unusedVariables false
set_option linter.unusedSimpArgs false
open Go.RowKit Ev

def teB (p : Nat) : AB := ⟨73, true, [.pointer (some ⟨p, 0, none⟩), .int .i64 0, .string ⟨#[]⟩, .bool false]⟩
theorem sz73' : size? Tryz.prog 73 = some 4 := by kernel_rfl
theorem sz43' : size? Tryz.prog 43 = some 2 := by kernel_rfl
theorem ag43' : agg? Tryz.prog 43 = some true := by kernel_rfl
section
variable (lf d n : Nat) (h : H)
theorem t_New_ok {u w : Int} (h1 : 24 ≤ u) (h2 : u ≤ 100000) (h3 : mayW w 4096 = true) : Run (fun _ => False) n (evCall2 Tryz.prog gt lf (d + 4) 35 #[.int .i64 u, .int .i64 w]) h n fun v h' n' => v = .tuple #[.pointer (some ⟨n + 3, 0, none⟩), .int .i64 0] ∧ h' = (((h.set n (some (uRd u))).set (n + 1) (some (bitsB []))).set (n + 2) (some (exB w 4096 (n + 1) n))).set (n + 3) (some (teB (n + 2))) ∧ n' = n + 4 := by
  rw [sh_tester_New]
  refine Run.inside_ ?_
  unfold b_tester_New
  refine run_call okd (s_New_ok lf d n h h1 h2 h3) (Nat.le_refl _) (fun _ _ h => h.elim) ?_
  rintro _ _ _ _ _ ⟨rfl, rfl, rfl⟩
  rw [ext0, ext1]
  try simp (disch := first | omega | assumption | exact one_int _ _ | exact one_slice _ _ _ | exact one_ptr _ | exact one_bool _ | exact one_string _) only [optK_some_eq, nil2_ptr, ifV_true, ifV_false, run_if, run_out0, run_out1, run_out2, run_out3, optG_some, one_int, one_bool, one_string, one_slice, one_ptr, min2_eq, max2_eq, pick2_eq, u_not, u_neg, cells_agg, inside_ret, chk_true, get_eq, get_ne, List.getElem?_cons_zero, List.getElem?_cons_succ, List.set_cons_zero, List.set_cons_succ, List.length_cons, List.length_nil, Int.toNat_natCast, Int.toNat_zero, Nat.zero_add, Nat.add_zero, decide_eq_true_eq, decide_eq_false_iff_not, true_and, and_true, if_true, if_false, true_or, or_true, Bool.false_eq_true, Bool.true_eq_false, Nat.reduceAdd, Nat.reduceLT, wrap_id, wrap_succ, wrap_pred, FX1, FX2, FX3, FX4, false_and, and_false, Bool.not_true, Bool.not_false, beq_self_eq_true, bne_self_eq_false, decide_true, decide_false, Int.reduceBEq, Int.reduceBNe, Int.reduceLT, Int.reduceLE, Int.reduceEq, Int.reduceNe, Int.reduceAdd, Int.reduceSub, Int.reduceMul, Int.reduceNeg, Bool.and_true, Bool.true_and, Bool.and_false, Bool.false_and]
  refine run_box sz73' _ _ ?_
  try simp (disch := first | omega | assumption | exact one_int _ _ | exact one_slice _ _ _ | exact one_ptr _ | exact one_bool _ | exact one_string _) only [optK_some_eq, nil2_ptr, ifV_true, ifV_false, run_if, run_out0, run_out1, run_out2, run_out3, optG_some, one_int, one_bool, one_string, one_slice, one_ptr, min2_eq, max2_eq, pick2_eq, u_not, u_neg, cells_agg, inside_ret, chk_true, get_eq, get_ne, List.getElem?_cons_zero, List.getElem?_cons_succ, List.set_cons_zero, List.set_cons_succ, List.length_cons, List.length_nil, Int.toNat_natCast, Int.toNat_zero, Nat.zero_add, Nat.add_zero, decide_eq_true_eq, decide_eq_false_iff_not, true_and, and_true, if_true, if_false, true_or, or_true, Bool.false_eq_true, Bool.true_eq_false, Nat.reduceAdd, Nat.reduceLT, wrap_id, wrap_succ, wrap_pred, FX1, FX2, FX3, FX4, false_and, and_false, Bool.not_true, Bool.not_false, beq_self_eq_true, bne_self_eq_false, decide_true, decide_false, Int.reduceBEq, Int.reduceBNe, Int.reduceLT, Int.reduceLE, Int.reduceEq, Int.reduceNe, Int.reduceAdd, Int.reduceSub, Int.reduceMul, Int.reduceNeg, Bool.and_true, Bool.true_and, Bool.and_false, Bool.false_and]
  rfl
theorem t_New_no {u w : Int} (h1 : mayU u w 4096 = false) : Run (fun _ => False) n (evCall2 Tryz.prog gt lf (d + 4) 35 #[.int .i64 u, .int .i64 w]) h n fun v h' n' => v = .tuple #[.pointer none, .int .i64 1] := by
  rw [sh_tester_New]
  refine Run.inside_ ?_
  unfold b_tester_New
  refine run_call okd (s_New_no lf d n h h1) (Nat.le_refl _) (fun _ _ h => h.elim) ?_
  rintro _ _ _ _ _ rfl
  rw [ext0, ext1]
  try simp (disch := first | omega | assumption | exact one_int _ _ | exact one_slice _ _ _ | exact one_ptr _ | exact one_bool _ | exact one_string _) only [optK_some_eq, nil2_ptr, ifV_true, ifV_false, run_if, run_out0, run_out1, run_out2, run_out3, optG_some, one_int, one_bool, one_string, one_slice, one_ptr, min2_eq, max2_eq, pick2_eq, u_not, u_neg, cells_agg, inside_ret, chk_true, get_eq, get_ne, List.getElem?_cons_zero, List.getElem?_cons_succ, List.set_cons_zero, List.set_cons_succ, List.length_cons, List.length_nil, Int.toNat_natCast, Int.toNat_zero, Nat.zero_add, Nat.add_zero, decide_eq_true_eq, decide_eq_false_iff_not, true_and, and_true, if_true, if_false, true_or, or_true, Bool.false_eq_true, Bool.true_eq_false, Nat.reduceAdd, Nat.reduceLT, wrap_id, wrap_succ, wrap_pred, FX1, FX2, FX3, FX4, false_and, and_false, Bool.not_true, Bool.not_false, beq_self_eq_true, bne_self_eq_false, decide_true, decide_false, Int.reduceBEq, Int.reduceBNe, Int.reduceLT, Int.reduceLE, Int.reduceEq, Int.reduceNe, Int.reduceAdd, Int.reduceSub, Int.reduceMul, Int.reduceNeg, Bool.and_true, Bool.true_and, Bool.and_false, Bool.false_and]
theorem t_Need_ok {u w : Int} (h1 : 24 ≤ u) (h2 : u ≤ 100000) (h3 : mayW w 4096 = true) : Run (fun _ => False) n (evCall2 Tryz.prog gt lf (d + 4) 36 #[.int .i64 u, .int .i64 w]) h n fun v h' n' => v = .tuple #[.int .i64 (w + 4096 + 36 * u + 40960 + 32), .int .i64 0] ∧ h' = h.set n (some (uRd u)) ∧ n' = n + 1 := by
  have h4 := h3
  unfold mayW at h4
  simp only [decide_eq_true_eq] at h4
  rw [sh_tester_Need]
  refine Run.inside_ ?_
  unfold b_tester_Need
  refine run_call okd (s_Need_ok lf d n h h1 h2 h3) (Nat.le_refl _) (fun _ _ h => h.elim) ?_
  rintro _ _ _ _ _ ⟨rfl, rfl, rfl⟩
  rw [ext0, ext1]
  try simp (disch := first | omega | assumption | exact one_int _ _ | exact one_slice _ _ _ | exact one_ptr _ | exact one_bool _ | exact one_string _) only [optK_some_eq, nil2_ptr, ifV_true, ifV_false, run_if, run_out0, run_out1, run_out2, run_out3, optG_some, one_int, one_bool, one_string, one_slice, one_ptr, min2_eq, max2_eq, pick2_eq, u_not, u_neg, cells_agg, inside_ret, chk_true, get_eq, get_ne, List.getElem?_cons_zero, List.getElem?_cons_succ, List.set_cons_zero, List.set_cons_succ, List.length_cons, List.length_nil, Int.toNat_natCast, Int.toNat_zero, Nat.zero_add, Nat.add_zero, decide_eq_true_eq, decide_eq_false_iff_not, true_and, and_true, if_true, if_false, true_or, or_true, Bool.false_eq_true, Bool.true_eq_false, Nat.reduceAdd, Nat.reduceLT, wrap_id, wrap_succ, wrap_pred, FX1, FX2, FX3, FX4, false_and, and_false, Bool.not_true, Bool.not_false, beq_self_eq_true, bne_self_eq_false, decide_true, decide_false, Int.reduceBEq, Int.reduceBNe, Int.reduceLT, Int.reduceLE, Int.reduceEq, Int.reduceNe, Int.reduceAdd, Int.reduceSub, Int.reduceMul, Int.reduceNeg, Bool.and_true, Bool.true_and, Bool.and_false, Bool.false_and]
theorem t_Need_no {u w : Int} (h1 : mayU u w 4096 = false) : Run (fun _ => False) n (evCall2 Tryz.prog gt lf (d + 4) 36 #[.int .i64 u, .int .i64 w]) h n fun v h' n' => v = .tuple #[.int .i64 0, .int .i64 1] := by
  rw [sh_tester_Need]
  refine Run.inside_ ?_
  unfold b_tester_Need
  refine run_call okd (s_Need_no lf d n h h1) (Nat.le_refl _) (fun _ _ h => h.elim) ?_
  rintro _ _ _ _ _ rfl
  rw [ext0, ext1]
  try simp (disch := first | omega | assumption | exact one_int _ _ | exact one_slice _ _ _ | exact one_ptr _ | exact one_bool _ | exact one_string _) only [optK_some_eq, nil2_ptr, ifV_true, ifV_false, run_if, run_out0, run_out1, run_out2, run_out3, optG_some, one_int, one_bool, one_string, one_slice, one_ptr, min2_eq, max2_eq, pick2_eq, u_not, u_neg, cells_agg, inside_ret, chk_true, get_eq, get_ne, List.getElem?_cons_zero, List.getElem?_cons_succ, List.set_cons_zero, List.set_cons_succ, List.length_cons, List.length_nil, Int.toNat_natCast, Int.toNat_zero, Nat.zero_add, Nat.add_zero, decide_eq_true_eq, decide_eq_false_iff_not, true_and, and_true, if_true, if_false, true_or, or_true, Bool.false_eq_true, Bool.true_eq_false, Nat.reduceAdd, Nat.reduceLT, wrap_id, wrap_succ, wrap_pred, FX1, FX2, FX3, FX4, false_and, and_false, Bool.not_true, Bool.not_false, beq_self_eq_true, bne_self_eq_false, decide_true, decide_false, Int.reduceBEq, Int.reduceBNe, Int.reduceLT, Int.reduceLE, Int.reduceEq, Int.reduceNe, Int.reduceAdd, Int.reduceSub, Int.reduceMul, Int.reduceNeg, Bool.and_true, Bool.true_and, Bool.and_false, Bool.false_and]
theorem t_refNeed {u w : Int} (h1 : 24 ≤ u) (h2 : u ≤ 100000) (h3 : mayW w 4096 = true) : Run (fun _ => False) n (evCall2 Tryz.prog gt lf (d + 2) 40 #[.int .i64 u, .int .i64 w]) h n fun v h' n' => v = .int .i64 (w + 4096 + 36 * u + 40960 + 32) ∧ h' = h ∧ n' = n := by
  have h4 := h3
  unfold mayW at h4
  simp only [decide_eq_true_eq] at h4
  rw [sh_balerref25_Need]
  refine Run.inside_ ?_
  unfold b_balerref25_Need
  refine run_same (s_refNeed lf d n h h1 h2 h3) (Nat.le_refl _) (fun _ _ h => h.elim) ?_
  try simp (disch := first | omega | assumption | exact one_int _ _ | exact one_slice _ _ _ | exact one_ptr _ | exact one_bool _ | exact one_string _) only [optK_some_eq, nil2_ptr, ifV_true, ifV_false, run_if, run_out0, run_out1, run_out2, run_out3, optG_some, one_int, one_bool, one_string, one_slice, one_ptr, min2_eq, max2_eq, pick2_eq, u_not, u_neg, cells_agg, inside_ret, chk_true, get_eq, get_ne, List.getElem?_cons_zero, List.getElem?_cons_succ, List.set_cons_zero, List.set_cons_succ, List.length_cons, List.length_nil, Int.toNat_natCast, Int.toNat_zero, Nat.zero_add, Nat.add_zero, decide_eq_true_eq, decide_eq_false_iff_not, true_and, and_true, if_true, if_false, true_or, or_true, Bool.false_eq_true, Bool.true_eq_false, Nat.reduceAdd, Nat.reduceLT, wrap_id, wrap_succ, wrap_pred, FX1, FX2, FX3, FX4, false_and, and_false, Bool.not_true, Bool.not_false, beq_self_eq_true, bne_self_eq_false, decide_true, decide_false, Int.reduceBEq, Int.reduceBNe, Int.reduceLT, Int.reduceLE, Int.reduceEq, Int.reduceNe, Int.reduceAdd, Int.reduceSub, Int.reduceMul, Int.reduceNeg, Bool.and_true, Bool.true_and, Bool.and_false, Bool.false_and]
theorem t_May (u w : Int) : Run (fun _ => False) n (evCall2 Tryz.prog gt lf (d + 3) 54 #[.int .i64 u, .int .i64 w]) h n fun v h' n' => v = .bool (mayU u w 4096) ∧ h' = h ∧ n' = n := by
  rw [sh_balerref25_May]
  refine Run.inside_ ?_
  unfold b_balerref25_May
  refine run_same (s_May lf d n h u w 4096) (Nat.le_refl _) (fun _ _ h => h.elim) ?_
  try simp (disch := first | omega | assumption | exact one_int _ _ | exact one_slice _ _ _ | exact one_ptr _ | exact one_bool _ | exact one_string _) only [optK_some_eq, nil2_ptr, ifV_true, ifV_false, run_if, run_out0, run_out1, run_out2, run_out3, optG_some, one_int, one_bool, one_string, one_slice, one_ptr, min2_eq, max2_eq, pick2_eq, u_not, u_neg, cells_agg, inside_ret, chk_true, get_eq, get_ne, List.getElem?_cons_zero, List.getElem?_cons_succ, List.set_cons_zero, List.set_cons_succ, List.length_cons, List.length_nil, Int.toNat_natCast, Int.toNat_zero, Nat.zero_add, Nat.add_zero, decide_eq_true_eq, decide_eq_false_iff_not, true_and, and_true, if_true, if_false, true_or, or_true, Bool.false_eq_true, Bool.true_eq_false, Nat.reduceAdd, Nat.reduceLT, wrap_id, wrap_succ, wrap_pred, FX1, FX2, FX3, FX4, false_and, and_false, Bool.not_true, Bool.not_false, beq_self_eq_true, bne_self_eq_false, decide_true, decide_false, Int.reduceBEq, Int.reduceBNe, Int.reduceLT, Int.reduceLE, Int.reduceEq, Int.reduceNe, Int.reduceAdd, Int.reduceSub, Int.reduceMul, Int.reduceNeg, Bool.and_true, Bool.true_and, Bool.and_false, Bool.false_and]
def setT (u w : Int) : AB := ⟨43, true, [.int .i64 u, .int .i64 w]⟩
theorem t_Smay (u w : Int) : Run (fun _ => False) n (evCall2 Tryz.prog gt lf (d + 4) 39 #[.agg #[.int .i64 u, .int .i64 w]]) h n fun v h' n' => v = .bool (mayU u w 4096) ∧ h' = h.set n (some (setT u w)) ∧ n' = n + 1 := by
  rw [sh_balerlaw25_Setup_may]
  refine Run.inside_ ?_
  unfold b_balerlaw25_Setup_may
  refine run_box sz43' _ _ ?_
  try simp (disch := first | omega | assumption | exact one_int _ _ | exact one_slice _ _ _ | exact one_ptr _ | exact one_bool _ | exact one_string _) only [optK_some_eq, nil2_ptr, ifV_true, ifV_false, run_if, run_out0, run_out1, run_out2, run_out3, optG_some, one_int, one_bool, one_string, one_slice, one_ptr, min2_eq, max2_eq, pick2_eq, u_not, u_neg, cells_agg, inside_ret, chk_true, get_eq, get_ne, List.getElem?_cons_zero, List.getElem?_cons_succ, List.set_cons_zero, List.set_cons_succ, List.length_cons, List.length_nil, Int.toNat_natCast, Int.toNat_zero, Nat.zero_add, Nat.add_zero, decide_eq_true_eq, decide_eq_false_iff_not, true_and, and_true, if_true, if_false, true_or, or_true, Bool.false_eq_true, Bool.true_eq_false, Nat.reduceAdd, Nat.reduceLT, wrap_id, wrap_succ, wrap_pred, FX1, FX2, FX3, FX4, false_and, and_false, Bool.not_true, Bool.not_false, beq_self_eq_true, bne_self_eq_false, decide_true, decide_false, Int.reduceBEq, Int.reduceBNe, Int.reduceLT, Int.reduceLE, Int.reduceEq, Int.reduceNe, Int.reduceAdd, Int.reduceSub, Int.reduceMul, Int.reduceNeg, Bool.and_true, Bool.true_and, Bool.and_false, Bool.false_and]
  refine run_same (t_May lf d _ _ u w) (by omega) (fun _ _ h => h.elim) ?_
  try simp (disch := first | omega | assumption | exact one_int _ _ | exact one_slice _ _ _ | exact one_ptr _ | exact one_bool _ | exact one_string _) only [optK_some_eq, nil2_ptr, ifV_true, ifV_false, run_if, run_out0, run_out1, run_out2, run_out3, optG_some, one_int, one_bool, one_string, one_slice, one_ptr, min2_eq, max2_eq, pick2_eq, u_not, u_neg, cells_agg, inside_ret, chk_true, get_eq, get_ne, List.getElem?_cons_zero, List.getElem?_cons_succ, List.set_cons_zero, List.set_cons_succ, List.length_cons, List.length_nil, Int.toNat_natCast, Int.toNat_zero, Nat.zero_add, Nat.add_zero, decide_eq_true_eq, decide_eq_false_iff_not, true_and, and_true, if_true, if_false, true_or, or_true, Bool.false_eq_true, Bool.true_eq_false, Nat.reduceAdd, Nat.reduceLT, wrap_id, wrap_succ, wrap_pred, FX1, FX2, FX3, FX4, false_and, and_false, Bool.not_true, Bool.not_false, beq_self_eq_true, bne_self_eq_false, decide_true, decide_false, Int.reduceBEq, Int.reduceBNe, Int.reduceLT, Int.reduceLE, Int.reduceEq, Int.reduceNe, Int.reduceAdd, Int.reduceSub, Int.reduceMul, Int.reduceNeg, Bool.and_true, Bool.true_and, Bool.and_false, Bool.false_and]
  rfl
theorem t_Digits {x : Int} (hl : -9223372036854775808 ≤ x) (hx : x ≤ 9223372036854775807) : Run (fun _ => False) n (evCall2 Tryz.prog gt lf (d + 20) 37 #[.int .i64 x]) h n fun v h' n' => v = strD (digs 20 x.toNat) ∧ h' = gar 5 h n ((digs 20 x.toNat).map ceD) ∧ n' = n + (digs 20 x.toNat).length := by
  by_cases h0 : x < 0
  · have e0 : x.toNat = 0 := by omega
    have := s_Dig_small lf (d + 19) n h (x := x) (by omega) hl
    rw [e0] at this ⊢
    exact this
  · obtain ⟨m, rfl⟩ : ∃ m : Nat, x = m := ⟨x.toNat, by omega⟩
    exact s_Digits lf d 19 m n h (by omega) (by omega) (by omega)
end
theorem digs_pos (x : Nat) : 0 < (digs 20 x).length := by
  unfold digs
  split <;> simp
theorem gar_get (e : TypeId) : ∀ (l : List Value) (h : H) (n b : Nat), b < n → (gar e h n l).get b = h.get b
  | [], _, _, _, _ => rfl
  | v :: l, h, n, b, hb => by
    show (gar e (h.set n _) (n + 1) l).get b = _
    rw [gar_get e l _ _ _ (by omega), get_ne _ _ (by omega)]

end Go.Proofs.YthhhkplbjcknkaaGreat

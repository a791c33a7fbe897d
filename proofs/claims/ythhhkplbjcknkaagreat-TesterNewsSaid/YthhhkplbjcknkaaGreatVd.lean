/- Layer 25: the digits of a number, as they are made and as the document says. -/
import Derived.Test.YthhhkplbjcknkaaGreatVb
namespace Go.Proofs.YthhhkplbjcknkaaGreat
set_option linter.unusedVariables false
set_option linter.unusedSimpArgs false
open Go.RowKit Ev

theorem cv58 {β : Type} (v : Value) (k : Value → M β) : conv2 Tryz.prog 58 9 v k = (inside (evToStr v)).bind k := by kernel_rfl
theorem tdiv10 (x : Nat) : (x : Int).tdiv 10 = ((x / 10 : Nat) : Int) := rfl
theorem tmod10 (x : Nat) : (x : Int).tmod 10 = ((x % 10 : Nat) : Int) := rfl
theorem u8d {m : Nat} (h : m < 10) : IntKind.u8.wrap (48 + (m : Int)) = ((48 + m : Nat) : Int) := by
  have := wrapU (x := 48 + m) (by omega)
  rwa [Int.natCast_add] at this
section
variable (lf : Nat)
theorem s_Dig_small (d n : Nat) (h : H) {x : Int} (hx : x < 10) (hl : -9223372036854775808 ≤ x) : Run (fun _ => False) n (evCall2 Tryz.prog gt lf (d + 1) 37 #[.int .i64 x]) h n fun v h' n' => v = strD [x.toNat] ∧ h' = gar 5 h n [ceD x.toNat] ∧ n' = n + 1 := by
  rw [sh_tester_Digits]
  refine Run.inside_ ?_
  unfold b_tester_Digits
  by_cases h0 : x < 0
  · have e0 : x.toNat = 0 := by omega
    have e1 : IntKind.u8.wrap 48 = ((48 + 0 : Nat) : Int) := u8d (m := 0) (by omega)
    rw [e0]
    try simp (disch := first | omega | assumption | exact one_int _ _ | exact one_slice _ _ _ | exact one_ptr _ | exact one_bool _ | exact one_string _) only [optK_some_eq, nil2_ptr, ifV_true, ifV_false, run_if, run_out0, run_out1, run_out2, run_out3, optG_some, one_int, one_bool, one_string, one_slice, one_ptr, min2_eq, max2_eq, pick2_eq, u_not, u_neg, cells_agg, inside_ret, chk_true, get_eq, get_ne, List.getElem?_cons_zero, List.getElem?_cons_succ, List.set_cons_zero, List.set_cons_succ, List.length_cons, List.length_nil, Int.toNat_natCast, Int.toNat_zero, Nat.zero_add, Nat.add_zero, decide_eq_true_eq, decide_eq_false_iff_not, true_and, and_true, if_true, if_false, true_or, or_true, Bool.false_eq_true, Bool.true_eq_false, Nat.reduceAdd, Nat.reduceLT, wrap_id, wrap_succ, wrap_pred, FX1, FX2, FX3, FX4, false_and, and_false, Bool.not_true, Bool.not_false, beq_self_eq_true, bne_self_eq_false, decide_true, decide_false, Int.reduceBEq, Int.reduceBNe, Int.reduceLT, Int.reduceLE, Int.reduceEq, Int.reduceNe, Int.reduceAdd, Int.reduceSub, Int.reduceMul, Int.reduceNeg, Bool.and_true, Bool.true_and, Bool.and_false, Bool.false_and, hx, h0, e1]
    refine run_lit1 c1x58 (one_int _ _) _ ?_
    rw [cv58]
    refine run_str1 (get_eq _ _ _) (Nat.lt_succ_self _) _ _ ?_
    try simp (disch := first | omega | assumption | exact one_int _ _ | exact one_slice _ _ _ | exact one_ptr _ | exact one_bool _ | exact one_string _) only [optK_some_eq, nil2_ptr, ifV_true, ifV_false, run_if, run_out0, run_out1, run_out2, run_out3, optG_some, one_int, one_bool, one_string, one_slice, one_ptr, min2_eq, max2_eq, pick2_eq, u_not, u_neg, cells_agg, inside_ret, chk_true, get_eq, get_ne, List.getElem?_cons_zero, List.getElem?_cons_succ, List.set_cons_zero, List.set_cons_succ, List.length_cons, List.length_nil, Int.toNat_natCast, Int.toNat_zero, Nat.zero_add, Nat.add_zero, decide_eq_true_eq, decide_eq_false_iff_not, true_and, and_true, if_true, if_false, true_or, or_true, Bool.false_eq_true, Bool.true_eq_false, Nat.reduceAdd, Nat.reduceLT, wrap_id, wrap_succ, wrap_pred, FX1, FX2, FX3, FX4, false_and, and_false, Bool.not_true, Bool.not_false, beq_self_eq_true, bne_self_eq_false, decide_true, decide_false, Int.reduceBEq, Int.reduceBNe, Int.reduceLT, Int.reduceLE, Int.reduceEq, Int.reduceNe, Int.reduceAdd, Int.reduceSub, Int.reduceMul, Int.reduceNeg, Bool.and_true, Bool.true_and, Bool.and_false, Bool.false_and]
    exact ⟨rfl, rfl⟩
  · obtain ⟨m, rfl⟩ : ∃ m : Nat, x = m := ⟨x.toNat, by omega⟩
    have e1 := u8d (m := m) (by omega)
    have h1 : ¬ ((m : Int) < 0) := h0
    try simp (disch := first | omega | assumption | exact one_int _ _ | exact one_slice _ _ _ | exact one_ptr _ | exact one_bool _ | exact one_string _) only [optK_some_eq, nil2_ptr, ifV_true, ifV_false, run_if, run_out0, run_out1, run_out2, run_out3, optG_some, one_int, one_bool, one_string, one_slice, one_ptr, min2_eq, max2_eq, pick2_eq, u_not, u_neg, cells_agg, inside_ret, chk_true, get_eq, get_ne, List.getElem?_cons_zero, List.getElem?_cons_succ, List.set_cons_zero, List.set_cons_succ, List.length_cons, List.length_nil, Int.toNat_natCast, Int.toNat_zero, Nat.zero_add, Nat.add_zero, decide_eq_true_eq, decide_eq_false_iff_not, true_and, and_true, if_true, if_false, true_or, or_true, Bool.false_eq_true, Bool.true_eq_false, Nat.reduceAdd, Nat.reduceLT, wrap_id, wrap_succ, wrap_pred, FX1, FX2, FX3, FX4, false_and, and_false, Bool.not_true, Bool.not_false, beq_self_eq_true, bne_self_eq_false, decide_true, decide_false, Int.reduceBEq, Int.reduceBNe, Int.reduceLT, Int.reduceLE, Int.reduceEq, Int.reduceNe, Int.reduceAdd, Int.reduceSub, Int.reduceMul, Int.reduceNeg, Bool.and_true, Bool.true_and, Bool.and_false, Bool.false_and, hx, h1, e1]
    refine run_lit1 c1x58 (one_int _ _) _ ?_
    rw [cv58]
    refine run_str1 (get_eq _ _ _) (Nat.lt_succ_self _) _ _ ?_
    try simp (disch := first | omega | assumption | exact one_int _ _ | exact one_slice _ _ _ | exact one_ptr _ | exact one_bool _ | exact one_string _) only [optK_some_eq, nil2_ptr, ifV_true, ifV_false, run_if, run_out0, run_out1, run_out2, run_out3, optG_some, one_int, one_bool, one_string, one_slice, one_ptr, min2_eq, max2_eq, pick2_eq, u_not, u_neg, cells_agg, inside_ret, chk_true, get_eq, get_ne, List.getElem?_cons_zero, List.getElem?_cons_succ, List.set_cons_zero, List.set_cons_succ, List.length_cons, List.length_nil, Int.toNat_natCast, Int.toNat_zero, Nat.zero_add, Nat.add_zero, decide_eq_true_eq, decide_eq_false_iff_not, true_and, and_true, if_true, if_false, true_or, or_true, Bool.false_eq_true, Bool.true_eq_false, Nat.reduceAdd, Nat.reduceLT, wrap_id, wrap_succ, wrap_pred, FX1, FX2, FX3, FX4, false_and, and_false, Bool.not_true, Bool.not_false, beq_self_eq_true, bne_self_eq_false, decide_true, decide_false, Int.reduceBEq, Int.reduceBNe, Int.reduceLT, Int.reduceLE, Int.reduceEq, Int.reduceNe, Int.reduceAdd, Int.reduceSub, Int.reduceMul, Int.reduceNeg, Bool.and_true, Bool.true_and, Bool.and_false, Bool.false_and]
    exact ⟨rfl, rfl⟩
theorem s_Digits (d : Nat) : ∀ (k x n : Nat) (h : H), x < 10 ^ (k + 1) → x ≤ 9223372036854775807 → k < 100 → Run (fun _ => False) n (evCall2 Tryz.prog gt lf (d + (k + 1)) 37 #[.int .i64 (x : Int)]) h n fun v h' n' => v = strD (digs (k + 1) x) ∧ h' = gar 5 h n ((digs (k + 1) x).map ceD) ∧ n' = n + (digs (k + 1) x).length := by
  intro k
  induction k with
  | zero =>
    intro x n h hx hx2 _
    have hx : x < 10 := by simpa using hx
    have := s_Dig_small lf d n h (x := (x : Int)) (by omega) (by omega)
    unfold digs
    rw [if_pos hx]
    exact this
  | succ k ih =>
    intro x n h hx hx2 hk
    by_cases h10 : x < 10
    · have := s_Dig_small lf (d + (k + 1)) n h (x := (x : Int)) (by omega) (by omega)
      unfold digs
      rw [if_pos h10]
      exact this
    · have h11 : ¬ ((x : Int) < 10) := by omega
      have hlen := digs_len (k + 1) (x / 10)
      unfold digs
      rw [if_neg h10]
      show Run (fun _ => False) n (evCall2 Tryz.prog gt lf (d + (k + 1) + 1) 37 #[.int .i64 (x : Int)]) h n _
      rw [sh_tester_Digits]
      refine Run.inside_ ?_
      unfold b_tester_Digits
      try simp (disch := first | omega | assumption | exact one_int _ _ | exact one_slice _ _ _ | exact one_ptr _ | exact one_bool _ | exact one_string _) only [optK_some_eq, nil2_ptr, ifV_true, ifV_false, run_if, run_out0, run_out1, run_out2, run_out3, optG_some, one_int, one_bool, one_string, one_slice, one_ptr, min2_eq, max2_eq, pick2_eq, u_not, u_neg, cells_agg, inside_ret, chk_true, get_eq, get_ne, List.getElem?_cons_zero, List.getElem?_cons_succ, List.set_cons_zero, List.set_cons_succ, List.length_cons, List.length_nil, Int.toNat_natCast, Int.toNat_zero, Nat.zero_add, Nat.add_zero, decide_eq_true_eq, decide_eq_false_iff_not, true_and, and_true, if_true, if_false, true_or, or_true, Bool.false_eq_true, Bool.true_eq_false, Nat.reduceAdd, Nat.reduceLT, wrap_id, wrap_succ, wrap_pred, FX1, FX2, FX3, FX4, false_and, and_false, Bool.not_true, Bool.not_false, beq_self_eq_true, bne_self_eq_false, decide_true, decide_false, Int.reduceBEq, Int.reduceBNe, Int.reduceLT, Int.reduceLE, Int.reduceEq, Int.reduceNe, Int.reduceAdd, Int.reduceSub, Int.reduceMul, Int.reduceNeg, Bool.and_true, Bool.true_and, Bool.and_false, Bool.false_and, h11, tdiv10]
      refine timed_call okd (ih (x / 10) n h (by rw [Nat.pow_succ] at hx; omega) (by omega) (by omega)) (Nat.le_refl _) (fun _ _ h => h.elim) ?_
      rintro v h1 n1 L hn fr ⟨rfl, rfl, rfl⟩ hL hw
      have e1 := u8d (m := x % 10) (by omega)
      try simp (disch := first | omega | assumption | exact one_int _ _ | exact one_slice _ _ _ | exact one_ptr _ | exact one_bool _ | exact one_string _) only [optK_some_eq, nil2_ptr, ifV_true, ifV_false, run_if, run_out0, run_out1, run_out2, run_out3, optG_some, one_int, one_bool, one_string, one_slice, one_ptr, min2_eq, max2_eq, pick2_eq, u_not, u_neg, cells_agg, inside_ret, chk_true, get_eq, get_ne, List.getElem?_cons_zero, List.getElem?_cons_succ, List.set_cons_zero, List.set_cons_succ, List.length_cons, List.length_nil, Int.toNat_natCast, Int.toNat_zero, Nat.zero_add, Nat.add_zero, decide_eq_true_eq, decide_eq_false_iff_not, true_and, and_true, if_true, if_false, true_or, or_true, Bool.false_eq_true, Bool.true_eq_false, Nat.reduceAdd, Nat.reduceLT, wrap_id, wrap_succ, wrap_pred, FX1, FX2, FX3, FX4, false_and, and_false, Bool.not_true, Bool.not_false, beq_self_eq_true, bne_self_eq_false, decide_true, decide_false, Int.reduceBEq, Int.reduceBNe, Int.reduceLT, Int.reduceLE, Int.reduceEq, Int.reduceNe, Int.reduceAdd, Int.reduceSub, Int.reduceMul, Int.reduceNeg, Bool.and_true, Bool.true_and, Bool.and_false, Bool.false_and, tmod10, e1]
      refine timed_ret _ _ ?_
      refine timed_lit1 c1x58 (one_int _ _) _ ?_
      rw [cv58]
      refine timed_str1 (get_eq _ _ _) (Nat.lt_succ_self _) _ _ ?_
      have hw' : ∀ e ∈ L, e.wr = false := fun e he => by
        cases hq : e.wr with
        | false => rfl
        | true => exact (hw e he hq).elim
      have c1 : Tk.clash ⟨n, n + (digs (k + 1) (x / 10)).length, L⟩ ⟨n + (digs (k + 1) (x / 10)).length, n + (digs (k + 1) (x / 10)).length, []⟩ = false :=
        clash_far hw' (by simp) (fun e he => by have := hL e he; show e.b < n + _; omega) (by simp)
      have c2 : Tk.clash ⟨n, n + (digs (k + 1) (x / 10)).length, L⟩ ⟨n + (digs (k + 1) (x / 10)).length, n + (digs (k + 1) (x / 10)).length + 1, []⟩ = false :=
        clash_far hw' (by simp) (fun e he => by have := hL e he; show e.b < n + _; omega) (by simp)
      have c3 : Tk.clash ⟨n, n + (digs (k + 1) (x / 10)).length, L⟩ ⟨n + (digs (k + 1) (x / 10)).length + 1, n + (digs (k + 1) (x / 10)).length + 1, [⟨false, n + (digs (k + 1) (x / 10)).length, some 0⟩]⟩ = false :=
        clash_far hw' (by simp) (fun e he => by have := hL e he; show e.b < n + _ + 1; omega) (by simp)
      unfold strD
      have hlen2 : ((digs (k + 1) (x / 10)).map byD).length + [UInt8.ofNat (48 + x % 10)].length ≤ 9223372036854775807 := by
        simp; omega
      try simp (disch := first | omega | assumption | exact one_int _ _ | exact one_slice _ _ _ | exact one_ptr _ | exact one_bool _ | exact one_string _) only [optK_some_eq, nil2_ptr, ifV_true, ifV_false, run_if, run_out0, run_out1, run_out2, run_out3, optG_some, one_int, one_bool, one_string, one_slice, one_ptr, min2_eq, max2_eq, pick2_eq, u_not, u_neg, cells_agg, inside_ret, chk_true, get_eq, get_ne, List.getElem?_cons_zero, List.getElem?_cons_succ, List.set_cons_zero, List.set_cons_succ, List.length_cons, List.length_nil, Int.toNat_natCast, Int.toNat_zero, Nat.zero_add, Nat.add_zero, decide_eq_true_eq, decide_eq_false_iff_not, true_and, and_true, if_true, if_false, true_or, or_true, Bool.false_eq_true, Bool.true_eq_false, Nat.reduceAdd, Nat.reduceLT, wrap_id, wrap_succ, wrap_pred, FX1, FX2, FX3, FX4, false_and, and_false, Bool.not_true, Bool.not_false, beq_self_eq_true, bne_self_eq_false, decide_true, decide_false, Int.reduceBEq, Int.reduceBNe, Int.reduceLT, Int.reduceLE, Int.reduceEq, Int.reduceNe, Int.reduceAdd, Int.reduceSub, Int.reduceMul, Int.reduceNeg, Bool.and_true, Bool.true_and, Bool.and_false, Bool.false_and, c1, c2, c3, hlen2]
      refine ⟨?_, ?_, ?_⟩
      · simp [byD]
      · rw [List.map_append, List.map_cons, List.map_nil, gar_app]
        simp [ceD]
      · simp; omega
end

end Go.Proofs.YthhhkplbjcknkaaGreat

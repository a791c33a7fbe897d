/- Layer 23: statement PressNews. -/
import Derived.Test.YthhhkplbjcknkaaGreatDoorQc
namespace Go.Proofs.YthhhkplbjcknkaaGreatDoor
set_option linter.unusedVariables false
set_option linter.unusedSimpArgs false
open Go.RowKit Ev
theorem PrAt.keep {h h' : H} {n n' n0 p l : Nat} {win : Int} {s : List UInt8} {en fl : Bool} {bl : Value} (x : PrAt h n n0 p win s en fl bl l) (hn : n ≤ n') (hk : ∀ b, n0 ≤ b → b < n → h'.get b = h.get b) : PrAt h' n' n0 p win s en fl bl l := by
  obtain ⟨sp, c, q, st, room, gp, gsp, gq, h1, h2, h3, h4, h5, h6, h7, h8, h9⟩ := x.ex
  exact ⟨sp, c, q, st, room, (hk p h4 h7).trans gp, (hk sp h5 h8).trans gsp, (hk q h6 h9).trans gq, h1, h2, h3, h4, h5, h6, by omega, by omega, by omega⟩
def seB (l u w : Int) : AB := ⟨46, true, [.int .i64 l, .int .i64 u, .int .i64 w]⟩
section
variable {lf d n : Nat} {h : H}
theorem s_Smay (l u w : Int) : Run (fun _ => False) n (evCall2 Tryz.prog gt lf (d + 3) 23 #[.agg #[.int .i64 l, .int .i64 u, .int .i64 w]]) h n fun v h' n' => v = .bool (mayP l u w) := by
  rw [sh_balerlaw23_Setup_may]
  refine Run.inside_ ?_
  unfold b_balerlaw23_Setup_may
  refine run_box sz46 _ _ ?_
  try simp (disch := first | omega | assumption | exact one_int _ _ | exact one_slice _ _ _ | exact one_ptr _ | exact one_bool _ | exact one_string _) only [RXA, RXB, Nat.reduceAdd, Nat.reduceLT, wrap_id, wrap_succ, wrap_pred, FX1, FX2, FX3, Int.reduceBEq, Int.reduceBNe, Int.reduceLT, Int.reduceLE, Int.reduceEq, Int.reduceNe, Int.reduceAdd, Int.reduceSub, Int.reduceMul, Int.reduceNeg]
  refine run_same (s_refMay l u w) (by omega) (fun _ _ h => h.elim) ?_
  try simp (disch := first | omega | assumption | exact one_int _ _ | exact one_slice _ _ _ | exact one_ptr _ | exact one_bool _ | exact one_string _) only [RXA, RXB, Nat.reduceAdd, Nat.reduceLT, wrap_id, wrap_succ, wrap_pred, FX1, FX2, FX3, Int.reduceBEq, Int.reduceBNe, Int.reduceLT, Int.reduceLE, Int.reduceEq, Int.reduceNe, Int.reduceAdd, Int.reduceSub, Int.reduceMul, Int.reduceNeg]
theorem law_PNews (hlf : 257 ≤ lf) (l u w : Int) (hn : Tryz.prog.globals.size ≤ n) (hg : h.get 0 = some ⟨3, false, gV⟩) : Run (fun _ => False) n (evCall2 Tryz.prog gt lf (d + 5) 7 #[.agg #[.int .i64 l, .int .i64 u, .int .i64 w]]) h n fun v _ _ => v = .bool true := by
  have hn0 : 0 < n := Nat.lt_of_lt_of_le (by decide +kernel) hn
  rw [sh_balerlaw23_PressNews]
  refine Run.inside_ ?_
  unfold b_balerlaw23_PressNews
  refine run_box sz46 _ _ ?_
  have g0 : (h.set n (some ⟨46, true, (Value.agg #[.int .i64 l, .int .i64 u, .int .i64 w]).cells.toList⟩)).get n = some (seB l u w) := get_eq _ _ _
  have gg0 : (h.set n (some ⟨46, true, (Value.agg #[.int .i64 l, .int .i64 u, .int .i64 w]).cells.toList⟩)).get 0 = some ⟨3, false, gV⟩ := by rw [get_ne _ _ (by omega)]; exact hg
  generalize h.set n (some ⟨46, true, (Value.agg #[.int .i64 l, .int .i64 u, .int .i64 w]).cells.toList⟩) = h0 at g0 gg0
  have g0' := g0
  unfold seB at g0'
  try simp (disch := first | omega | assumption | exact one_int _ _ | exact one_slice _ _ _ | exact one_ptr _ | exact one_bool _ | exact one_string _) only [RXA, RXB, Nat.reduceAdd, Nat.reduceLT, wrap_id, wrap_succ, wrap_pred, FX1, FX2, FX3, Int.reduceBEq, Int.reduceBNe, Int.reduceLT, Int.reduceLE, Int.reduceEq, Int.reduceNe, Int.reduceAdd, Int.reduceSub, Int.reduceMul, Int.reduceNeg, g0']
  by_cases hm : (1 ≤ l ∧ l ≤ 9 ∧ 24 ≤ u ∧ u ≤ 100000) ∧ winB w = true
  · obtain ⟨k, rfl⟩ : ∃ k : Nat, l = k := ⟨l.toNat, by omega⟩
    refine run_call okd (s_pNew hlf (by omega) (by omega) hm.1.2.2.1 hm.1.2.2.2 hm.2) (by omega) (fun _ _ h => h.elim) ?_
    rintro _ h1 n1 hn1 fr1 ⟨p, rfl, x1⟩
    have g1 : h1.get n = some (seB k u w) := by rw [fr1 n (by omega) id, g0]
    have gg1 : h1.get 0 = some ⟨3, false, gV⟩ := by rw [fr1 _ (by omega) id, gg0]
    have g1' := g1
    unfold seB at g1'
    rw [ext0, ext1]
    try simp (disch := first | omega | assumption | exact one_int _ _ | exact one_slice _ _ _ | exact one_ptr _ | exact one_bool _ | exact one_string _) only [RXA, RXB, Nat.reduceAdd, Nat.reduceLT, wrap_id, wrap_succ, wrap_pred, FX1, FX2, FX3, Int.reduceBEq, Int.reduceBNe, Int.reduceLT, Int.reduceLE, Int.reduceEq, Int.reduceNe, Int.reduceAdd, Int.reduceSub, Int.reduceMul, Int.reduceNeg, g1']
    refine run_same (s_pNeed hm) (by omega) (fun _ _ h => h.elim) ?_
    rw [ext0, ext1]
    try simp (disch := first | omega | assumption | exact one_int _ _ | exact one_slice _ _ _ | exact one_ptr _ | exact one_bool _ | exact one_string _) only [RXA, RXB, Nat.reduceAdd, Nat.reduceLT, wrap_id, wrap_succ, wrap_pred, FX1, FX2, FX3, Int.reduceBEq, Int.reduceBNe, Int.reduceLT, Int.reduceLE, Int.reduceEq, Int.reduceNe, Int.reduceAdd, Int.reduceSub, Int.reduceMul, Int.reduceNeg]
    refine run_lda aga46 sz46 _ _ _ g1' (by omega) (by simp) ?_
    refine run_call okd (s_Smay (k : Int) u w) (by omega) (fun _ _ h => h.elim) ?_
    rintro _ h2 n2 hn2 fr2 rfl
    have hmay : mayP (k : Int) u w = true := by unfold mayP; exact decide_eq_true hm
    have g2 : h2.get n = some ⟨46, true, [.int .i64 (k : Int), .int .i64 u, .int .i64 w]⟩ := by rw [fr2 n (by omega) id, g1']
    have gg2 : h2.get 0 = some ⟨3, false, gV⟩ := by rw [fr2 _ (by omega) id, gg1]
    have x2 := x1.keep (h' := h2) (n' := n2) hn2 fun b _ hb => fr2 b hb id
    rw [hmay]
    try simp (disch := first | omega | assumption | exact one_int _ _ | exact one_slice _ _ _ | exact one_ptr _ | exact one_bool _ | exact one_string _) only [RXA, RXB, Nat.reduceAdd, Nat.reduceLT, wrap_id, wrap_succ, wrap_pred, FX1, FX2, FX3, Int.reduceBEq, Int.reduceBNe, Int.reduceLT, Int.reduceLE, Int.reduceEq, Int.reduceNe, Int.reduceAdd, Int.reduceSub, Int.reduceMul, Int.reduceNeg, g2]
    refine run_same (s_rNeed hm) (by omega) (fun _ _ h => h.elim) ?_
    try simp (disch := first | omega | assumption | exact one_int _ _ | exact one_slice _ _ _ | exact one_ptr _ | exact one_bool _ | exact one_string _) only [RXA, RXB, Nat.reduceAdd, Nat.reduceLT, wrap_id, wrap_succ, wrap_pred, FX1, FX2, FX3, Int.reduceBEq, Int.reduceBNe, Int.reduceLT, Int.reduceLE, Int.reduceEq, Int.reduceNe, Int.reduceAdd, Int.reduceSub, Int.reduceMul, Int.reduceNeg]
    refine run_same (s_pWaiting x2) (by omega) (fun _ _ h => h.elim) ?_
    try simp (disch := first | omega | assumption | exact one_int _ _ | exact one_slice _ _ _ | exact one_ptr _ | exact one_bool _ | exact one_string _) only [RXA, RXB, Nat.reduceAdd, Nat.reduceLT, wrap_id, wrap_succ, wrap_pred, FX1, FX2, FX3, Int.reduceBEq, Int.reduceBNe, Int.reduceLT, Int.reduceLE, Int.reduceEq, Int.reduceNe, Int.reduceAdd, Int.reduceSub, Int.reduceMul, Int.reduceNeg]
    refine run_call okd (s_pHeld (by omega) x2 (by simp)) (by omega) (fun _ _ h => h.elim) ?_
    rintro _ h3 n3 hn3 fr3 rfl
    have gg3 : h3.get 0 = some ⟨3, false, gV⟩ := by rw [fr3 _ (by omega) id, gg2]
    have x3 := x2.keep (h' := h3) (n' := n3) hn3 fun b _ hb => fr3 b hb id
    have e4 : ((((0 : Nat) : Int) + 4) == 4) = true := rfl
    try simp (disch := first | omega | assumption | exact one_int _ _ | exact one_slice _ _ _ | exact one_ptr _ | exact one_bool _ | exact one_string _) only [RXA, RXB, Nat.reduceAdd, Nat.reduceLT, wrap_id, wrap_succ, wrap_pred, FX1, FX2, FX3, Int.reduceBEq, Int.reduceBNe, Int.reduceLT, Int.reduceLE, Int.reduceEq, Int.reduceNe, Int.reduceAdd, Int.reduceSub, Int.reduceMul, Int.reduceNeg, e4]
    refine run_same (s_pDone x3) (by omega) (fun _ _ h => h.elim) ?_
    try simp (disch := first | omega | assumption | exact one_int _ _ | exact one_slice _ _ _ | exact one_ptr _ | exact one_bool _ | exact one_string _) only [RXA, RXB, Nat.reduceAdd, Nat.reduceLT, wrap_id, wrap_succ, wrap_pred, FX1, FX2, FX3, Int.reduceBEq, Int.reduceBNe, Int.reduceLT, Int.reduceLE, Int.reduceEq, Int.reduceNe, Int.reduceAdd, Int.reduceSub, Int.reduceMul, Int.reduceNeg]
    refine run_same (s_pStopped x3) (by omega) (fun _ _ h => h.elim) ?_
    try simp (disch := first | omega | assumption | exact one_int _ _ | exact one_slice _ _ _ | exact one_ptr _ | exact one_bool _ | exact one_string _) only [RXA, RXB, Nat.reduceAdd, Nat.reduceLT, wrap_id, wrap_succ, wrap_pred, FX1, FX2, FX3, Int.reduceBEq, Int.reduceBNe, Int.reduceLT, Int.reduceLE, Int.reduceEq, Int.reduceNe, Int.reduceAdd, Int.reduceSub, Int.reduceMul, Int.reduceNeg]
    refine run_same (s_pSteps x3) (by omega) (fun _ _ h => h.elim) ?_
    try simp (disch := first | omega | assumption | exact one_int _ _ | exact one_slice _ _ _ | exact one_ptr _ | exact one_bool _ | exact one_string _) only [RXA, RXB, Nat.reduceAdd, Nat.reduceLT, wrap_id, wrap_succ, wrap_pred, FX1, FX2, FX3, Int.reduceBEq, Int.reduceBNe, Int.reduceLT, Int.reduceLE, Int.reduceEq, Int.reduceNe, Int.reduceAdd, Int.reduceSub, Int.reduceMul, Int.reduceNeg]
    exact run_letter (by omega) gg3 (by omega)
  · refine run_same (s_pNewNo hm) (by omega) (fun _ _ h => h.elim) ?_
    rw [ext0, ext1]
    try simp (disch := first | omega | assumption | exact one_int _ _ | exact one_slice _ _ _ | exact one_ptr _ | exact one_bool _ | exact one_string _) only [RXA, RXB, Nat.reduceAdd, Nat.reduceLT, wrap_id, wrap_succ, wrap_pred, FX1, FX2, FX3, Int.reduceBEq, Int.reduceBNe, Int.reduceLT, Int.reduceLE, Int.reduceEq, Int.reduceNe, Int.reduceAdd, Int.reduceSub, Int.reduceMul, Int.reduceNeg, g0']
    refine run_same (s_pNeedNo hm) (by omega) (fun _ _ h => h.elim) ?_
    rw [ext0, ext1]
    try simp (disch := first | omega | assumption | exact one_int _ _ | exact one_slice _ _ _ | exact one_ptr _ | exact one_bool _ | exact one_string _) only [RXA, RXB, Nat.reduceAdd, Nat.reduceLT, wrap_id, wrap_succ, wrap_pred, FX1, FX2, FX3, Int.reduceBEq, Int.reduceBNe, Int.reduceLT, Int.reduceLE, Int.reduceEq, Int.reduceNe, Int.reduceAdd, Int.reduceSub, Int.reduceMul, Int.reduceNeg]
    refine run_lda aga46 sz46 _ _ _ g0' (by omega) (by simp) ?_
    refine run_call okd (s_Smay l u w) (by omega) (fun _ _ h => h.elim) ?_
    rintro _ h2 n2 hn2 fr2 rfl
    have hmay : mayP l u w = false := by unfold mayP; exact decide_eq_false hm
    have gg2 : h2.get 0 = some ⟨3, false, gV⟩ := by rw [fr2 _ (by omega) id, gg0]
    rw [hmay]
    try simp (disch := first | omega | assumption | exact one_int _ _ | exact one_slice _ _ _ | exact one_ptr _ | exact one_bool _ | exact one_string _) only [RXA, RXB, Nat.reduceAdd, Nat.reduceLT, wrap_id, wrap_succ, wrap_pred, FX1, FX2, FX3, Int.reduceBEq, Int.reduceBNe, Int.reduceLT, Int.reduceLE, Int.reduceEq, Int.reduceNe, Int.reduceAdd, Int.reduceSub, Int.reduceMul, Int.reduceNeg]
    exact run_letter (by omega) gg2 (by omega)
end
theorem ceS : cellTs Tryz.prog 8 46 = some [3, 3, 3] := by kernel_rfl
theorem agS : isAggT Tryz.prog 46 = true := by kernel_rfl
set_option maxRecDepth 4000 in
theorem a_set {h : H} {n : Nat} {v : Value} (x : ArgH Tryz.prog h n 46 v) : ∃ a b c : Int, v = .agg #[.int .i64 a, .int .i64 b, .int .i64 c] := by
  obtain ⟨cs, rfl, q0⟩ := argH_agg ceS agS x
  obtain ⟨a, b, c, rfl, q1, q2, q3⟩ := all2_3 q0
  obtain ⟨i, rfl, _⟩ := rep_int (f := 7) Tryz.underlying3 q1
  obtain ⟨j, rfl, _⟩ := rep_int (f := 7) Tryz.underlying3 q2
  obtain ⟨k, rfl, _⟩ := rep_int (f := 7) Tryz.underlying3 q3
  exact ⟨i, j, k, rfl⟩
theorem call_PNews {w : World} (hw : Ev.GlobAt w) {vs : List Value} (ha : All2 (ArgR Tryz.prog w) [46] vs) : Calls Tryz.prog 7 vs.toArray w fun e w' => e = .returned (.bool true) ∧ Below w.heap.size w w' := by
  refine the_law hw ha fun n h vs0 hn hg q => ?_
  obtain ⟨a, rfl, h1⟩ := Ev.all2_1 q
  obtain ⟨i, j, k, rfl⟩ := a_set h1
  exact law_PNews (lf := 3000000) (d := 995) (by decide) i j k hn hg

end Go.Proofs.YthhhkplbjcknkaaGreatDoor

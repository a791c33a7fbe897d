/- Layer 12 by the second form: how many tables, groups, picks. -/
import Derived.Test.YtdagfcflbphoiaaDoorMam
import Derived.Test.YtdagfcflbphoiaaDoorMae
namespace Go.Proofs.YtdagfcflbphoiaaDoor
set_option linter.unusedVariables false
set_option linter.unusedSimpArgs false
open Go.RowKit Ev Tb

section
variable (lf d n : Nat) (h : H) (hlf : 3000000 ≤ lf)
theorem r_Number (z : Int) : Run (fun _ => False) n (evCall2 Tryd.prog gt lf (d + 1) 16 #[.int .i64 z]) h n fun v' h' n' => v' = .int .i64 (numL z : Int) ∧ h' = h ∧ n' = n := by
  rw [sh_balerref12_Number]
  refine Run.inside_ ?_
  unfold b_balerref12_Number numL
  by_cases c1 : z < 200
  · try simp (disch := first | omega | assumption | exact one_int _ _ | exact one_slice _ _ _ | exact one_ptr _ | exact one_bool _ | exact one_string _) only [RXA, RXB, Nat.reduceAdd, Nat.reduceLT, wrap_id, wrap_succ, wrap_pred, FX1, c1]
    all_goals (first | rfl | exact ⟨rfl, rfl, rfl⟩ | exact ⟨rfl, rfl⟩)
  · by_cases c2 : z < 600
    · try simp (disch := first | omega | assumption | exact one_int _ _ | exact one_slice _ _ _ | exact one_ptr _ | exact one_bool _ | exact one_string _) only [RXA, RXB, Nat.reduceAdd, Nat.reduceLT, wrap_id, wrap_succ, wrap_pred, FX1, c1, c2]
      all_goals (first | rfl | exact ⟨rfl, rfl, rfl⟩ | exact ⟨rfl, rfl⟩)
    · by_cases c3 : z < 1200
      · try simp (disch := first | omega | assumption | exact one_int _ _ | exact one_slice _ _ _ | exact one_ptr _ | exact one_bool _ | exact one_string _) only [RXA, RXB, Nat.reduceAdd, Nat.reduceLT, wrap_id, wrap_succ, wrap_pred, FX1, c1, c2, c3]
        all_goals (first | rfl | exact ⟨rfl, rfl, rfl⟩ | exact ⟨rfl, rfl⟩)
      · by_cases c4 : z < 2400
        · try simp (disch := first | omega | assumption | exact one_int _ _ | exact one_slice _ _ _ | exact one_ptr _ | exact one_bool _ | exact one_string _) only [RXA, RXB, Nat.reduceAdd, Nat.reduceLT, wrap_id, wrap_succ, wrap_pred, FX1, c1, c2, c3, c4]
          all_goals (first | rfl | exact ⟨rfl, rfl, rfl⟩ | exact ⟨rfl, rfl⟩)
        · try simp (disch := first | omega | assumption | exact one_int _ _ | exact one_slice _ _ _ | exact one_ptr _ | exact one_bool _ | exact one_string _) only [RXA, RXB, Nat.reduceAdd, Nat.reduceLT, wrap_id, wrap_succ, wrap_pred, FX1, c1, c2, c3, c4]
          all_goals (first | rfl | exact ⟨rfl, rfl, rfl⟩ | exact ⟨rfl, rfl⟩)
theorem bix0 : index2 Tryd.prog 58 (.agg #[.int .i64 200, .int .i64 600, .int .i64 1200, .int .i64 2400]) (.int .i64 0) = some (.int .i64 200) := by kernel_rfl
theorem bix1 : index2 Tryd.prog 58 (.agg #[.int .i64 200, .int .i64 600, .int .i64 1200, .int .i64 2400]) (.int .i64 1) = some (.int .i64 600) := by kernel_rfl
theorem bix2 : index2 Tryd.prog 58 (.agg #[.int .i64 200, .int .i64 600, .int .i64 1200, .int .i64 2400]) (.int .i64 2) = some (.int .i64 1200) := by kernel_rfl
theorem bix3 : index2 Tryd.prog 58 (.agg #[.int .i64 200, .int .i64 600, .int .i64 1200, .int .i64 2400]) (.int .i64 3) = some (.int .i64 2400) := by kernel_rfl
theorem s_Number (z : Int) (g : Gd h n) (hf : 5 ≤ lf) : Run (fun _ => False) n (evCall2 Tryd.prog gt lf (d + 1) 19 #[.int .i64 z]) h n fun v' h' n' => v' = .int .i64 (numL z : Int) ∧ h' = h ∧ n' = n := by
  rw [sh_tables_Number]
  refine Run.inside_ ?_
  unfold b_tables_Number
  refine run_lda aga58 sz58 0 0 _ g.1 g.2 (by decide) ?_
  have go : ∀ F, 5 ≤ F → Run (fun _ => False) n (lpA_tables_Number lf d F (kcA_tables_Number lf d) (.int .i64 z) (.int .i64 0) (.int .i64 2) (.agg #[.int .i64 200, .int .i64 600, .int .i64 1200, .int .i64 2400]) (.int .i64 0)) h n fun v' h' n' => v' = .int .i64 (numL z : Int) ∧ h' = h ∧ n' = n := by
    intro F hF
    obtain ⟨F, rfl⟩ : ∃ f, F = f + 1 + 1 + 1 + 1 + 1 := ⟨F - 5, by omega⟩
    have w : ∀ x : Int, 0 ≤ x → x < 100 → IntKind.i64.wrap (x + 1) = x + 1 := fun x h0 h1 => wrap_id (by omega) (by omega)
    unfold numL
    by_cases c1 : z < 200
    · have d1 : ¬ (200 ≤ z) := by omega
      have d2 : ¬ (600 ≤ z) := by omega
      have d3 : ¬ (1200 ≤ z) := by omega
      have d4 : ¬ (2400 ≤ z) := by omega
      rw [succA_tables_Number]
      try simp (disch := first | omega | assumption | exact one_int _ _ | exact one_slice _ _ _ | exact one_ptr _ | exact one_bool _ | exact one_string _) only [RXA, RXB, Nat.reduceAdd, Nat.reduceLT, wrap_id, wrap_succ, wrap_pred, FX1, Int.reduceBEq, Int.reduceBNe, Int.reduceLT, Int.reduceLE, Int.reduceEq, Int.reduceNe, Int.reduceAdd, Int.reduceSub, Int.reduceMul, Int.reduceNeg, bix0, d1]
      rw [succA_tables_Number]
      try simp (disch := first | omega | assumption | exact one_int _ _ | exact one_slice _ _ _ | exact one_ptr _ | exact one_bool _ | exact one_string _) only [RXA, RXB, Nat.reduceAdd, Nat.reduceLT, wrap_id, wrap_succ, wrap_pred, FX1, Int.reduceBEq, Int.reduceBNe, Int.reduceLT, Int.reduceLE, Int.reduceEq, Int.reduceNe, Int.reduceAdd, Int.reduceSub, Int.reduceMul, Int.reduceNeg, bix1, d2]
      rw [succA_tables_Number]
      try simp (disch := first | omega | assumption | exact one_int _ _ | exact one_slice _ _ _ | exact one_ptr _ | exact one_bool _ | exact one_string _) only [RXA, RXB, Nat.reduceAdd, Nat.reduceLT, wrap_id, wrap_succ, wrap_pred, FX1, Int.reduceBEq, Int.reduceBNe, Int.reduceLT, Int.reduceLE, Int.reduceEq, Int.reduceNe, Int.reduceAdd, Int.reduceSub, Int.reduceMul, Int.reduceNeg, bix2, d3]
      rw [succA_tables_Number]
      try simp (disch := first | omega | assumption | exact one_int _ _ | exact one_slice _ _ _ | exact one_ptr _ | exact one_bool _ | exact one_string _) only [RXA, RXB, Nat.reduceAdd, Nat.reduceLT, wrap_id, wrap_succ, wrap_pred, FX1, Int.reduceBEq, Int.reduceBNe, Int.reduceLT, Int.reduceLE, Int.reduceEq, Int.reduceNe, Int.reduceAdd, Int.reduceSub, Int.reduceMul, Int.reduceNeg, bix3, d4]
      rw [succA_tables_Number]
      try simp (disch := first | omega | assumption | exact one_int _ _ | exact one_slice _ _ _ | exact one_ptr _ | exact one_bool _ | exact one_string _) only [RXA, RXB, Nat.reduceAdd, Nat.reduceLT, wrap_id, wrap_succ, wrap_pred, FX1, Int.reduceBEq, Int.reduceBNe, Int.reduceLT, Int.reduceLE, Int.reduceEq, Int.reduceNe, Int.reduceAdd, Int.reduceSub, Int.reduceMul, Int.reduceNeg]
      rw [kcAa_tables_Number]
      try simp (disch := first | omega | assumption | exact one_int _ _ | exact one_slice _ _ _ | exact one_ptr _ | exact one_bool _ | exact one_string _) only [RXA, RXB, Nat.reduceAdd, Nat.reduceLT, wrap_id, wrap_succ, wrap_pred, FX1, Int.reduceBEq, Int.reduceBNe, Int.reduceLT, Int.reduceLE, Int.reduceEq, Int.reduceNe, Int.reduceAdd, Int.reduceSub, Int.reduceMul, Int.reduceNeg, c1]
      all_goals (first | rfl | exact ⟨rfl, rfl, rfl⟩ | exact ⟨rfl, rfl⟩)
    · have d1 : 200 ≤ z := by omega
      by_cases c2 : z < 600
      · have d2 : ¬ (600 ≤ z) := by omega
        have d3 : ¬ (1200 ≤ z) := by omega
        have d4 : ¬ (2400 ≤ z) := by omega
        rw [succA_tables_Number]
        try simp (disch := first | omega | assumption | exact one_int _ _ | exact one_slice _ _ _ | exact one_ptr _ | exact one_bool _ | exact one_string _) only [RXA, RXB, Nat.reduceAdd, Nat.reduceLT, wrap_id, wrap_succ, wrap_pred, FX1, Int.reduceBEq, Int.reduceBNe, Int.reduceLT, Int.reduceLE, Int.reduceEq, Int.reduceNe, Int.reduceAdd, Int.reduceSub, Int.reduceMul, Int.reduceNeg, bix0, d1]
        rw [succA_tables_Number]
        try simp (disch := first | omega | assumption | exact one_int _ _ | exact one_slice _ _ _ | exact one_ptr _ | exact one_bool _ | exact one_string _) only [RXA, RXB, Nat.reduceAdd, Nat.reduceLT, wrap_id, wrap_succ, wrap_pred, FX1, Int.reduceBEq, Int.reduceBNe, Int.reduceLT, Int.reduceLE, Int.reduceEq, Int.reduceNe, Int.reduceAdd, Int.reduceSub, Int.reduceMul, Int.reduceNeg, bix1, d2]
        rw [succA_tables_Number]
        try simp (disch := first | omega | assumption | exact one_int _ _ | exact one_slice _ _ _ | exact one_ptr _ | exact one_bool _ | exact one_string _) only [RXA, RXB, Nat.reduceAdd, Nat.reduceLT, wrap_id, wrap_succ, wrap_pred, FX1, Int.reduceBEq, Int.reduceBNe, Int.reduceLT, Int.reduceLE, Int.reduceEq, Int.reduceNe, Int.reduceAdd, Int.reduceSub, Int.reduceMul, Int.reduceNeg, bix2, d3]
        rw [succA_tables_Number]
        try simp (disch := first | omega | assumption | exact one_int _ _ | exact one_slice _ _ _ | exact one_ptr _ | exact one_bool _ | exact one_string _) only [RXA, RXB, Nat.reduceAdd, Nat.reduceLT, wrap_id, wrap_succ, wrap_pred, FX1, Int.reduceBEq, Int.reduceBNe, Int.reduceLT, Int.reduceLE, Int.reduceEq, Int.reduceNe, Int.reduceAdd, Int.reduceSub, Int.reduceMul, Int.reduceNeg, bix3, d4]
        rw [succA_tables_Number]
        try simp (disch := first | omega | assumption | exact one_int _ _ | exact one_slice _ _ _ | exact one_ptr _ | exact one_bool _ | exact one_string _) only [RXA, RXB, Nat.reduceAdd, Nat.reduceLT, wrap_id, wrap_succ, wrap_pred, FX1, Int.reduceBEq, Int.reduceBNe, Int.reduceLT, Int.reduceLE, Int.reduceEq, Int.reduceNe, Int.reduceAdd, Int.reduceSub, Int.reduceMul, Int.reduceNeg]
        rw [kcAa_tables_Number]
        try simp (disch := first | omega | assumption | exact one_int _ _ | exact one_slice _ _ _ | exact one_ptr _ | exact one_bool _ | exact one_string _) only [RXA, RXB, Nat.reduceAdd, Nat.reduceLT, wrap_id, wrap_succ, wrap_pred, FX1, Int.reduceBEq, Int.reduceBNe, Int.reduceLT, Int.reduceLE, Int.reduceEq, Int.reduceNe, Int.reduceAdd, Int.reduceSub, Int.reduceMul, Int.reduceNeg, c1, c2]
        all_goals (first | rfl | exact ⟨rfl, rfl, rfl⟩ | exact ⟨rfl, rfl⟩)
      · have d2 : 600 ≤ z := by omega
        by_cases c3 : z < 1200
        · have d3 : ¬ (1200 ≤ z) := by omega
          have d4 : ¬ (2400 ≤ z) := by omega
          rw [succA_tables_Number]
          try simp (disch := first | omega | assumption | exact one_int _ _ | exact one_slice _ _ _ | exact one_ptr _ | exact one_bool _ | exact one_string _) only [RXA, RXB, Nat.reduceAdd, Nat.reduceLT, wrap_id, wrap_succ, wrap_pred, FX1, Int.reduceBEq, Int.reduceBNe, Int.reduceLT, Int.reduceLE, Int.reduceEq, Int.reduceNe, Int.reduceAdd, Int.reduceSub, Int.reduceMul, Int.reduceNeg, bix0, d1]
          rw [succA_tables_Number]
          try simp (disch := first | omega | assumption | exact one_int _ _ | exact one_slice _ _ _ | exact one_ptr _ | exact one_bool _ | exact one_string _) only [RXA, RXB, Nat.reduceAdd, Nat.reduceLT, wrap_id, wrap_succ, wrap_pred, FX1, Int.reduceBEq, Int.reduceBNe, Int.reduceLT, Int.reduceLE, Int.reduceEq, Int.reduceNe, Int.reduceAdd, Int.reduceSub, Int.reduceMul, Int.reduceNeg, bix1, d2]
          rw [succA_tables_Number]
          try simp (disch := first | omega | assumption | exact one_int _ _ | exact one_slice _ _ _ | exact one_ptr _ | exact one_bool _ | exact one_string _) only [RXA, RXB, Nat.reduceAdd, Nat.reduceLT, wrap_id, wrap_succ, wrap_pred, FX1, Int.reduceBEq, Int.reduceBNe, Int.reduceLT, Int.reduceLE, Int.reduceEq, Int.reduceNe, Int.reduceAdd, Int.reduceSub, Int.reduceMul, Int.reduceNeg, bix2, d3]
          rw [succA_tables_Number]
          try simp (disch := first | omega | assumption | exact one_int _ _ | exact one_slice _ _ _ | exact one_ptr _ | exact one_bool _ | exact one_string _) only [RXA, RXB, Nat.reduceAdd, Nat.reduceLT, wrap_id, wrap_succ, wrap_pred, FX1, Int.reduceBEq, Int.reduceBNe, Int.reduceLT, Int.reduceLE, Int.reduceEq, Int.reduceNe, Int.reduceAdd, Int.reduceSub, Int.reduceMul, Int.reduceNeg, bix3, d4]
          rw [succA_tables_Number]
          try simp (disch := first | omega | assumption | exact one_int _ _ | exact one_slice _ _ _ | exact one_ptr _ | exact one_bool _ | exact one_string _) only [RXA, RXB, Nat.reduceAdd, Nat.reduceLT, wrap_id, wrap_succ, wrap_pred, FX1, Int.reduceBEq, Int.reduceBNe, Int.reduceLT, Int.reduceLE, Int.reduceEq, Int.reduceNe, Int.reduceAdd, Int.reduceSub, Int.reduceMul, Int.reduceNeg]
          rw [kcAa_tables_Number]
          try simp (disch := first | omega | assumption | exact one_int _ _ | exact one_slice _ _ _ | exact one_ptr _ | exact one_bool _ | exact one_string _) only [RXA, RXB, Nat.reduceAdd, Nat.reduceLT, wrap_id, wrap_succ, wrap_pred, FX1, Int.reduceBEq, Int.reduceBNe, Int.reduceLT, Int.reduceLE, Int.reduceEq, Int.reduceNe, Int.reduceAdd, Int.reduceSub, Int.reduceMul, Int.reduceNeg, c1, c2, c3]
          all_goals (first | rfl | exact ⟨rfl, rfl, rfl⟩ | exact ⟨rfl, rfl⟩)
        · have d3 : 1200 ≤ z := by omega
          by_cases c4 : z < 2400
          · have d4 : ¬ (2400 ≤ z) := by omega
            rw [succA_tables_Number]
            try simp (disch := first | omega | assumption | exact one_int _ _ | exact one_slice _ _ _ | exact one_ptr _ | exact one_bool _ | exact one_string _) only [RXA, RXB, Nat.reduceAdd, Nat.reduceLT, wrap_id, wrap_succ, wrap_pred, FX1, Int.reduceBEq, Int.reduceBNe, Int.reduceLT, Int.reduceLE, Int.reduceEq, Int.reduceNe, Int.reduceAdd, Int.reduceSub, Int.reduceMul, Int.reduceNeg, bix0, d1]
            rw [succA_tables_Number]
            try simp (disch := first | omega | assumption | exact one_int _ _ | exact one_slice _ _ _ | exact one_ptr _ | exact one_bool _ | exact one_string _) only [RXA, RXB, Nat.reduceAdd, Nat.reduceLT, wrap_id, wrap_succ, wrap_pred, FX1, Int.reduceBEq, Int.reduceBNe, Int.reduceLT, Int.reduceLE, Int.reduceEq, Int.reduceNe, Int.reduceAdd, Int.reduceSub, Int.reduceMul, Int.reduceNeg, bix1, d2]
            rw [succA_tables_Number]
            try simp (disch := first | omega | assumption | exact one_int _ _ | exact one_slice _ _ _ | exact one_ptr _ | exact one_bool _ | exact one_string _) only [RXA, RXB, Nat.reduceAdd, Nat.reduceLT, wrap_id, wrap_succ, wrap_pred, FX1, Int.reduceBEq, Int.reduceBNe, Int.reduceLT, Int.reduceLE, Int.reduceEq, Int.reduceNe, Int.reduceAdd, Int.reduceSub, Int.reduceMul, Int.reduceNeg, bix2, d3]
            rw [succA_tables_Number]
            try simp (disch := first | omega | assumption | exact one_int _ _ | exact one_slice _ _ _ | exact one_ptr _ | exact one_bool _ | exact one_string _) only [RXA, RXB, Nat.reduceAdd, Nat.reduceLT, wrap_id, wrap_succ, wrap_pred, FX1, Int.reduceBEq, Int.reduceBNe, Int.reduceLT, Int.reduceLE, Int.reduceEq, Int.reduceNe, Int.reduceAdd, Int.reduceSub, Int.reduceMul, Int.reduceNeg, bix3, d4]
            rw [succA_tables_Number]
            try simp (disch := first | omega | assumption | exact one_int _ _ | exact one_slice _ _ _ | exact one_ptr _ | exact one_bool _ | exact one_string _) only [RXA, RXB, Nat.reduceAdd, Nat.reduceLT, wrap_id, wrap_succ, wrap_pred, FX1, Int.reduceBEq, Int.reduceBNe, Int.reduceLT, Int.reduceLE, Int.reduceEq, Int.reduceNe, Int.reduceAdd, Int.reduceSub, Int.reduceMul, Int.reduceNeg]
            rw [kcAa_tables_Number]
            try simp (disch := first | omega | assumption | exact one_int _ _ | exact one_slice _ _ _ | exact one_ptr _ | exact one_bool _ | exact one_string _) only [RXA, RXB, Nat.reduceAdd, Nat.reduceLT, wrap_id, wrap_succ, wrap_pred, FX1, Int.reduceBEq, Int.reduceBNe, Int.reduceLT, Int.reduceLE, Int.reduceEq, Int.reduceNe, Int.reduceAdd, Int.reduceSub, Int.reduceMul, Int.reduceNeg, c1, c2, c3, c4]
            all_goals (first | rfl | exact ⟨rfl, rfl, rfl⟩ | exact ⟨rfl, rfl⟩)
          · have d4 : 2400 ≤ z := by omega
            rw [succA_tables_Number]
            try simp (disch := first | omega | assumption | exact one_int _ _ | exact one_slice _ _ _ | exact one_ptr _ | exact one_bool _ | exact one_string _) only [RXA, RXB, Nat.reduceAdd, Nat.reduceLT, wrap_id, wrap_succ, wrap_pred, FX1, Int.reduceBEq, Int.reduceBNe, Int.reduceLT, Int.reduceLE, Int.reduceEq, Int.reduceNe, Int.reduceAdd, Int.reduceSub, Int.reduceMul, Int.reduceNeg, bix0, d1]
            rw [succA_tables_Number]
            try simp (disch := first | omega | assumption | exact one_int _ _ | exact one_slice _ _ _ | exact one_ptr _ | exact one_bool _ | exact one_string _) only [RXA, RXB, Nat.reduceAdd, Nat.reduceLT, wrap_id, wrap_succ, wrap_pred, FX1, Int.reduceBEq, Int.reduceBNe, Int.reduceLT, Int.reduceLE, Int.reduceEq, Int.reduceNe, Int.reduceAdd, Int.reduceSub, Int.reduceMul, Int.reduceNeg, bix1, d2]
            rw [succA_tables_Number]
            try simp (disch := first | omega | assumption | exact one_int _ _ | exact one_slice _ _ _ | exact one_ptr _ | exact one_bool _ | exact one_string _) only [RXA, RXB, Nat.reduceAdd, Nat.reduceLT, wrap_id, wrap_succ, wrap_pred, FX1, Int.reduceBEq, Int.reduceBNe, Int.reduceLT, Int.reduceLE, Int.reduceEq, Int.reduceNe, Int.reduceAdd, Int.reduceSub, Int.reduceMul, Int.reduceNeg, bix2, d3]
            rw [succA_tables_Number]
            try simp (disch := first | omega | assumption | exact one_int _ _ | exact one_slice _ _ _ | exact one_ptr _ | exact one_bool _ | exact one_string _) only [RXA, RXB, Nat.reduceAdd, Nat.reduceLT, wrap_id, wrap_succ, wrap_pred, FX1, Int.reduceBEq, Int.reduceBNe, Int.reduceLT, Int.reduceLE, Int.reduceEq, Int.reduceNe, Int.reduceAdd, Int.reduceSub, Int.reduceMul, Int.reduceNeg, bix3, d4]
            rw [succA_tables_Number]
            try simp (disch := first | omega | assumption | exact one_int _ _ | exact one_slice _ _ _ | exact one_ptr _ | exact one_bool _ | exact one_string _) only [RXA, RXB, Nat.reduceAdd, Nat.reduceLT, wrap_id, wrap_succ, wrap_pred, FX1, Int.reduceBEq, Int.reduceBNe, Int.reduceLT, Int.reduceLE, Int.reduceEq, Int.reduceNe, Int.reduceAdd, Int.reduceSub, Int.reduceMul, Int.reduceNeg]
            rw [kcAa_tables_Number]
            try simp (disch := first | omega | assumption | exact one_int _ _ | exact one_slice _ _ _ | exact one_ptr _ | exact one_bool _ | exact one_string _) only [RXA, RXB, Nat.reduceAdd, Nat.reduceLT, wrap_id, wrap_succ, wrap_pred, FX1, Int.reduceBEq, Int.reduceBNe, Int.reduceLT, Int.reduceLE, Int.reduceEq, Int.reduceNe, Int.reduceAdd, Int.reduceSub, Int.reduceMul, Int.reduceNeg, c1, c2, c3, c4]
            all_goals (first | rfl | exact ⟨rfl, rfl, rfl⟩ | exact ⟨rfl, rfl⟩)
  exact go lf hf

include hlf
theorem s_groupsOf (v : Value) (xs : List Int) (hR : Row h n 3 .i64 v xs) (hl : xs.length ≤ 1000000) :
    Run (fun _ => False) n (evCall2 Tryd.prog gt lf (d + 4) 35 #[v]) h n fun v' h' n' => RR h' n' 22 3 v' (groupsL xs) := by
  rw [sh_tables_groupsOf]
  refine Run.inside_ ?_
  unfold b_tables_groupsOf
  have hR0 := hR
  obtain ⟨a, c, rfl⟩ := hR.len
  try simp (disch := first | omega | assumption | exact one_int _ _ | exact one_slice _ _ _ | exact one_ptr _ | exact one_bool _ | exact one_string _) only [RXA, RXB, Nat.reduceAdd, Nat.reduceLT, wrap_id, wrap_succ, wrap_pred, FX1]
  refine run_same (s_fGroups lf (d + 2) n h xs.length (by omega)) (Nat.le_refl _) (fun _ _ h => h.elim) ?_
  have hgl : grpN xs.length ≤ 1000000 := by unfold grpN; omega
  refine run_for (grpN xs.length) (fun fu i (u : Value) => lpA_tables_groupsOf lf (d + 3) fu (kcA_tables_groupsOf lf (d + 3)) _ _ u (.int .i64 (grpN xs.length : Nat)) (.int .i64 (i : Nat))) (fun i u h' n' => n ≤ n' ∧ (∀ b, b < n → h'.get b = h.get b) ∧ OwnRR h' n n' n' 22 3 u ((List.range i).map (grp xs))) ?_ ?_ lf 0 _ h n (Nat.zero_le _) (by omega) ⟨Nat.le_refl _, fun _ _ => rfl, OwnRR.nil _ _ _ _ _ _⟩
  · rintro fu u h' n' ⟨hn, hk, hO⟩
    rw [succA_tables_groupsOf]
    try simp (disch := first | omega | assumption | exact one_int _ _ | exact one_slice _ _ _ | exact one_ptr _ | exact one_bool _ | exact one_string _) only [RXA, RXB, Nat.reduceAdd, Nat.reduceLT, wrap_id, wrap_succ, wrap_pred, FX1, Int.lt_irrefl]
    rw [kcAa_tables_groupsOf]
    try simp (disch := first | omega | assumption | exact one_int _ _ | exact one_slice _ _ _ | exact one_ptr _ | exact one_bool _ | exact one_string _) only [RXA, RXB, Nat.reduceAdd, Nat.reduceLT, wrap_id, wrap_succ, wrap_pred, FX1]
    exact hO.rr
  · rintro fu i u h' n' hi ⟨hn, hk, hO⟩ next
    have e1 : ((i : Nat) : Int) < ((grpN xs.length : Nat) : Int) := by omega
    rw [succA_tables_groupsOf]
    try simp (disch := first | omega | assumption | exact one_int _ _ | exact one_slice _ _ _ | exact one_ptr _ | exact one_bool _ | exact one_string _) only [RXA, RXB, Nat.reduceAdd, Nat.reduceLT, wrap_id, wrap_succ, wrap_pred, FX1, e1]
    refine run_call okd (s_fGroup lf d n' h' _ xs (hR0.keep hn hk) hl i hi) hn (fun _ _ h => h.elim) fun v1 h1 n1 hn1 fr1 hq => ?_
    obtain ⟨g, rfl, hg⟩ := hq
    have hO1 := (hO.keep hn1 fun b hb _ => fr1 b hb id).up hn1
    try simp (disch := first | omega | assumption | exact one_int _ _ | exact one_slice _ _ _ | exact one_ptr _ | exact one_bool _ | exact one_string _) only [RXA, RXB, Nat.reduceAdd, Nat.reduceLT, wrap_id, wrap_succ, wrap_pred, FX1, ext0, ext1]
    refine run_pushRR c1x23 (by decide) hO1 hg (Nat.le_refl _) (by simp; omega) (Nat.le_refl _) (by omega) _ fun v2 h2 o2 k2 _ => ?_
    try simp (disch := first | omega | assumption | exact one_int _ _ | exact one_slice _ _ _ | exact one_ptr _ | exact one_bool _ | exact one_string _) only [RXA, RXB, Nat.reduceAdd, Nat.reduceLT, wrap_id, wrap_succ, wrap_pred, FX1]
    refine next v2 h2 (n1 + 2) ⟨by omega, fun b hb => ?_, ?_⟩
    · rw [k2 b (by omega) fun q => by have := (hO1.lt q).1; omega, fr1 b (by omega) id]
      exact hk b hb
    · rw [List.range_succ, List.map_append]
      exact o2.up (by omega)

theorem s_pick (v u : Value) (g : List Int) (T : List (List Int)) (hR : Row h n 3 .i64 v g) (hT : RR h n 22 3 u T) (hl : g.length ≤ 1000000) (hTl : T.length ≤ 1000) (hT2 : ∀ t ∈ T, t.length ≤ 1000000 ∧ allIn 0 1099511627776 t = true ∧ inB t.length g = true) :
    Run (fun _ => False) n (evCall2 Tryd.prog gt lf (d + 7) 50 #[v, u]) h n fun v' h' n' => v' = .int .i64 (pickL g T : Int) ∧ h' = h ∧ n' = n := by
  rw [sh_tables_pick]
  refine Run.inside_ ?_
  unfold b_tables_pick
  have hT0 := hT
  obtain ⟨a, c, rfl⟩ := hT.len
  try simp (disch := first | omega | assumption | exact one_int _ _ | exact one_slice _ _ _ | exact one_ptr _ | exact one_bool _ | exact one_string _) only [RXA, RXB, Nat.reduceAdd, Nat.reduceLT, wrap_id, wrap_succ, wrap_pred, FX1]
  refine run_for T.length (fun fu i (q : Nat × Int) => lpA_tables_pick lf (d + 6) fu (kcA_tables_pick lf (d + 6)) _ _ _ (.int .i64 (q.1 : Nat)) (.int .i64 q.2) _ (.int .i64 (T.length : Nat)) (.int .i64 (i : Nat))) (fun i q h' n' => (h' = h ∧ n' = n) ∧ pickL g T = pickF g (T.drop i) i q.1 q.2) ?_ ?_ lf 0 (0, 1099511627776) h n (Nat.zero_le _) (by omega) ⟨⟨rfl, rfl⟩, rfl⟩
  · rintro fu q h' n' ⟨⟨rfl, rfl⟩, hp⟩
    rw [succA_tables_pick]
    try simp (disch := first | omega | assumption | exact one_int _ _ | exact one_slice _ _ _ | exact one_ptr _ | exact one_bool _ | exact one_string _) only [RXA, RXB, Nat.reduceAdd, Nat.reduceLT, wrap_id, wrap_succ, wrap_pred, FX1, Int.lt_irrefl]
    rw [kcAa_tables_pick]
    try simp (disch := first | omega | assumption | exact one_int _ _ | exact one_slice _ _ _ | exact one_ptr _ | exact one_bool _ | exact one_string _) only [RXA, RXB, Nat.reduceAdd, Nat.reduceLT, wrap_id, wrap_succ, wrap_pred, FX1]
    rw [List.drop_length] at hp
    rw [hp]
    all_goals (first | rfl | exact ⟨rfl, rfl, rfl⟩ | exact ⟨rfl, rfl⟩)
  · rintro fu i q h' n' hi ⟨⟨rfl, rfl⟩, hp⟩ next
    obtain ⟨b, off, cap, o, cs, hv, hg, hb, hat⟩ := hT0.at (by omega)
    cases hv
    obtain ⟨x, hx, hrx⟩ := hat i hi
    have e1 : ((i : Nat) : Int) < ((T.length : Nat) : Int) := by omega
    rw [drop_next [] hi] at hp
    have hm : T.getD i [] ∈ T := by rw [List.getD_eq_getElem?_getD, List.getElem?_eq_getElem hi]; exact List.getElem_mem hi
    obtain ⟨m1, m2, m3⟩ := hT2 _ hm
    rw [succA_tables_pick]
    try simp (disch := first | omega | assumption | exact one_int _ _ | exact one_slice _ _ _ | exact one_ptr _ | exact one_bool _ | exact one_string _) only [RXA, RXB, Nat.reduceAdd, Nat.reduceLT, wrap_id, wrap_succ, wrap_pred, FX1, e1, hg, hx]
    refine run_same (s_fCost lf d _ h' hlf v x g _ hR hrx hl m1) (Nat.le_refl _) (fun _ _ h => h.elim) ?_
    rw [if_pos ⟨m2, m3⟩]
    unfold pickF at hp
    by_cases c1 : costL g (T.getD i []) < q.2
    · rw [if_pos c1] at hp
      try simp (disch := first | omega | assumption | exact one_int _ _ | exact one_slice _ _ _ | exact one_ptr _ | exact one_bool _ | exact one_string _) only [RXA, RXB, Nat.reduceAdd, Nat.reduceLT, wrap_id, wrap_succ, wrap_pred, FX1, ext0, ext1, c1]
      exact next (i, costL g (T.getD i [])) _ _ ⟨⟨rfl, rfl⟩, hp⟩
    · rw [if_neg c1] at hp
      try simp (disch := first | omega | assumption | exact one_int _ _ | exact one_slice _ _ _ | exact one_ptr _ | exact one_bool _ | exact one_string _) only [RXA, RXB, Nat.reduceAdd, Nat.reduceLT, wrap_id, wrap_succ, wrap_pred, FX1, ext0, ext1, c1]
      exact next q _ _ ⟨⟨rfl, rfl⟩, hp⟩
theorem r_pick (v u : Value) (g : List Int) (T : List (List Int)) (hR : Row h n 3 .i64 v g) (hT : RR h n 22 3 u T) (h0 : 0 < T.length) (hl : g.length ≤ 1000000) (hTl : T.length ≤ 1000) (hT2 : ∀ t ∈ T, t.length ≤ 1000000 ∧ (∀ y ∈ t, 0 ≤ y ∧ y ≤ 1099511627776) ∧ inB t.length g = true) :
    Run (fun _ => False) n (evCall2 Tryd.prog gt lf (d + 3) 45 #[v, u]) h n fun v' h' n' => v' = .int .i64 (pickL g T : Int) ∧ h' = h ∧ n' = n := by
  rw [sh_balerref12_pick]
  refine Run.inside_ ?_
  unfold b_balerref12_pick
  have hT0 := hT
  obtain ⟨a, c, rfl⟩ := hT.len
  try simp (disch := first | omega | assumption | exact one_int _ _ | exact one_slice _ _ _ | exact one_ptr _ | exact one_bool _ | exact one_string _) only [RXA, RXB, Nat.reduceAdd, Nat.reduceLT, wrap_id, wrap_succ, wrap_pred, FX1]
  have p0 : pickL g T = pickF g (T.drop 0) 0 0 (costL g (T.getD 0 [])) := by
    match T, h0 with
    | t :: T, _ =>
      rw [pickL_cons]
      show _ = pickF g (t :: T) 0 0 (costL g t)
      simp only [pickF]
      rw [if_neg (Int.lt_irrefl _)]
  refine run_for T.length (fun fu i (q : Nat) => lpA_balerref12_pick lf (d + 2) fu (kcA_balerref12_pick lf (d + 2)) _ _ _ (.int .i64 (q : Nat)) _ (.int .i64 (T.length : Nat)) (.int .i64 (i : Nat))) (fun i q h' n' => (h' = h ∧ n' = n) ∧ q < T.length ∧ pickL g T = pickF g (T.drop i) i q (costL g (T.getD q []))) ?_ ?_ lf 0 0 h n (Nat.zero_le _) (by omega) ⟨⟨rfl, rfl⟩, h0, p0⟩
  · rintro fu q h' n' ⟨⟨rfl, rfl⟩, hq, hp⟩
    rw [succA_balerref12_pick]
    try simp (disch := first | omega | assumption | exact one_int _ _ | exact one_slice _ _ _ | exact one_ptr _ | exact one_bool _ | exact one_string _) only [RXA, RXB, Nat.reduceAdd, Nat.reduceLT, wrap_id, wrap_succ, wrap_pred, FX1, Int.lt_irrefl]
    rw [kcAa_balerref12_pick]
    try simp (disch := first | omega | assumption | exact one_int _ _ | exact one_slice _ _ _ | exact one_ptr _ | exact one_bool _ | exact one_string _) only [RXA, RXB, Nat.reduceAdd, Nat.reduceLT, wrap_id, wrap_succ, wrap_pred, FX1]
    rw [List.drop_length] at hp
    rw [hp]
    all_goals (first | rfl | exact ⟨rfl, rfl, rfl⟩ | exact ⟨rfl, rfl⟩)
  · rintro fu i q h' n' hi ⟨⟨rfl, rfl⟩, hq, hp⟩ next
    obtain ⟨b, off, cap, o, cs, hv, hg, hb, hat⟩ := hT0.at (by omega)
    cases hv
    obtain ⟨x, hx, hrx⟩ := hat i hi
    obtain ⟨x2, hx2, hrx2⟩ := hat q hq
    have e1 : ((i : Nat) : Int) < ((T.length : Nat) : Int) := by omega
    have e2 : ((q : Nat) : Int) < ((T.length : Nat) : Int) := by omega
    rw [drop_next [] hi] at hp
    have hm : ∀ j, j < T.length → T.getD j [] ∈ T := fun j hj => by rw [List.getD_eq_getElem?_getD, List.getElem?_eq_getElem hj]; exact List.getElem_mem hj
    obtain ⟨m1, m2, m3⟩ := hT2 _ (hm i hi)
    obtain ⟨l1, l2, l3⟩ := hT2 _ (hm q hq)
    rw [succA_balerref12_pick]
    try simp (disch := first | omega | assumption | exact one_int _ _ | exact one_slice _ _ _ | exact one_ptr _ | exact one_bool _ | exact one_string _) only [RXA, RXB, Nat.reduceAdd, Nat.reduceLT, wrap_id, wrap_succ, wrap_pred, FX1, e1, hg, hx]
    refine timed_same' okd (r_Cost lf d _ h' hlf v x g _ hR hrx hl m1 m2 m3) (Nat.le_refl _) fun T1 t1 => ?_
    try simp (disch := first | omega | assumption | exact one_int _ _ | exact one_slice _ _ _ | exact one_ptr _ | exact one_bool _ | exact one_string _) only [RXA, RXB, Nat.reduceAdd, Nat.reduceLT, wrap_id, wrap_succ, wrap_pred, FX1, e2]
    refine timed_ld' ag22 _ _ _ hg hb hx2 fun T2 t2 => ?_
    try simp (disch := first | omega | assumption | exact one_int _ _ | exact one_slice _ _ _ | exact one_ptr _ | exact one_bool _ | exact one_string _) only [RXA, RXB, Nat.reduceAdd, Nat.reduceLT, wrap_id, wrap_succ, wrap_pred, FX1]
    refine timed_same' okd (r_Cost lf d _ h' hlf v x2 g _ hR hrx2 hl l1 l2 l3) (Nat.le_refl _) fun T3 t3 => ?_
    try simp (disch := first | omega | assumption | exact one_int _ _ | exact one_slice _ _ _ | exact one_ptr _ | exact one_bool _ | exact one_string _) only [RXA, RXB, Nat.reduceAdd, Nat.reduceLT, wrap_id, wrap_succ, wrap_pred, FX1, t1.clash t2, Bool.not_false, chk_true, Bool.and_self]
    unfold pickF at hp
    by_cases c1 : costL g (T.getD i []) < costL g (T.getD q [])
    · rw [if_pos c1] at hp
      try simp (disch := first | omega | assumption | exact one_int _ _ | exact one_slice _ _ _ | exact one_ptr _ | exact one_bool _ | exact one_string _) only [RXA, RXB, Nat.reduceAdd, Nat.reduceLT, wrap_id, wrap_succ, wrap_pred, FX1, c1]
      exact next i _ _ ⟨⟨rfl, rfl⟩, hi, hp⟩
    · rw [if_neg c1] at hp
      try simp (disch := first | omega | assumption | exact one_int _ _ | exact one_slice _ _ _ | exact one_ptr _ | exact one_bool _ | exact one_string _) only [RXA, RXB, Nat.reduceAdd, Nat.reduceLT, wrap_id, wrap_succ, wrap_pred, FX1, c1]
      exact next q _ _ ⟨⟨rfl, rfl⟩, hq, hp⟩
end
end Go.Proofs.YtdagfcflbphoiaaDoor
/- Layers 8 and 12 by the second form: the reference's groups; the tables at first. -/
namespace Go.Proofs.YtdagfcflbphoiaaDoor
set_option linter.unusedVariables false
set_option linter.unusedSimpArgs false
open Go.RowKit Ev Tb

def grpNow (xs : List Int) (i : Nat) : List Int := if i < xs.length then (xs.drop (50 * (i / 50))).take (i % 50) else []
def grpOut (xs : List Int) (i : Nat) : List (List Int) := (List.range (if i < xs.length then i / 50 else grpN xs.length)).map (grp xs)
theorem grp_snoc {xs : List Int} {i : Nat} (h : i < xs.length) : (xs.drop (50 * (i / 50))).take (i % 50) ++ [xs.getD i 0] = (xs.drop (50 * (i / 50))).take (i % 50 + 1) := by
  rw [List.take_succ_eq_append_getElem (by simp; omega), List.getElem_drop, List.getD_eq_getElem?_getD, List.getElem?_eq_getElem h]
  congr 2
  show xs[i] = _
  congr 1
  omega
theorem grp_full {xs : List Int} {i : Nat} (h : i < xs.length) (h2 : i % 50 + 1 = 50 ∨ i + 1 = xs.length) : (xs.drop (50 * (i / 50))).take (i % 50 + 1) = grp xs (i / 50) := by
  unfold grp
  rcases h2 with h2 | h2
  · rw [h2]
  · rw [List.take_of_length_le (by simp; omega), List.take_of_length_le (by simp; omega)]
section
variable (lf d n : Nat) (h : H) (hlf : 3000000 ≤ lf)
include hlf
theorem r_Groups (v : Value) (xs : List Int) (hR : Row h n 3 .i64 v xs) (hl : xs.length ≤ 1000000) :
    Run (fun _ => False) n (evCall2 Tryd.prog gt lf (d + 1) 10 #[v]) h n fun v' h' n' => RR h' n' 22 3 v' (groupsL xs) := by
  rw [sh_balerref08_Groups]
  refine Run.inside_ ?_
  unfold b_balerref08_Groups
  have hR0 := hR
  obtain ⟨a, c, rfl⟩ := hR.len
  try simp (disch := first | omega | assumption | exact one_int _ _ | exact one_slice _ _ _ | exact one_ptr _ | exact one_bool _ | exact one_string _) only [RXA, RXB, Nat.reduceAdd, Nat.reduceLT, wrap_id, wrap_succ, wrap_pred, FX1]
  refine run_for xs.length (fun fu i (q : Value × Value) => lpA_balerref08_Groups lf d fu (kcA_balerref08_Groups lf d) (.slice a xs.length c) (.slice none 0 0) q.1 q.2 (.slice a xs.length c) (.int .i64 (xs.length : Nat)) (.int .i64 (i : Nat)))
    (fun i q h' n' => n ≤ n' ∧ (∀ b, b < n → h'.get b = h.get b) ∧ ∃ lo, n ≤ lo ∧ lo ≤ n' ∧ OwnRR h' n lo n' 22 3 q.1 (grpOut xs i) ∧ Own h' lo n' 3 q.2 (intsV .i64 (grpNow xs i))) ?_ ?_ lf 0 (.slice none 0 0, .slice none 0 0) h n (Nat.zero_le _) (by omega) ⟨Nat.le_refl _, fun _ _ => rfl, n, Nat.le_refl _, Nat.le_refl _, ?_, ?_⟩
  · rintro fu ⟨u, w⟩ h' n' ⟨hn, hk, lo, l1, l2, hO, hN⟩
    rw [succA_balerref08_Groups]
    try simp (disch := first | omega | assumption | exact one_int _ _ | exact one_slice _ _ _ | exact one_ptr _ | exact one_bool _ | exact one_string _) only [RXA, RXB, Nat.reduceAdd, Nat.reduceLT, wrap_id, wrap_succ, wrap_pred, FX1, Int.lt_irrefl]
    rw [kcAa_balerref08_Groups]
    try simp (disch := first | omega | assumption | exact one_int _ _ | exact one_slice _ _ _ | exact one_ptr _ | exact one_bool _ | exact one_string _) only [RXA, RXB, Nat.reduceAdd, Nat.reduceLT, wrap_id, wrap_succ, wrap_pred, FX1]
    have := hO.rr
    unfold grpOut at this
    rw [if_neg (Nat.lt_irrefl _)] at this
    exact this
  · rintro fu i ⟨u, w⟩ h' n' hi ⟨hn, hk, lo, l1, l2, hO, hN⟩ next
    simp only at hO hN
    have hR1 := hR0.keep hn hk
    obtain ⟨b, off, cap, o, cs, hv, hg, hb, _, _, _, hat⟩ := hR1.some (by omega)
    cases hv
    have e1 : ((i : Nat) : Int) < ((xs.length : Nat) : Int) := by omega
    have c1 := hat i hi
    have gn : grpNow xs i = (xs.drop (50 * (i / 50))).take (i % 50) := by unfold grpNow; rw [if_pos hi]
    have go : grpOut xs i = (List.range (i / 50)).map (grp xs) := by unfold grpOut; rw [if_pos hi]
    have gl : ((xs.drop (50 * (i / 50))).take (i % 50)).length = i % 50 := by simp; omega
    rw [gn] at hN
    rw [go] at hO
    rw [succA_balerref08_Groups]
    try simp (disch := first | omega | assumption | exact one_int _ _ | exact one_slice _ _ _ | exact one_ptr _ | exact one_bool _ | exact one_string _) only [RXA, RXB, Nat.reduceAdd, Nat.reduceLT, wrap_id, wrap_succ, wrap_pred, FX1, e1, hg, c1]
    refine run_pushO c1x22 (one_int _ _) hN (by rw [intsV_len, gl]; omega) l1 _ fun h2 g2 k2 => ?_
    have g3 : h2.get (n' + 1) = some ⟨3, true, intsV .i64 ((xs.drop (50 * (i / 50))).take (i % 50 + 1))⟩ := by
      rw [g2, ← grp_snoc hi]
      unfold intsV
      rw [List.map_append]
      rfl
    have gl2 : ((xs.drop (50 * (i / 50))).take (i % 50 + 1)).length = i % 50 + 1 := by simp; omega
    obtain ⟨w2, hw2⟩ : ∃ w2 : Value, Value.slice (some ⟨n' + 1, 0, none⟩) ((intsV .i64 ((xs.drop (50 * (i / 50))).take (i % 50))).length + 1) (CAP + ((intsV .i64 ((xs.drop (50 * (i / 50))).take (i % 50))).length + 1)) = w2 := ⟨_, rfl⟩
    have o2 : Own h2 n' (n' + 2) 3 w2 (intsV .i64 ((xs.drop (50 * (i / 50))).take (i % 50 + 1))) := by
      rw [← hw2]
      exact Own.mk' g3 (by omega) (by omega) (by rw [intsV_len, intsV_len, gl, gl2])
    have hlen : (intsV .i64 ((xs.drop (50 * (i / 50))).take (i % 50))).length = i % 50 := by rw [intsV_len, gl]
    rw [hlen] at hw2 ⊢
    have hO2 : OwnRR h2 n n' (n' + 2) 22 3 u ((List.range (i / 50)).map (grp xs)) := (hO.keep (by omega) fun c hc q => k2 c hc fun r => by
      rcases q with q | q
      · have := (hN.lt r).1; omega
      · obtain ⟨B, x1, x2⟩ := hO.elem q
        obtain ⟨B', x3, x4⟩ := hN.elem r
        rw [x1] at x3; cases x3
        rw [x2] at x4; exact absurd x4 (by decide)).up l2
    have hk2 : ∀ c, c < n → h2.get c = h.get c := fun c hc => by rw [k2 c (by omega) fun r => by have := (hN.lt r).1; omega]; exact hk c hc
    have e0 : ((i % 50 : Nat) : Int) + 1 = ((i % 50 + 1 : Nat) : Int) := by omega
    -- the group is full
    have flush : (i % 50 + 1 = 50 ∨ i + 1 = xs.length) → Run (fun _ => False) n ((inside (evBuildSlice Tryd.prog 23 1 [(0, w2)])).bind fun z => (inside (evAppend Tryd.prog 23 u z)).bind fun z2 => lpA_balerref08_Groups lf d fu (kcA_balerref08_Groups lf d) (.slice (some ⟨b, off, none⟩) xs.length c) (.slice none 0 0) z2 (.slice none 0 0) (.slice (some ⟨b, off, none⟩) xs.length c) (.int .i64 (xs.length : Nat)) (.int .i64 ((i + 1 : Nat) : Int))) h2 (n' + 2) fun v' h' n' => RR h' n' 22 3 v' (groupsL xs) := by
      intro hf
      have hr := o2.row
      rw [grp_full hi hf] at hr
      refine run_pushRR c1x23 (by decide) hO2 hr (by omega) (by simp; omega) (Nat.le_refl _) (by omega) _ fun v2 h3 o3 k3 _ => ?_
      refine next (v2, .slice none 0 0) h3 (n' + 2 + 2) ⟨by omega, fun c hc => ?_, n' + 2, by omega, by omega, ?_, ?_⟩
      · rw [k3 c (by omega) fun r => by have := (hO2.lt r).1; omega]
        exact hk2 c hc
      · have : grpOut xs (i + 1) = (List.range (i / 50)).map (grp xs) ++ [grp xs (i / 50)] := by
          have : (if i + 1 < xs.length then (i + 1) / 50 else grpN xs.length) = i / 50 + 1 := by unfold grpN; split <;> omega
          unfold grpOut
          rw [this, List.range_succ, List.map_append]
          rfl
        rw [this]
        exact o3
      · have : grpNow xs (i + 1) = [] := by
          unfold grpNow
          split
          · rw [show (i + 1) % 50 = 0 by omega, List.take_zero]
          · rfl
        rw [this]
        exact Own.nil _ _ _ _
    have e4 : ((i : Nat) : Int) + 1 = ((i + 1 : Nat) : Int) := by omega
    by_cases f1 : i % 50 + 1 = 50
    · have z1 : (((i % 50 : Nat) : Int) + 1 == 50) = true := by rw [e0, f1]; rfl
      have z1' : (((i % 50 + 1 : Nat) : Int) == 50) = true := by rw [f1]; rfl
      rw [← hw2] at flush
      try simp (disch := first | omega | assumption | exact one_int _ _ | exact one_slice _ _ _ | exact one_ptr _ | exact one_bool _ | exact one_string _) only [RXA, RXB, Nat.reduceAdd, Nat.reduceLT, wrap_id, wrap_succ, wrap_pred, FX1, z1, z1']
      exact flush (.inl f1)
    · have z1 : (((i % 50 : Nat) : Int) + 1 == 50) = false := by rw [e0]; exact beq_eq_false_iff_ne.2 (by omega)
      have z1' : (((i % 50 + 1 : Nat) : Int) == 50) = false := beq_eq_false_iff_ne.2 (by omega)
      by_cases f2 : i + 1 = xs.length
      · have z2 : (((i : Nat) : Int) + 1 == ((xs.length : Nat) : Int)) = true := by rw [e4, f2]; simp
        rw [← hw2] at flush
        try simp (disch := first | omega | assumption | exact one_int _ _ | exact one_slice _ _ _ | exact one_ptr _ | exact one_bool _ | exact one_string _) only [RXA, RXB, Nat.reduceAdd, Nat.reduceLT, wrap_id, wrap_succ, wrap_pred, FX1, z1, z1', z2]
        exact flush (.inr f2)
      · have z2 : (((i : Nat) : Int) + 1 == ((xs.length : Nat) : Int)) = false := by rw [e4]; exact beq_eq_false_iff_ne.2 (by omega)
        have hd : (i + 1) / 50 = i / 50 := by omega
        have hm : (i + 1) % 50 = i % 50 + 1 := by omega
        try simp (disch := first | omega | assumption | exact one_int _ _ | exact one_slice _ _ _ | exact one_ptr _ | exact one_bool _ | exact one_string _) only [RXA, RXB, Nat.reduceAdd, Nat.reduceLT, wrap_id, wrap_succ, wrap_pred, FX1, z1, z1', z2]
        refine next (u, .slice (some ⟨n' + 1, 0, none⟩) (i % 50 + 1) (CAP + (i % 50 + 1))) h2 (n' + 2) ⟨by omega, hk2, n', by omega, by omega, ?_, ?_⟩
        · unfold grpOut
          rw [if_pos (by omega), hd]
          exact hO2
        · unfold grpNow
          rw [if_pos (by omega), hd, hm, hw2]
          exact o2
  · unfold grpOut
    by_cases q : 0 < xs.length
    · rw [if_pos q]; exact OwnRR.nil _ _ _ _ _ _
    · have : xs.length = 0 := by omega
      rw [if_neg q, this]; exact OwnRR.nil _ _ _ _ _ _
  · have : grpNow xs 0 = [] := by unfold grpNow; split <;> simp
    rw [this]
    exact Own.nil _ _ _ _
end
end Go.Proofs.YtdagfcflbphoiaaDoor
/- Layer 12 by the second form: the tables at first. -/
namespace Go.Proofs.YtdagfcflbphoiaaDoor
set_option linter.unusedVariables false
set_option linter.unusedSimpArgs false
open Go.RowKit Ev Tb

theorem map_gd {α : Type} (d : α) (f : Nat → α) {N i : Nat} (h : i < N) : ((List.range N).map f).getD i d = f i := by
  rw [List.getD_eq_getElem?_getD, List.getElem?_map, List.getElem?_range h]
  rfl
/-- table p when the first v symbols are told -/
def fpart (counts : List Int) (z : Int) (p v : Nat) : List Int := (List.range counts.length).map fun u => if u < v then (if mineL counts z u = p then 0 else 15) else 0
theorem fpart_len (counts : List Int) (z : Int) (p v : Nat) : (fpart counts z p v).length = counts.length := by unfold fpart; simp
theorem fpart_0 (counts : List Int) (z : Int) (p : Nat) : fpart counts z p 0 = List.replicate counts.length 0 := by
  apply List.ext_getElem
  · simp [fpart_len]
  · intro i h1 h2; simp [fpart]
theorem fpart_all (counts : List Int) (z : Int) (p : Nat) : fpart counts z p counts.length = firstT counts z p := by
  unfold fpart firstT
  apply List.map_congr_left
  intro u hu
  rw [if_pos (List.mem_range.1 hu)]
theorem fpart_mine {counts : List Int} {z : Int} {p v : Nat} (hm : mineL counts z v = p) : fpart counts z p (v + 1) = fpart counts z p v := by
  unfold fpart
  apply List.map_congr_left
  intro u hu
  by_cases c : u < v
  · rw [if_pos c, if_pos (show u < v + 1 by omega)]
  · by_cases c2 : u = v
    · subst c2
      rw [if_pos (show u < u + 1 by omega), if_pos hm, if_neg (Nat.lt_irrefl u)]
    · rw [if_neg c, if_neg (show ¬ u < v + 1 by omega)]
theorem fpart_set {counts : List Int} {z : Int} {p v : Nat} (hv : v < counts.length) (hm : mineL counts z v ≠ p) : (fpart counts z p v).set v 15 = fpart counts z p (v + 1) := by
  apply List.ext_getElem
  · simp [fpart_len]
  · intro i h1 h2
    rw [List.getElem_set]
    simp only [fpart, List.getElem_map, List.getElem_range]
    by_cases c : v = i
    · subst c; rw [if_pos rfl, if_pos (show v < v + 1 by omega), if_neg hm]
    · rw [if_neg c]
      by_cases c2 : i < v
      · rw [if_pos c2, if_pos (show i < v + 1 by omega)]
      · rw [if_neg c2, if_neg (show ¬ i < v + 1 by omega)]
section
variable (lf d n : Nat) (h : H) (hlf : 3000000 ≤ lf)
include hlf
theorem s_first (v : Value) (xs : List Int) (z : Int) (g : Gd h n) (hR : Row h n 3 .i64 v xs) (hl : xs.length ≤ 258) (hx : ∀ x ∈ xs, 0 ≤ x ∧ x ≤ 1099511627776) (hz : 1 ≤ z) (hz2 : z ≤ 1099511627776) :
    Run (fun _ => False) n (evCall2 Tryd.prog gt lf (d + 2) 36 #[v, .int .i64 z]) h n fun v' h' n' => RR h' n' 22 3 v' (firstL xs z) := by
  rw [sh_tables_first]
  refine Run.inside_ ?_
  unfold b_tables_first
  have hR0 := hR
  obtain ⟨a, c, rfl⟩ := hR.len
  refine run_same (s_Number lf d n h z g (by omega)) (Nat.le_refl _) (fun _ _ h => h.elim) ?_
  have ht := numL_ge z
  obtain ⟨t, htt⟩ : ∃ t, numL z = t := ⟨_, rfl⟩
  rw [htt] at ht ⊢
  refine Ev.run_make c1x23 t t _ (Nat.le_refl _) (by omega) ?_
  try simp (disch := first | omega | assumption | exact one_int _ _ | exact one_slice _ _ _ | exact one_ptr _ | exact one_bool _ | exact one_string _) only [RXA, RXB, Nat.reduceAdd, Nat.reduceLT, wrap_id, wrap_succ, wrap_pred, FX1]
  let cel : Nat → Value := fun j => .slice (some ⟨n + 1 + j, 0, none⟩) xs.length xs.length
  refine run_for t (fun fu i (_ : Unit) => lpA_tables_first lf (d + 1) fu (kcA_tables_first lf (d + 1)) (.slice a xs.length c) (.int .i64 z) (.slice none 0 0) (.int .i64 (t : Nat)) (.slice (some ⟨n, 0, none⟩) t t) (.int .i64 (t : Nat)) (.int .i64 (i : Nat)))
    (fun i _ h' n' => n' = n + 1 + i ∧ (∀ b, b < n → h'.get b = h.get b) ∧ h'.get n = some ⟨22, true, rc cel (.slice none 0 0) t i⟩ ∧ ∀ j, j < i → h'.get (n + 1 + j) = some ⟨3, true, intsV .i64 (List.replicate xs.length 0)⟩) ?_ ?_ lf 0 () _ _ (Nat.zero_le _) (by omega) ⟨rfl, fun b hb => get_ne _ _ (by omega), by rw [get_eq, rc_zero], fun j hj => absurd hj (Nat.not_lt_zero j)⟩
  · rintro fu _ h' n' ⟨rfl, hk, hg, hj⟩
    rw [succA_tables_first]
    try simp (disch := first | omega | assumption | exact one_int _ _ | exact one_slice _ _ _ | exact one_ptr _ | exact one_bool _ | exact one_string _) only [RXA, RXB, Nat.reduceAdd, Nat.reduceLT, wrap_id, wrap_succ, wrap_pred, FX1, Int.lt_irrefl]
    rw [kcAa_tables_first]
    try simp (disch := first | omega | assumption | exact one_int _ _ | exact one_slice _ _ _ | exact one_ptr _ | exact one_bool _ | exact one_string _) only [RXA, RXB, Nat.reduceAdd, Nat.reduceLT, wrap_id, wrap_succ, wrap_pred, FX1]
    rw [rc_all] at hg
    refine run_for xs.length (fun fu i (q : Int) => lpB_tables_first lf (d + 1) fu (kcB_tables_first lf (d + 1)) (.slice a xs.length c) (.int .i64 z) (.slice none 0 0) (.int .i64 (t : Nat)) (.slice (some ⟨n, 0, none⟩) t t) (.int .i64 q) _ _ _ (.slice a xs.length c) (.int .i64 (xs.length : Nat)) (.int .i64 (i : Nat)))
      (fun i q h' n' => q = belowL xs z i ∧ n' = n + 1 + t ∧ (∀ b, b < n → h'.get b = h.get b) ∧ h'.get n = some ⟨22, true, (List.range t).map cel⟩ ∧ ∀ j, j < t → h'.get (n + 1 + j) = some ⟨3, true, intsV .i64 (fpart xs z j i)⟩) ?_ ?_ lf 0 0 _ _ (Nat.zero_le _) (by omega) ⟨by unfold belowL; simp only [List.take_zero, sumI]; rw [if_neg (by omega)], rfl, hk, hg, fun j hj2 => by rw [fpart_0]; exact hj j hj2⟩
    · rintro fu q h' n' ⟨rfl, rfl, hk, hg, hj⟩
      rw [succB_tables_first]
      try simp (disch := first | omega | assumption | exact one_int _ _ | exact one_slice _ _ _ | exact one_ptr _ | exact one_bool _ | exact one_string _) only [RXA, RXB, Nat.reduceAdd, Nat.reduceLT, wrap_id, wrap_succ, wrap_pred, FX1, Int.lt_irrefl]
      rw [kcBa_tables_first]
      try simp (disch := first | omega | assumption | exact one_int _ _ | exact one_slice _ _ _ | exact one_ptr _ | exact one_bool _ | exact one_string _) only [RXA, RXB, Nat.reduceAdd, Nat.reduceLT, wrap_id, wrap_succ, wrap_pred, FX1]
      have cl : ((List.range t).map cel).length = t := by simp
      refine ⟨(List.range t).map cel, .inr ⟨n, 0, t, true, _, by rw [cl], hg, by omega, by rw [cl]; omega, by rw [List.drop_zero, List.take_length], by rw [cl]; exact Nat.le_refl _⟩, by rw [cl, firstL_len, htt], fun j hjt => ?_⟩
      rw [firstL_len, htt] at hjt
      unfold firstL
      rw [htt, map_gd _ _ hjt, map_gd _ _ hjt, ← fpart_all]
      exact Row.ofBlk (hj j hjt) (by omega) (fpart_len _ _ _ _)
    · rintro fu i q h' n' hi ⟨rfl, rfl, hk, hg, hj⟩ next
      obtain ⟨b, off, cap, o, cs, hv, hgx, hb, _, _, _, hat⟩ := (hR0.keep (Nat.le_refl n) hk).some (by omega)
      cases hv
      have hb2 : b < n + 1 + t := by omega
      have e1 : ((i : Nat) : Int) < ((xs.length : Nat) : Int) := by omega
      have c1 := hat i hi
      obtain ⟨g0, g1⟩ := belowL_ge (fun x hx' => (hx x hx').1) hz (v := i)
      have g2 := mineL_eq (fun x hx' => (hx x hx').1) hz i
      rw [htt] at g2
      have g4 : 0 ≤ belowL xs z i * (t : Int) := Int.mul_nonneg g0 (by omega)
      have g5 : belowL xs z i * (t : Int) ≤ 1099511627776 * 6 := Int.mul_le_mul (by omega) (by omega) (by omega) (by omega)
      have w1 : IntKind.i64.wrap (belowL xs z i * (t : Int)) = belowL xs z i * (t : Int) := wrap_id (by omega) (by omega)
      have g6 : (mineL xs z i : Int) ≤ 1099511627776 * 6 := by
        have := Int.ediv_le_self z g4
        have h2 : (belowL xs z i * (t : Int)) / z = (mineL xs z i : Int) := by rw [← g2, Int.tdiv_eq_ediv_of_nonneg g4]
        omega
      have w2 : IntKind.i64.wrap (mineL xs z i : Int) = (mineL xs z i : Int) := wrap_id (by omega) (by omega)
      have z0 : z ≠ 0 := by omega
      have xb := hx _ (gd_mem hi)
      have w3 : IntKind.i64.wrap (belowL xs z i + xs.getD i 0) = belowL xs z i + xs.getD i 0 := wrap_id (by omega) (by omega)
      have w4 : IntKind.i64.wrap (z - 1) = z - 1 := wrap_id (by omega) (by omega)
      have bn := belowL_next (fun x hx' => (hx x hx').1) (n := z) hi
      rw [succB_tables_first]
      try simp (disch := first | omega | assumption | exact one_int _ _ | exact one_slice _ _ _ | exact one_ptr _ | exact one_bool _ | exact one_string _) only [RXA, RXB, Nat.reduceAdd, Nat.reduceLT, wrap_id, wrap_succ, wrap_pred, FX1, e1, hgx, c1, w1, z0, g2, w2]
      refine run_for t (fun f2 p (_ : Unit) => lpC_tables_first lf (d + 1) f2 (kcC_tables_first lf (d + 1) fu (kcB_tables_first lf (d + 1))) (.slice (some ⟨b, off, none⟩) xs.length c) (.int .i64 z) (.slice none 0 0) (.int .i64 (t : Nat)) (.slice (some ⟨n, 0, none⟩) t t) (.int .i64 (belowL xs z i)) (.int .i64 (i : Nat)) (.int .i64 (xs.getD i 0)) (.int .i64 (mineL xs z i : Nat)) _ _ _ _ _ (.int .i64 (i : Nat)) _ (.int .i64 (t : Nat)) (.int .i64 (p : Nat)))
        (fun p _ h' n' => n' = n + 1 + t ∧ (∀ b, b < n → h'.get b = h.get b) ∧ h'.get n = some ⟨22, true, (List.range t).map cel⟩ ∧ ∀ j, j < t → h'.get (n + 1 + j) = some ⟨3, true, intsV .i64 (fpart xs z j (if j < p then i + 1 else i))⟩) ?_ ?_ lf 0 () _ _ (Nat.zero_le _) (by omega) ⟨rfl, hk, hg, fun j hj2 => by rw [if_neg (Nat.not_lt_zero j)]; exact hj j hj2⟩
      · rintro f2 _ h2 n2 ⟨rfl, hk2, hg2, hj2⟩
        rw [succC_tables_first]
        try simp (disch := first | omega | assumption | exact one_int _ _ | exact one_slice _ _ _ | exact one_ptr _ | exact one_bool _ | exact one_string _) only [RXA, RXB, Nat.reduceAdd, Nat.reduceLT, wrap_id, wrap_succ, wrap_pred, FX1, Int.lt_irrefl]
        rw [kcCa_tables_first]
        try simp (disch := first | omega | assumption | exact one_int _ _ | exact one_slice _ _ _ | exact one_ptr _ | exact one_bool _ | exact one_string _) only [RXA, RXB, Nat.reduceAdd, Nat.reduceLT, wrap_id, wrap_succ, wrap_pred, FX1, w3, w4, bn]
        exact next _ _ _ ⟨rfl, rfl, hk2, hg2, fun j hj3 => by have := hj2 j hj3; rwa [if_pos hj3] at this⟩
      · rintro f2 p _ h2 n2 hp ⟨rfl, hk2, hg2, hj2⟩ next2
        have e2 : ((p : Nat) : Int) < ((t : Nat) : Int) := by omega
        have hpp := hj2 p hp
        rw [if_neg (Nat.lt_irrefl p)] at hpp
        rw [succC_tables_first]
        by_cases m : mineL xs z i = p
        · have n1 : ((p : Int) != (mineL xs z i : Int)) = false := by rw [m]; simp
          try simp (disch := first | omega | assumption | exact one_int _ _ | exact one_slice _ _ _ | exact one_ptr _ | exact one_bool _ | exact one_string _) only [RXA, RXB, Nat.reduceAdd, Nat.reduceLT, wrap_id, wrap_succ, wrap_pred, FX1, e2, n1]
          refine next2 () _ _ ⟨rfl, hk2, hg2, fun j hj3 => ?_⟩
          by_cases q : j = p
          · subst q
            rw [if_pos (by omega), fpart_mine m]
            exact hpp
          · have := hj2 j hj3
            by_cases q2 : j < p
            · rw [if_pos q2] at this; rw [if_pos (by omega)]; exact this
            · rw [if_neg q2] at this; rw [if_neg (by omega)]; exact this
        · have n1 : ((p : Int) != (mineL xs z i : Int)) = true := bne_iff_ne.2 fun e => m (by omega)
          have c2 : ((List.range t).map cel)[p]? = some (cel p) := by rw [List.getElem?_map, List.getElem?_range hp]; rfl
          have hcel : cel p = .slice (some ⟨n + 1 + p, 0, none⟩) xs.length xs.length := rfl
          have lt1 : n + 1 + p < n + 1 + t := by omega
          have lt2 : n < n + 1 + t := by omega
          try simp (disch := first | omega | assumption | exact one_int _ _ | exact one_slice _ _ _ | exact one_ptr _ | exact one_bool _ | exact one_string _) only [RXA, RXB, Nat.reduceAdd, Nat.reduceLT, wrap_id, wrap_succ, wrap_pred, FX1, e2, n1, hg2, c2, hcel, e1, hpp, intsV_set, fpart_set hi m, intsV_len, fpart_len]
          refine ⟨hi, .inl (by omega), ?_⟩
          refine next2 () _ _ ⟨rfl, fun b hb => by rw [get_ne _ _ (by omega)]; exact hk2 b hb, by rw [get_ne _ _ (by omega)]; exact hg2, fun j hj3 => ?_⟩
          by_cases q : j = p
          · subst q
            rw [if_pos (by omega), get_eq]
          · rw [get_ne _ _ (by omega)]
            have := hj2 j hj3
            by_cases q2 : j < p
            · rw [if_pos q2] at this; rw [if_pos (by omega)]; exact this
            · rw [if_neg q2] at this; rw [if_neg (by omega)]; exact this
  · rintro fu i _ h' n' hi ⟨rfl, hk, hg, hj⟩ next
    have e2 : ((i : Nat) : Int) < ((t : Nat) : Int) := by omega
    rw [succA_tables_first]
    try simp (disch := first | omega | assumption | exact one_int _ _ | exact one_slice _ _ _ | exact one_ptr _ | exact one_bool _ | exact one_string _) only [RXA, RXB, Nat.reduceAdd, Nat.reduceLT, wrap_id, wrap_succ, wrap_pred, FX1, e2]
    refine Ev.run_make c1x22 xs.length xs.length _ (Nat.le_refl _) (by omega) ?_
    have hg2 : (h'.set (n + 1 + i) (some ⟨3, true, List.replicate xs.length (.int .i64 0)⟩)).get n = some ⟨22, true, rc cel (.slice none 0 0) t i⟩ := by rw [get_ne _ _ (by omega)]; exact hg
    have lt2 : n < n + 1 + i + 1 := by omega
    have rs := rc_set (f := cel) (z := .slice none 0 0) hi
    have hcel : cel i = .slice (some ⟨n + 1 + i, 0, none⟩) xs.length xs.length := rfl
    rw [hcel] at rs
    try simp (disch := first | omega | assumption | exact one_int _ _ | exact one_slice _ _ _ | exact one_ptr _ | exact one_bool _ | exact one_string _) only [RXA, RXB, Nat.reduceAdd, Nat.reduceLT, wrap_id, wrap_succ, wrap_pred, FX1, e2, hg2, rs, rc_len]
    refine ⟨hi, .inl (by omega), ?_⟩
    refine next () _ _ ⟨by omega, fun b hb => by rw [get_ne _ _ (by omega), get_ne _ _ (by omega)]; exact hk b hb, get_eq _ _ _, fun j hj3 => ?_⟩
    rw [get_ne _ _ (by omega)]
    by_cases q : j = i
    · subst q
      rw [get_eq, intsV_rep]
    · rw [get_ne _ _ (by omega)]
      exact hj j (by omega)
end
end Go.Proofs.YtdagfcflbphoiaaDoor
/- Lengths of counts: rounds of halving, by the second form; the statement LensWhole. -/
namespace Go.Proofs.YtdagfcflbphoiaaDoor
set_option linter.unusedVariables false
set_option linter.unusedSimpArgs false
open Go.RowKit Ev Hu

/-- the lengths that rounds of halving come to -/
inductive Rounds : Nat → List Int → List Int → Prop
  | stop (w : List Int) (hW : Ws w) (so : Sorts w (sortD w)) (h : lngL (depF w) 0 ≤ 20) : Rounds 0 w (depF w)
  | next {k : Nat} {w l : List Int} (hW : Ws w) (so : Sorts w (sortD w)) (h : ¬ lngL (depF w) 0 ≤ 20) (r : Rounds k (halvL w) l) : Rounds (k + 1) w l
theorem Rounds.out {k : Nat} {w l : List Int} (r : Rounds k w l) : ∃ w', Ws w' ∧ Sorts w' (sortD w') ∧ lngL (depF w') 0 ≤ 20 ∧ l = depF w' ∧ w'.length = w.length := by
  induction r with
  | stop w hW so h => exact ⟨w, hW, so, h, rfl, rfl⟩
  | next hW so h r ih =>
    obtain ⟨w', h1, h2, h3, h4, h5⟩ := ih
    exact ⟨w', h1, h2, h3, h4, by rw [h5, halvL_len]⟩

/-- weights within a bound -/
structure Wb (ws : List Int) (c : Int) : Prop where
  l2 : 2 ≤ ws.length
  l3 : ws.length ≤ 258
  lo : ∀ x ∈ ws, 1 ≤ x
  hi : ∀ x ∈ ws, x ≤ c
theorem Wb.ws {ws : List Int} {c : Int} (h : Wb ws c) (hc : c ≤ 2199023255552) : Ws ws := ⟨h.l2, h.l3, fun x hx => by have := h.lo x hx; omega, fun x hx => by have := h.hi x hx; omega⟩
theorem Wb.halv {ws : List Int} {c : Int} (h : Wb ws c) (hc : c ≤ 2199023255552) : Wb (halvL ws) (c / 2 + 1) := by
  refine ⟨by rw [halvL_len]; exact h.l2, by rw [halvL_len]; exact h.l3, fun x hx => ?_, fun x hx => ?_⟩
  all_goals
    unfold halvL at hx
    rw [List.mem_map] at hx
    obtain ⟨y, hy, rfl⟩ := hx
    have h1 := h.lo y hy
    have h2 := h.hi y hy
    have hb := halv_bound y (by omega)
    have := hb.2.2 (by omega)
    omega
/-- behind k rounds -/
def cap (k : Nat) : Int := 2 ^ k + 2
theorem cap_next (k : Nat) : cap (k + 1) / 2 + 1 ≤ cap k := by
  unfold cap
  rw [Int.pow_succ]
  omega
theorem cap_le {k : Nat} (h : k ≤ 40) : cap k ≤ 2199023255552 := by
  unfold cap
  have h1 : (2 : Nat) ^ k ≤ 2 ^ 40 := Nat.pow_le_pow_right (by omega) h
  have e : ((2 : Int) ^ k) = (((2 : Nat) ^ k : Nat) : Int) := by simp
  rw [e]
  generalize (2 : Nat) ^ k = z at h1
  omega
theorem Wb.short {ws : List Int} (h : Wb ws 3) (so : Sorts ws (sortD ws)) : lngL (depF ws) 0 ≤ 20 := by
  obtain ⟨w, I, A, B, X, R, dep, D⟩ := (h.ws (by omega)).deps so
  have hN := h.l2
  have hN3 := h.l3
  have hroot := D.m.root
  have hsum : sumI ((List.range ws.length).map w) ≤ ((List.range ws.length).map w).length * 3 := sumI_bound 3 _ (fun x hx => by
    rw [List.mem_map] at hx
    obtain ⟨i, hi, rfl⟩ := hx
    have hi := List.mem_range.1 hi
    rw [D.ww i hi]
    exact h.hi _ (mem_getD hi))
  rw [List.length_map, List.length_range] at hsum
  rw [lngL_le]
  refine ⟨by omega, ?_⟩
  unfold depF
  rw [D.mem]
  intro i hi
  have := D.m.short D.d0 D.d1 hi (by rw [D.ww i hi]; exact h.lo _ (mem_getD hi)) (by omega)
  omega

theorem ofB (lf d : Nat) (hlf : 3000000 ≤ lf) (hd : 300 ≤ d) (x0 x2 x20 x24 x25 x26 x27 : Value) {W : Nat → Prop} {n0 : Nat} :
    ∀ (m fu : Nat) (w : List Int) (h : H) (n : Nat) (x4 : Value), m < fu → m ≤ 40 → Wb w (cap m) → n0 ≤ n → Row h n 3 .i64 x4 w →
      Run W n0 (lpB_lens_Of lf d fu (kcB_lens_Of lf d) x0 x2 (.int .i64 0) x4 x20 x24 x25 x26 x27) h n fun v' h' n' => ∃ v1 l r, v' = .tuple #[v1, .int .i64 0] ∧ Rounds r w l ∧ r ≤ m ∧ Row h' n' 3 .i64 v1 l := by
  intro m
  induction m with
  | zero =>
    intro fu w h n x4 hfu hm hw hn hR
    obtain ⟨fu, rfl⟩ : ∃ f, fu = f + 1 := ⟨fu - 1, by omega⟩
    obtain ⟨e, rfl⟩ : ∃ e, d = e + 1 := ⟨d - 1, by omega⟩
    rw [succB_lens_Of]
    have hW := hw.ws (cap_le hm)
    refine run_call okd (s_depF lf (e + 1) n h x4 w hR hW hlf hd) hn (fun _ _ h => h.elim) fun v1 h1 n1 hn1 fr1 hq => ?_
    obtain ⟨so, hr1, _⟩ := hq
    have hl2 := hW.l2
    have hl3 := hW.l3
    have dl := depF_len (ws := w) (by omega)
    refine run_same (s_Longest lf e n1 h1 v1 _ hr1 (by omega) hlf) (by omega) (fun _ _ h => h.elim) ?_
    have hs := Wb.short hw so
    try simp (disch := first | omega | assumption | exact one_int _ _ | exact one_slice _ _ _ | exact one_ptr _ | exact one_bool _ | exact one_string _) only [RXA, RXB, Nat.reduceAdd, Nat.reduceLT, wrap_id, wrap_succ, wrap_pred, FX1, hs]
    refine run_call okd (s_Clone lf e n1 h1 v1 _ hr1 (by omega) (by omega)) (by omega) (fun _ _ h => h.elim) fun v3 h3 n3 hn3 fr3 q3 => ?_
    rw [kcBa_lens_Of, run_out2]
    exact ⟨v3, _, 0, rfl, .stop w hW so hs, Nat.le_refl _, q3.2.1⟩
  | succ m ih =>
    intro fu w h n x4 hfu hm hw hn hR
    obtain ⟨fu, rfl⟩ : ∃ f, fu = f + 1 := ⟨fu - 1, by omega⟩
    obtain ⟨e, rfl⟩ : ∃ e, d = e + 1 := ⟨d - 1, by omega⟩
    rw [succB_lens_Of]
    have hc := cap_le hm
    have hW := hw.ws hc
    refine run_call okd (s_depF lf (e + 1) n h x4 w hR hW hlf hd) hn (fun _ _ h => h.elim) fun v1 h1 n1 hn1 fr1 hq => ?_
    obtain ⟨so, hr1, _⟩ := hq
    have hl2 := hW.l2
    have hl3 := hW.l3
    have dl := depF_len (ws := w) (by omega)
    refine run_same (s_Longest lf e n1 h1 v1 _ hr1 (by omega) hlf) (by omega) (fun _ _ h => h.elim) ?_
    by_cases hs : lngL (depF w) 0 ≤ 20
    · try simp (disch := first | omega | assumption | exact one_int _ _ | exact one_slice _ _ _ | exact one_ptr _ | exact one_bool _ | exact one_string _) only [RXA, RXB, Nat.reduceAdd, Nat.reduceLT, wrap_id, wrap_succ, wrap_pred, FX1, hs]
      refine run_call okd (s_Clone lf e n1 h1 v1 _ hr1 (by omega) (by omega)) (by omega) (fun _ _ h => h.elim) fun v3 h3 n3 hn3 fr3 q3 => ?_
      rw [kcBa_lens_Of, run_out2]
      exact ⟨v3, _, 0, rfl, .stop w hW so hs, Nat.zero_le _, q3.2.1⟩
    · try simp (disch := first | omega | assumption | exact one_int _ _ | exact one_slice _ _ _ | exact one_ptr _ | exact one_bool _ | exact one_string _) only [RXA, RXB, Nat.reduceAdd, Nat.reduceLT, wrap_id, wrap_succ, wrap_pred, FX1, hs]
      have hR1 := hR.keep hn1 (fun b hb => fr1 b hb id)
      refine run_call okd (s_Halved lf e n1 h1 x4 w hR1 (by omega) (fun x hx => by have := hW.hi x hx; omega) hlf) (by omega) (fun _ _ h => h.elim) fun v3 h3 n3 hn3 fr3 q3 => ?_
      have hw2 := hw.halv hc
      have hw3 : Wb (halvL w) (cap m) := ⟨hw2.l2, hw2.l3, hw2.lo, fun x hx => by have := hw2.hi x hx; have := cap_next m; omega⟩
      refine (ih fu (halvL w) h3 n3 v3 (by omega) (by omega) hw3 (by omega) q3.1).mono ?_
      rintro v' h' n' _ ⟨v4, l, r, rfl, hr, hle, hrow⟩
      exact ⟨v4, l, r + 1, rfl, .next hW so hs hr, by omega, hrow⟩

def cnt1 (x : Int) : Int := if x < 1 then 1 else x
def cntL (xs : List Int) : List Int := xs.map cnt1
theorem cntL_len (xs : List Int) : (cntL xs).length = xs.length := by unfold cntL; simp
theorem cntL_at {xs : List Int} {i : Nat} (h : i < xs.length) : (cntL xs).getD i 0 = cnt1 (xs.getD i 0) := by
  unfold cntL
  rw [List.getD_eq_getElem?_getD, List.getElem?_map, List.getElem?_eq_getElem h, List.getD_eq_getElem?_getD, List.getElem?_eq_getElem h]
  rfl
theorem cnt_wb {xs : List Int} (h2 : 2 ≤ xs.length) (h3 : xs.length ≤ 258) (h : ∀ x ∈ xs, 0 ≤ x ∧ x ≤ 1099511627776) : Wb (cntL xs) (cap 40) := by
  refine ⟨by rw [cntL_len]; exact h2, by rw [cntL_len]; exact h3, fun x hx => ?_, fun x hx => ?_⟩
  all_goals
    unfold cntL at hx
    rw [List.mem_map] at hx
    obtain ⟨y, hy, rfl⟩ := hx
    have := h y hy
    unfold cnt1
  · split <;> omega
  · have : cap 40 = 1099511627778 := rfl
    split <;> omega
theorem ofA (lf d n : Nat) (h : H) (v : Value) (xs : List Int) (hR : Row h n 3 .i64 v xs) (hl : xs.length ≤ 1000000) (x2 x3 x20 : Value) (c : Nat) (hc : xs.length ≤ c) {W : Nat → Prop} {n0 : Nat} (hn0 : n0 ≤ n) {Q : Value → H → Nat → Prop} (k : Ex → Fr → M Value)
    (hK : ∀ h1 y27, Row h1 (n + 1) 3 .i64 (.slice (some ⟨n, 0, none⟩) xs.length c) (cntL xs) → Run W n0 (k (Ex.exit 0) [(0, v), (2, x2), (3, x3), (4, .slice (some ⟨n, 0, none⟩) xs.length c), (20, x20), (24, v), (25, .int .i64 (xs.length : Nat)), (26, .int .i64 (xs.length : Nat)), (27, y27)]) h1 (n + 1) Q) :
    ∀ (m i fu : Nat) (h1 : H), xs.length - i = m → m < fu → i ≤ xs.length → (∀ b, b < n → h1.get b = h.get b) → h1.get n = some ⟨3, true, ints (part (cntL xs) i)⟩ →
      Run W n0 (lpA_lens_Of lf d fu k v x2 x3 (.slice (some ⟨n, 0, none⟩) xs.length c) x20 v (.int .i64 (xs.length : Nat)) (.int .i64 (i : Nat))) h1 (n + 1) Q := by
  intro m
  induction m with
  | zero =>
    intro i fu h1 hm hfu hi hk hg1
    obtain ⟨fu, rfl⟩ : ∃ f, fu = f + 1 := ⟨fu - 1, by omega⟩
    obtain rfl : i = xs.length := by omega
    rw [succA_lens_Of]
    try simp (disch := first | omega | assumption | exact one_int _ _ | exact one_slice _ _ _ | exact one_ptr _ | exact one_bool _ | exact one_string _) only [RXA, RXB, Nat.reduceAdd, Nat.reduceLT, wrap_id, wrap_succ, wrap_pred, FX1, Int.lt_irrefl]
    rw [← cntL_len xs, part_all] at hg1
    refine hK h1 _ (.inr ⟨n, 0, c, true, _, by rw [cntL_len], hg1, Nat.lt_succ_self n, by rw [ints_len]; omega, ?_, by rw [cntL_len]; exact hc⟩)
    rw [List.drop_zero, List.take_of_length_le (by rw [ints_len]; exact Nat.le_refl _)]
    rfl
  | succ m ih =>
    intro i fu h1 hm hfu hi hk hg1
    obtain ⟨fu, rfl⟩ : ∃ f, fu = f + 1 := ⟨fu - 1, by omega⟩
    have hR1 : Row h1 (n + 1) 3 .i64 v xs := hR.keep (Nat.le_succ n) hk
    have hlt := fun b hb => hR.lt (b := b) hb
    obtain ⟨b, off, cap, o, cs, rfl, hg, hb, _, _, _, hat⟩ := hR1.some (by omega)
    have hbn : b < n := hlt b ⟨_, _, _, rfl⟩
    have e1 : ((i : Nat) : Int) < ((xs.length : Nat) : Int) := by omega
    have c1 := hat i (by omega)
    have w1 : ((i : Nat) : Int) + 1 = ((i + 1 : Nat) : Int) := by omega
    have pl : (part (cntL xs) i).length = xs.length := by rw [part_len _ (by rw [cntL_len]; omega), cntL_len]
    have ps : (part (cntL xs) i).set i (if xs.getD i 0 < 1 then 1 else xs.getD i 0) = part (cntL xs) (i + 1) := by
      show (part (cntL xs) i).set i (cnt1 (xs.getD i 0)) = _
      rw [← cntL_at (by omega), part_set (by rw [cntL_len]; omega)]
    rw [succA_lens_Of]
    try simp (disch := first | omega | assumption | exact one_int _ _ | exact one_slice _ _ _ | exact one_ptr _ | exact one_bool _ | exact one_string _) only [RXA, RXB, Nat.reduceAdd, Nat.reduceLT, wrap_id, wrap_succ, wrap_pred, FX1, e1, hg, c1, hg1, ints_set, ints_len, pl, ps]
    refine ⟨by omega, .inl hn0, ?_⟩
    rw [w1]
    exact ih (i + 1) fu _ (by omega) (by omega) (by omega) (fun b hb => by rw [get_ne _ _ (by omega)]; exact hk b hb) (get_eq _ _ _)
theorem s_Of_ok (lf d n : Nat) (h : H) (v : Value) (xs : List Int) (hR : Row h n 3 .i64 v xs) (hl2 : 3 ≤ xs.length) (hl3 : xs.length ≤ 258) (hm : allIn 0 1099511627776 xs = true) (hlf : 3000000 ≤ lf) (hd : 400 ≤ d) :
    Run (fun _ => False) n (evCall2 Tryd.prog gt lf d 39 #[v]) h n fun v' h' n' => ∃ v1 l r, v' = .tuple #[v1, .int .i64 0] ∧ Rounds r (cntL xs) l ∧ r ≤ 40 ∧ Row h' n' 3 .i64 v1 l := by
  obtain ⟨d, rfl⟩ : ∃ e, d = e + 5 := ⟨d - 5, by omega⟩
  have hm' := allIn_iff.1 hm
  rw [sh_lens_Of]
  refine Run.inside_ ?_
  unfold b_lens_Of
  have hR0 := hR
  obtain ⟨a, c, rfl⟩ := hR.len
  have e1 : ¬ ((xs.length : Nat) : Int) < 3 := by omega
  have e2 : ¬ (258 : Int) < ((xs.length : Nat) : Int) := by omega
  try simp (disch := first | omega | assumption | exact one_int _ _ | exact one_slice _ _ _ | exact one_ptr _ | exact one_bool _ | exact one_string _) only [RXA, RXB, Nat.reduceAdd, Nat.reduceLT, wrap_id, wrap_succ, wrap_pred, FX1, e1, e2]
  refine run_bool (s_between lf d n h _ xs hR0 0 1099511627776 (by omega) hlf) (Nat.le_refl _) fun h1 n1 hn1 fr1 => ?_
  have hR1 := hR0.keep hn1 fr1
  rw [hm, u_not, optK_some_eq, Bool.not_true]
  try simp (disch := first | omega | assumption | exact one_int _ _ | exact one_slice _ _ _ | exact one_ptr _ | exact one_bool _ | exact one_string _) only [RXA, RXB, Nat.reduceAdd, Nat.reduceLT, wrap_id, wrap_succ, wrap_pred, FX1]
  refine Ev.run_make c1x22 xs.length xs.length _ (Nat.le_refl _) (by omega) ?_
  try simp (disch := first | omega | assumption | exact one_int _ _ | exact one_slice _ _ _ | exact one_ptr _ | exact one_bool _ | exact one_string _) only [RXA, RXB, Nat.reduceAdd, Nat.reduceLT, wrap_id, wrap_succ, wrap_pred, FX1]
  refine ofA lf (d + 4) n1 h1 _ xs hR1 (by omega) _ _ _ xs.length (Nat.le_refl _) hn1 _ (fun h2 y27 hr2 => ?_) xs.length 0 lf _ (by omega) (by omega) (by omega) (fun b hb => get_ne _ _ (by omega)) ?_
  · rw [kcAa_lens_Of]
    exact ofB lf (d + 4) hlf (by omega) _ _ _ _ _ _ _ 40 lf (cntL xs) h2 (n1 + 1) _ (by omega) (Nat.le_refl _) (cnt_wb (by omega) hl3 hm') (by omega) hr2
  · rw [get_eq, part_0, cntL_len]
    unfold ints
    rw [List.map_replicate]
theorem Rounds.whole {k : Nat} {w l : List Int} (r : Rounds k w l) : l.length = w.length ∧ allIn 1 20 l = true ∧ shrL l = 1048576 := by
  obtain ⟨w', hW, so, h, rfl, hl⟩ := r.out
  obtain ⟨wf, I, A, B, X, R, dep, D⟩ := hW.deps so
  have hl2 := hW.l2
  rw [lngL_le] at h
  refine ⟨by rw [depF_len (by omega), hl], allIn_iff.2 fun x hx => ⟨?_, h.2 x hx⟩, ?_⟩
  · revert x
    unfold depF
    rw [D.mem]
    intro i hi
    have := D.ge1 hi
    omega
  · unfold depF at h ⊢
    exact D.share h.2
end Go.Proofs.YtdagfcflbphoiaaDoor
/- The reference's trees: which is less, the least one, all but one; by the second form. -/
namespace Go.Proofs.YtdagfcflbphoiaaDoor
set_option linter.unusedVariables false
set_option linter.unusedSimpArgs false
open Go.RowKit Ev Hu

/-- a tree: its weight, its number, its leaves -/
abbrev RT := Int × Nat × Value
def tv (t : RT) : V3 := (.int .i64 t.1, .int .i64 (t.2.1 : Nat), t.2.2)
theorem c3t : Cell3 Tryd.prog 73 75 (.agg #[.int .i64 0, .int .i64 0, .slice none 0 0]) :=
  ⟨Tryd.underlying73, ⟨Tryd.t75, by kernel_rfl, by kernel_rfl, by decide⟩, by kernel_rfl, rfl, by kernel_rfl, fun a b c => by kernel_rfl⟩
def ltT (t u : RT) : Bool := decide (t.1 < u.1) || (t.1 == u.1 && decide (t.2.1 < u.2.1))
theorem ltT_iff {t u : RT} : ltT t u = true ↔ t.1 < u.1 ∨ t.1 = u.1 ∧ t.2.1 < u.2.1 := by unfold ltT; simp
def IsSl (v : Value) : Prop := ∃ a n c, v = .slice a n c
theorem tv_one {t : RT} (h : IsSl t.2.2) : One3 (tv t) := by
  obtain ⟨a, n, c, h⟩ := h
  exact ⟨rfl, rfl, by show one t.2.2 = true; rw [h]; rfl⟩

theorem s_less (lf d n : Nat) (h : H) (t u : RT) : Run (fun _ => False) n (evCall2 Tryd.prog gt lf (d + 1) 72 #[agg3 (tv t), agg3 (tv u)]) h n fun v' h' n' => v' = .bool (ltT t u) := by
  rw [sh_balerref09_less]
  refine Run.inside_ ?_
  unfold b_balerref09_less
  refine run_box sz75 _ _ ?_
  refine run_box sz75 _ _ ?_
  obtain ⟨h2, hh2⟩ : ∃ h2, (h.set n (some ⟨75, true, (agg3 (tv t)).cells.toList⟩)).set (n + 1) (some ⟨75, true, (agg3 (tv u)).cells.toList⟩) = h2 := ⟨_, rfl⟩
  have g1 : h2.get n = some ⟨75, true, [.int .i64 t.1, .int .i64 (t.2.1 : Nat), t.2.2]⟩ := by rw [← hh2, get_ne _ _ (by omega), get_eq]; rfl
  have g2 : h2.get (n + 1) = some ⟨75, true, [.int .i64 u.1, .int .i64 (u.2.1 : Nat), u.2.2]⟩ := by rw [← hh2, get_eq]; rfl
  rw [hh2]
  have z0 : ∀ a b c : Value, [a, b, c][0]? = some a := fun _ _ _ => rfl
  have z1 : ∀ a b c : Value, [a, b, c][1]? = some b := fun _ _ _ => rfl
  unfold ltT
  by_cases h1 : t.1 < u.1
  · try simp (disch := first | omega | assumption | exact one_int _ _ | exact one_slice _ _ _ | exact one_ptr _ | exact one_bool _ | exact one_string _) only [RXA, RXB, Nat.reduceAdd, Nat.reduceLT, wrap_id, wrap_succ, wrap_pred, FX1, g1, g2, z0, z1, h1]
    simp [h1]
  · by_cases h2 : t.1 = u.1
    · have e2 : (t.1 == u.1) = true := by simp [h2]
      try simp (disch := first | omega | assumption | exact one_int _ _ | exact one_slice _ _ _ | exact one_ptr _ | exact one_bool _ | exact one_string _) only [RXA, RXB, Nat.reduceAdd, Nat.reduceLT, wrap_id, wrap_succ, wrap_pred, FX1, g1, g2, z0, z1, h1, e2]
      simp [h2]
    · have e2 : (t.1 == u.1) = false := by simp [h2]
      try simp (disch := first | omega | assumption | exact one_int _ _ | exact one_slice _ _ _ | exact one_ptr _ | exact one_bool _ | exact one_string _) only [RXA, RXB, Nat.reduceAdd, Nat.reduceLT, wrap_id, wrap_succ, wrap_pred, FX1, g1, g2, z0, z1, h1, e2]
      simp [h1]

def IsMin (l : List RT) (i at_ : Nat) : Prop := ∀ j (hj : j < i) (h : j < l.length) (ha : at_ < l.length), j = at_ ∨ ltT l[at_] l[j] = true
theorem lsA (lf d n0' : Nat) (lo : Nat) (l : List RT) (hl : l.length ≤ 1000000) (hd : ∀ i j (hi : i < l.length) (hj : j < l.length), i ≠ j → l[i].2.1 ≠ l[j].2.1) (hs : ∀ t ∈ l, IsSl t.2.2) (v x2 : Value) {W : Nat → Prop} {n0 : Nat} :
    ∀ (m i fu at_ : Nat) (h : H) (n : Nat), l.length - i = m → m < fu → i ≤ l.length → at_ < l.length → IsMin l i at_ → n0 ≤ n → Own3 h lo n 75 v (l.map tv) →
      Run W n0 (lpA_balerref09_least lf (d + 1) fu (kcA_balerref09_least lf (d + 1)) v x2 (.int .i64 (at_ : Nat)) v (.int .i64 (l.length : Nat)) (.int .i64 (i : Nat))) h n fun v' _ _ => ∃ a : Nat, v' = .int .i64 (a : Nat) ∧ a < l.length ∧ IsMin l l.length a := by
  intro m
  induction m with
  | zero =>
    intro i fu at_ h n hm hfu hi ha hmin hn hO
    obtain ⟨fu, rfl⟩ : ∃ f, fu = f + 1 := ⟨fu - 1, by omega⟩
    obtain rfl : i = l.length := by omega
    rw [succA_balerref09_least]
    try simp (disch := first | omega | assumption | exact one_int _ _ | exact one_slice _ _ _ | exact one_ptr _ | exact one_bool _ | exact one_string _) only [RXA, RXB, Nat.reduceAdd, Nat.reduceLT, wrap_id, wrap_succ, wrap_pred, FX1, Int.lt_irrefl]
    rw [kcAa_balerref09_least]
    try simp (disch := first | omega | assumption | exact one_int _ _ | exact one_slice _ _ _ | exact one_ptr _ | exact one_bool _ | exact one_string _) only [RXA, RXB, Nat.reduceAdd, Nat.reduceLT, wrap_id, wrap_succ, wrap_pred, FX1]
    exact ⟨at_, rfl, ha, hmin⟩
  | succ m ih =>
    intro i fu at_ h n hm hfu hi ha hmin hn hO
    obtain ⟨fu, rfl⟩ : ∃ f, fu = f + 1 := ⟨fu - 1, by omega⟩
    have hO0 := hO
    rcases hO with ⟨rfl, hnil⟩ | ⟨b, rfl, hg, hb1, hb2⟩
    · have := congrArg List.length hnil
      simp at this
      subst this
      simp at ha
    rw [List.length_map] at hO0 ⊢
    simp only [List.length_map] at ih
    have hil : i < l.length := by omega
    have e1 : ((i : Nat) : Int) < ((l.length : Nat) : Int) := by omega
    have e2 : ((at_ : Nat) : Int) < ((l.length : Nat) : Int) := by omega
    have w1 : ((i : Nat) : Int) + 1 = ((i + 1 : Nat) : Int) := by omega
    have r1 : ((flat3 (l.map tv)).drop (i * 3)).take 3 = [(tv l[i]).1, (tv l[i]).2.1, (tv l[i]).2.2] := by
      have := flat3_at (l.map tv) i (by simpa using hil)
      simpa using this
    have r2 : ((flat3 (l.map tv)).drop (at_ * 3)).take 3 = [(tv l[at_]).1, (tv l[at_]).2.1, (tv l[at_]).2.2] := by
      have := flat3_at (l.map tv) at_ (by simpa using ha)
      simpa using this
    rw [succA_balerref09_least]
    try simp (disch := first | omega | assumption | exact one_int _ _ | exact one_slice _ _ _ | exact one_ptr _ | exact one_bool _ | exact one_string _) only [RXA, RXB, Nat.reduceAdd, Nat.reduceLT, wrap_id, wrap_succ, wrap_pred, FX1, e1, e2]
    refine run_ld3 c3t hg hb2 r1 _ ?_
    refine run_var3 c3t (tv l[i]) (tv_one (hs _ (List.getElem_mem hil))) _ (fun h2 g2 k2 => ?_) hn
    refine run_ld3 c3t g2 (Nat.lt_succ_self n) (x := tv l[i]) rfl _ ?_
    try simp (disch := first | omega | assumption | exact one_int _ _ | exact one_slice _ _ _ | exact one_ptr _ | exact one_bool _ | exact one_string _) only [RXA, RXB, Nat.reduceAdd, Nat.reduceLT, wrap_id, wrap_succ, wrap_pred, FX1, e1, e2]
    have hgb : h2.get b = some ⟨75, true, flat3 (l.map tv)⟩ := (k2 b hb2).trans hg
    refine run_ld3 c3t hgb (by omega) r2 _ ?_
    refine run_call okd (s_less lf d (n + 1) h2 l[i] l[at_]) (by omega) (fun _ _ h => h.elim) fun v3 h3 n3 hn3 fr3 hq => ?_
    subst hq
    have hO3 : Own3 h3 lo n3 75 (.slice (some ⟨b, 0, none⟩) l.length (CAP + l.length)) (l.map tv) := .inr ⟨b, by rw [List.length_map], (fr3 b (by omega) id).trans hgb, hb1, by omega⟩
    by_cases hlt : ltT l[i] l[at_] = true
    · rw [hlt]
      try simp (disch := first | omega | assumption | exact one_int _ _ | exact one_slice _ _ _ | exact one_ptr _ | exact one_bool _ | exact one_string _) only [RXA, RXB, Nat.reduceAdd, Nat.reduceLT, wrap_id, wrap_succ, wrap_pred, FX1]
      rw [w1]
      refine ih (i + 1) fu i h3 n3 (by omega) (by omega) (by omega) hil (fun j hj h1 h2 => ?_) (by omega) hO3
      by_cases e : j = i
      · exact .inl e
      · right
        rcases hmin j (by omega) h1 ha with q | q
        · subst q; exact hlt
        · rw [ltT_iff] at hlt q ⊢; omega
    · rw [Bool.eq_false_iff.2 hlt]
      try simp (disch := first | omega | assumption | exact one_int _ _ | exact one_slice _ _ _ | exact one_ptr _ | exact one_bool _ | exact one_string _) only [RXA, RXB, Nat.reduceAdd, Nat.reduceLT, wrap_id, wrap_succ, wrap_pred, FX1]
      rw [w1]
      refine ih (i + 1) fu at_ h3 n3 (by omega) (by omega) (by omega) ha (fun j hj h1 h2 => ?_) (by omega) hO3
      by_cases e : j = i
      · subst e
        by_cases e2 : j = at_
        · exact .inl e2
        · right
          have := hd j at_ h1 h2 e2
          rw [ltT_iff] at hlt ⊢
          omega
      · exact hmin j (by omega) h1 h2
theorem s_leastR (lf d n lo : Nat) (h : H) (v : Value) (l : List RT) (hO : Own3 h lo n 75 v (l.map tv)) (h0 : 0 < l.length) (hl : l.length ≤ 1000000) (hd : ∀ i j (hi : i < l.length) (hj : j < l.length), i ≠ j → l[i].2.1 ≠ l[j].2.1) (hs : ∀ t ∈ l, IsSl t.2.2) (hlf : 3000000 ≤ lf) :
    Run (fun _ => False) n (evCall2 Tryd.prog gt lf (d + 2) 66 #[v]) h n fun v' _ _ => ∃ a : Nat, v' = .int .i64 (a : Nat) ∧ a < l.length ∧ IsMin l l.length a := by
  rw [sh_balerref09_least]
  refine Run.inside_ ?_
  unfold b_balerref09_least
  have hO0 := hO
  obtain ⟨a, c, rfl⟩ := hO.len
  rw [List.length_map] at hO0 ⊢
  try simp (disch := first | omega | assumption | exact one_int _ _ | exact one_slice _ _ _ | exact one_ptr _ | exact one_bool _ | exact one_string _) only [RXA, RXB, Nat.reduceAdd, Nat.reduceLT, wrap_id, wrap_succ, wrap_pred, FX1]
  have e0 : (.int .i64 0 : Value) = .int .i64 ((0 : Nat) : Int) := rfl
  rw [e0]
  exact lsA lf d n lo l hl hd hs _ _ l.length 0 lf 0 h n (by omega) (by omega) (by omega) h0 (fun j hj => by omega) (Nat.le_refl _) hO0

theorem wiA (lf d lo : Nat) (l : List RT) (at_ : Nat) (hl : l.length ≤ 1000000) (hs : ∀ t ∈ l, IsSl t.2.2) (v x4 : Value) {W : Nat → Prop} {n0 nb : Nat} (hn0 : n0 ≤ nb) :
    ∀ (m i fu : Nat) (h : H) (n : Nat) (v5 : Value), l.length - i = m → m < fu → i ≤ l.length → nb ≤ n → (∀ b, InBlk v b → b < nb) → Own3 h lo nb 75 v (l.map tv) → Own3 h nb n 75 v5 (((l.take i).eraseIdx at_).map tv) →
      Run W n0 (lpA_balerref09_without lf (d + 1) fu (kcA_balerref09_without lf (d + 1)) v (.int .i64 (at_ : Nat)) x4 v5 v (.int .i64 (l.length : Nat)) (.int .i64 (i : Nat))) h n fun v' h' n' => Own3 h' nb n' 75 v' ((l.eraseIdx at_).map tv) := by
  intro m
  induction m with
  | zero =>
    intro i fu h n v5 hm hfu hi hnb hvb hO hA
    obtain ⟨fu, rfl⟩ : ∃ f, fu = f + 1 := ⟨fu - 1, by omega⟩
    obtain rfl : i = l.length := by omega
    rw [succA_balerref09_without]
    try simp (disch := first | omega | assumption | exact one_int _ _ | exact one_slice _ _ _ | exact one_ptr _ | exact one_bool _ | exact one_string _) only [RXA, RXB, Nat.reduceAdd, Nat.reduceLT, wrap_id, wrap_succ, wrap_pred, FX1, Int.lt_irrefl]
    rw [kcAa_balerref09_without]
    try simp (disch := first | omega | assumption | exact one_int _ _ | exact one_slice _ _ _ | exact one_ptr _ | exact one_bool _ | exact one_string _) only [RXA, RXB, Nat.reduceAdd, Nat.reduceLT, wrap_id, wrap_succ, wrap_pred, FX1]
    rw [List.take_length] at hA
    exact hA
  | succ m ih =>
    intro i fu h n v5 hm hfu hi hnb hvb hO hA
    obtain ⟨fu, rfl⟩ : ∃ f, fu = f + 1 := ⟨fu - 1, by omega⟩
    have hO0 := hO
    rcases hO with ⟨rfl, hnil⟩ | ⟨b, rfl, hg, hb1, hb2⟩
    · have := congrArg List.length hnil
      simp at this
      subst this
      simp at hm
    rw [List.length_map] at hO0 hvb ⊢
    simp only [List.length_map] at ih
    have hil : i < l.length := by omega
    have e1 : ((i : Nat) : Int) < ((l.length : Nat) : Int) := by omega
    have w1 : ((i : Nat) : Int) + 1 = ((i + 1 : Nat) : Int) := by omega
    have r1 : ((flat3 (l.map tv)).drop (i * 3)).take 3 = [(tv l[i]).1, (tv l[i]).2.1, (tv l[i]).2.2] := by
      have := flat3_at (l.map tv) i (by simpa using hil)
      simpa using this
    have o1 := tv_one (hs _ (List.getElem_mem hil))
    rw [succA_balerref09_without]
    try simp (disch := first | omega | assumption | exact one_int _ _ | exact one_slice _ _ _ | exact one_ptr _ | exact one_bool _ | exact one_string _) only [RXA, RXB, Nat.reduceAdd, Nat.reduceLT, wrap_id, wrap_succ, wrap_pred, FX1, e1]
    refine run_ld3 c3t hg (by omega) r1 _ ?_
    refine run_var3 c3t (tv l[i]) o1 _ (fun h2 g2 k2 => ?_) (by omega)
    have hA2 : Own3 h2 nb (n + 1) 75 v5 (((l.take i).eraseIdx at_).map tv) := hA.keep (by omega) fun c hc => k2 c (hA.lt hc).2
    have hO2 : Own3 h2 lo nb 75 (.slice (some ⟨b, 0, none⟩) l.length (CAP + l.length)) (l.map tv) := hO0.keep (Nat.le_refl _) fun c hc => k2 c (by have := hvb c hc; omega)
    have tk : l.take (i + 1) = l.take i ++ [l[i]] := List.take_succ_eq_append_getElem hil
    by_cases he : i = at_
    · have n1 : (((i : Nat) : Int) != ((at_ : Nat) : Int)) = false := by rw [he]; simp
      try simp (disch := first | omega | assumption | exact one_int _ _ | exact one_slice _ _ _ | exact one_ptr _ | exact one_bool _ | exact one_string _) only [RXA, RXB, Nat.reduceAdd, Nat.reduceLT, wrap_id, wrap_succ, wrap_pred, FX1, n1]
      rw [w1]
      refine ih (i + 1) fu h2 (n + 1) v5 (by omega) (by omega) (by omega) (by omega) hvb hO2 ?_
      rw [tk, List.eraseIdx_append_of_length_le (by rw [List.length_take]; omega)]
      rw [List.eraseIdx_of_length_le (by rw [List.length_take]; omega)] at hA2
      rw [show at_ - (l.take i).length = 0 by rw [List.length_take]; omega]
      simpa using hA2
    · have n1 : (((i : Nat) : Int) != ((at_ : Nat) : Int)) = true := bne_iff_ne.2 (by omega)
      try simp (disch := first | omega | assumption | exact one_int _ _ | exact one_slice _ _ _ | exact one_ptr _ | exact one_bool _ | exact one_string _) only [RXA, RXB, Nat.reduceAdd, Nat.reduceLT, wrap_id, wrap_succ, wrap_pred, FX1, n1]
      refine run_ld3 c3t g2 (Nat.lt_succ_self n) (x := tv l[i]) rfl _ ?_
      refine run_push3 c3t o1 hA2 (by rw [List.length_map]; have : ((l.take i).eraseIdx at_).length ≤ (l.take i).length := by rw [List.length_eraseIdx]; split <;> omega
                                      rw [List.length_take] at this; omega) (by omega) (by omega) _ (fun v6 h6 o6 b6 k6 => ?_)
      try simp (disch := first | omega | assumption | exact one_int _ _ | exact one_slice _ _ _ | exact one_ptr _ | exact one_bool _ | exact one_string _) only [RXA, RXB, Nat.reduceAdd, Nat.reduceLT, wrap_id, wrap_succ, wrap_pred, FX1]
      rw [w1]
      refine ih (i + 1) fu h6 (n + 1 + 2) v6 (by omega) (by omega) (by omega) (by omega) hvb (hO2.keep (Nat.le_refl _) fun c hc => k6 c (by have := hvb c hc; omega) (fun q => by have := (hA2.lt q).1; have := hvb c hc; omega)) ?_
      have : (l.take (i + 1)).eraseIdx at_ = (l.take i).eraseIdx at_ ++ [l[i]] := by
        rw [tk]
        by_cases hlt : at_ < i
        · rw [List.eraseIdx_append_of_lt_length (by rw [List.length_take]; omega)]
        · rw [List.eraseIdx_append_of_length_le (by rw [List.length_take]; omega), List.eraseIdx_of_length_le (l := l.take i) (by rw [List.length_take]; omega)]
          congr 1
          rw [List.eraseIdx_of_length_le (by rw [List.length_take]; simp; omega)]
      rw [this, List.map_append]
      exact o6
theorem s_without (lf d n lo : Nat) (h : H) (v : Value) (l : List RT) (at_ : Nat) (hO : Own3 h lo n 75 v (l.map tv)) (hl : l.length ≤ 1000000) (hs : ∀ t ∈ l, IsSl t.2.2) (hlf : 3000000 ≤ lf) :
    Run (fun _ => False) n (evCall2 Tryd.prog gt lf (d + 2) 67 #[v, .int .i64 (at_ : Nat)]) h n fun v' h' n' => Own3 h' n n' 75 v' ((l.eraseIdx at_).map tv) := by
  rw [sh_balerref09_without]
  refine Run.inside_ ?_
  unfold b_balerref09_without
  have hO0 := hO
  have hvb := fun b hb => (hO.lt (b := b) hb).2
  obtain ⟨a, c, rfl⟩ := hO.len
  rw [List.length_map] at hO0 hvb ⊢
  try simp (disch := first | omega | assumption | exact one_int _ _ | exact one_slice _ _ _ | exact one_ptr _ | exact one_bool _ | exact one_string _) only [RXA, RXB, Nat.reduceAdd, Nat.reduceLT, wrap_id, wrap_succ, wrap_pred, FX1]
  exact wiA lf d lo l at_ hl hs _ _ (Nat.le_refl n) l.length 0 lf h n _ (by omega) (by omega) (by omega) (Nat.le_refl _) hvb hO0 (by simpa using Own3.nil h n n _)

end Go.Proofs.YtdagfcflbphoiaaDoor
/- The reference's merging, as plain lists: it takes what the program takes. No program in sight. -/
namespace Go.Proofs.YtdagfcflbphoiaaDoor
set_option linter.unusedVariables false
set_option linter.unusedSimpArgs false
open Ev Hu

def incAll (out : List Int) : List Nat → List Int
  | [] => out
  | i :: ls => incAll (out.set i (out.getD i 0 + 1)) ls
theorem inc_len : ∀ (ls : List Nat) (out : List Int), (incAll out ls).length = out.length
  | [], _ => rfl
  | i :: ls, out => by unfold incAll; rw [inc_len ls]; simp
theorem inc_at : ∀ (ls : List Nat) (out : List Int), ls.Nodup → (∀ i ∈ ls, i < out.length) → ∀ j, (incAll out ls).getD j 0 = out.getD j 0 + if j ∈ ls then 1 else 0
  | [], out, _, _, j => by simp [incAll]
  | i :: ls, out, hn, hl, j => by
    rw [List.nodup_cons] at hn
    have hi := hl i (by simp)
    unfold incAll
    rw [inc_at ls _ hn.2 (fun k hk => by rw [List.length_set]; exact hl k (by simp [hk])), getD_setI]
    by_cases e : i = j
    · subst e
      rw [if_pos ⟨rfl, hi⟩, if_neg hn.1, if_pos (by simp)]
      omega
    · rw [if_neg (fun q => e q.1)]
      have : (j ∈ i :: ls) ↔ j ∈ ls := by simp [Ne.symm e]
      simp only [this]
theorem inc_app : ∀ (a b : List Nat) (out : List Int), incAll out (a ++ b) = incAll (incAll out a) b
  | [], b, out => rfl
  | i :: a, b, out => by simp only [List.cons_append, incAll]; exact inc_app a b _

theorem erase_perm {α : Type} : ∀ {l : List α} {i : Nat} (h : i < l.length), l.Perm (l[i] :: l.eraseIdx i)
  | x :: l, 0, _ => List.Perm.refl _
  | x :: l, i + 1, h => by
    have h' : i < l.length := by simpa using h
    have := erase_perm h'
    simp only [List.getElem_cons_succ, List.eraseIdx_cons_succ]
    exact (this.cons x).trans (List.Perm.swap _ _ _)
theorem erase_map {α β : Type} (f : α → β) : ∀ (l : List α) (i : Nat), (l.eraseIdx i).map f = (l.map f).eraseIdx i
  | [], i => by simp
  | x :: l, 0 => rfl
  | x :: l, i + 1 => by simp [erase_map f l i]

/-- the numbers of the trees that wait, in order; their leaves; the depths so far -/
structure PInv (N : Nat) (dep : Nat → Nat) (X : Nat → List Nat) (k : Nat) (nums : List Nat) (lf : Nat → List Nat) (out : List Int) : Prop where
  srt : nums.Pairwise (· < ·)
  prm : nums.Perm (X k)
  len : out.length = N
  lv : ∀ t ∈ nums, ∀ i ∈ lf t, i < N ∧ out.getD i 0 + dep t = dep i
  cov : (nums.flatMap lf).Perm (List.range N)
  pos : ∀ i, 0 ≤ out.getD i 0
theorem flat_single : ∀ l : List Nat, l.flatMap (fun i => [i]) = l
  | [] => rfl
  | x :: l => by simp
section
variable {N : Nat} {w : Nat → Int} {I A B : Nat → Nat} {X R : Nat → List Nat} {dep : Nat → Nat}
theorem PInv.init (m : Merge N w I A B X R) : PInv N dep X 0 (List.range N) (fun i => [i]) (List.replicate N 0) := by
  have z : ∀ i, (List.replicate N (0 : Int)).getD i 0 = 0 := fun i => by
    rw [List.getD_eq_getElem?_getD, List.getElem?_replicate]
    split <;> rfl
  refine ⟨List.pairwise_lt_range, m.x0.symm, by simp, fun t ht i hi => ?_, by rw [flat_single], fun i => by rw [z]; omega⟩
  obtain rfl : i = t := by simpa using hi
  rw [z]
  exact ⟨List.mem_range.1 ht, by omega⟩
theorem PInv.next (m : Merge N w I A B X R) (d1 : ∀ i, i < 2 * N - 2 → dep i = dep (I i) + 1) {k : Nat} (hk : k + 2 ≤ N) {nums : List Nat} {lf : Nat → List Nat} {out : List Int} (p : PInv N dep X k nums lf out) {a b : Nat} (ha : a < nums.length) (hb : b < (nums.eraseIdx a).length) (ea : nums[a] = A k) (eb : (nums.eraseIdx a)[b] = B k) :
    PInv N dep X (k + 1) ((nums.eraseIdx a).eraseIdx b ++ [N + k]) (fun t => if t = N + k then lf (A k) ++ lf (B k) else lf t) (incAll out (lf (A k) ++ lf (B k))) ∧ (lf (A k) ++ lf (B k)).Nodup ∧ (∀ i ∈ lf (A k) ++ lf (B k), i < N) := by
  have q1 := erase_perm ha
  have q2 := erase_perm hb
  rw [ea] at q1
  rw [eb] at q2
  have q3 : nums.Perm (A k :: B k :: (nums.eraseIdx a).eraseIdx b) := q1.trans (q2.cons _)
  have hR : ((nums.eraseIdx a).eraseIdx b).Perm (R k) := ((q3.symm.trans p.prm).trans (m.st k hk)).cons_inv.cons_inv
  have hlt : ∀ t ∈ nums, t < N + k := fun t ht => m.lt (by omega) (p.prm.mem_iff.1 ht)
  obtain ⟨S, hS⟩ : ∃ S, (nums.eraseIdx a).eraseIdx b = S := ⟨_, rfl⟩
  rw [hS] at q3 hR ⊢
  have sub : ∀ t ∈ S, t ∈ nums := fun t ht => q3.mem_iff.2 (by simp [ht])
  have mA : A k ∈ nums := q3.mem_iff.2 (by simp)
  have mB : B k ∈ nums := q3.mem_iff.2 (by simp)
  have cv := (q3.flatMap_right lf).symm.trans p.cov
  simp only [List.flatMap_cons] at cv
  have nd : ((lf (A k) ++ lf (B k)) ++ S.flatMap lf).Nodup := by
    rw [List.append_assoc]
    exact cv.nodup_iff.2 List.nodup_range
  have nd1 := (List.nodup_append.1 nd).1
  have dis : ∀ t ∈ S, ∀ i ∈ lf t, i ∉ lf (A k) ++ lf (B k) := fun t ht i hi hc => (List.nodup_append.1 nd).2.2 i hc i (List.mem_flatMap.2 ⟨t, ht, hi⟩) rfl
  have il : ∀ i ∈ lf (A k) ++ lf (B k), i < N := fun i hi => by
    rcases List.mem_append.1 hi with q | q
    · exact (p.lv _ mA i q).1
    · exact (p.lv _ mB i q).1
  have ia := inc_at (lf (A k) ++ lf (B k)) out nd1 (fun i hi => by rw [p.len]; exact il i hi)
  obtain ⟨dA, dB⟩ := m.dep_ab d1 hk
  refine ⟨⟨?_, ?_, by rw [inc_len, p.len], fun t ht i hi => ?_, ?_, fun i => ?_⟩, nd1, il⟩
  · rw [List.pairwise_append]
    refine ⟨?_, by simp, fun x hx y hy => by rw [List.mem_singleton.1 hy]; exact hlt x (sub x hx)⟩
    rw [← hS]
    exact (p.srt.sublist (List.eraseIdx_sublist _ _)).sublist (List.eraseIdx_sublist _ _)
  · exact ((List.perm_append_singleton _ _).trans (hR.cons _)).trans (m.nx k hk).symm
  · rcases List.mem_append.1 ht with q | q
    · have hne : t ≠ N + k := fun e => by have := hlt t (sub t q); omega
      simp only [if_neg hne] at hi
      have := p.lv t (sub t q) i hi
      rw [ia, if_neg (dis t q i hi)]
      omega
    · obtain rfl := List.mem_singleton.1 q
      simp only [if_true] at hi
      refine ⟨il i hi, ?_⟩
      rw [ia, if_pos hi]
      rcases List.mem_append.1 hi with q | q
      · have := (p.lv _ mA i q).2; omega
      · have := (p.lv _ mB i q).2; omega
  · rw [List.flatMap_append]
    have e1 : S.flatMap (fun t => if t = N + k then lf (A k) ++ lf (B k) else lf t) = S.flatMap lf := by
      have : ∀ L : List Nat, (∀ t ∈ L, t < N + k) → L.flatMap (fun t => if t = N + k then lf (A k) ++ lf (B k) else lf t) = L.flatMap lf := by
        intro L
        induction L with
        | nil => intro _; rfl
        | cons t L ih =>
          intro h
          have := h t (by simp)
          rw [List.flatMap_cons, List.flatMap_cons, ih (fun s hs => h s (by simp [hs])), if_neg (by omega)]
      exact this S fun t ht => hlt t (sub t ht)
    rw [e1]
    simp only [List.flatMap_cons, List.flatMap_nil, if_true, List.append_nil]
    refine List.perm_append_comm.trans ?_
    rw [List.append_assoc]
    exact cv
  · rw [ia]
    have := p.pos i
    split <;> omega
theorem PInv.last (m : Merge N w I A B X R) (d0 : dep (2 * N - 2) = 0) {nums : List Nat} {lf : Nat → List Nat} {out : List Int} (p : PInv N dep X (N - 1) nums lf out) : out = (List.range N).map fun i => (dep i : Int) := by
  have hx := p.prm
  rw [m.last] at hx
  have hn := List.perm_singleton.1 hx
  subst hn
  have hc := p.cov
  simp only [List.flatMap_cons, List.flatMap_nil, List.append_nil] at hc
  apply List.ext_getElem
  · rw [p.len]; simp
  · intro i h1 h2
    have hi : i < N := by rw [p.len] at h1; exact h1
    have := (p.lv (2 * N - 2) (by simp) i (hc.mem_iff.2 (List.mem_range.2 hi))).2
    rw [d0, List.getD_eq_getElem?_getD, List.getElem?_eq_getElem h1] at this
    simp only [Option.getD_some] at this
    simp only [List.getElem_map, List.getElem_range]
    omega
end
/-- the least tree of a list is the one that the merging takes -/
theorem min_num {l : List RT} {w : Nat → Int} (hw : ∀ t ∈ l, t.1 = w t.2.1) {a : Nat} (ha : a < l.length) (hm : IsMin l l.length a) {c : Nat} (hc : c ∈ l.map (·.2.1)) (hx : ∀ x ∈ l.map (·.2.1), x ≠ c → RI w c x) : l[a].2.1 = c := by
  apply Decidable.byContradiction
  intro hne
  obtain ⟨t, ht, rfl⟩ := List.mem_map.1 hc
  obtain ⟨j, hj, rfl⟩ := List.mem_iff_getElem.1 ht
  have h1 := hx l[a].2.1 (List.mem_map.2 ⟨_, List.getElem_mem ha, rfl⟩) hne
  rcases hm j hj hj ha with e | e
  · subst e; exact hne rfl
  · rw [ltT_iff, hw _ (List.getElem_mem ha), hw _ (List.getElem_mem hj)] at e
    unfold RI at h1
    omega

end Go.Proofs.YtdagfcflbphoiaaDoor
/- The reference's depths, by the second form: they are the program's. -/
namespace Go.Proofs.YtdagfcflbphoiaaDoor
set_option linter.unusedVariables false
set_option linter.unusedSimpArgs false
open Go.RowKit Ev Hu

def natsI (ls : List Nat) : List Int := ls.map fun (i : Nat) => (i : Int)
theorem natsI_len (ls : List Nat) : (natsI ls).length = ls.length := by unfold natsI; simp
theorem natsI_at {ls : List Nat} {i : Nat} (h : i < ls.length) : (natsI ls).getD i 0 = (ls.getD i 0 : Nat) := by
  unfold natsI
  rw [List.getD_eq_getElem?_getD, List.getElem?_map, List.getElem?_eq_getElem h, List.getD_eq_getElem?_getD, List.getElem?_eq_getElem h]
  rfl
/-- how the reference's trees lie in memory -/
structure RM (h : H) (lo n : Nat) (v : Value) (l : List RT) (lv : Nat → List Nat) : Prop where
  own : Own3 h lo n 75 v (l.map tv)
  row : ∀ t ∈ l, Row h n 3 .i64 t.2.2 (natsI (lv t.2.1)) ∧ IsSl t.2.2
  sep : ∀ t ∈ l, ∀ b, InBlk t.2.2 b → ¬ InBlk v b

theorem rdA (lf d nb : Nat) (h0 : H) (v : Value) (ws : List Int) (hR : Row h0 nb 3 .i64 v ws) (hl : ws.length ≤ 1000000) (x2 x3 : Value) {W : Nat → Prop} {n0 : Nat} (hn0 : n0 ≤ nb) {Q : Value → H → Nat → Prop} (k : Ex → Fr → M Value)
    (hK : ∀ h n v4 y21 l, nb ≤ n → RM h nb n v4 l (fun i => [i]) → l.map (·.2.1) = List.range ws.length → (∀ t ∈ l, t.1 = ws.getD t.2.1 0) → Run W n0 (k (Ex.exit 0) [(0, v), (2, x2), (3, x3), (4, v4), (18, v), (19, .int .i64 (ws.length : Nat)), (20, .int .i64 (ws.length : Nat)), (21, y21)]) h n Q) :
    ∀ (m i fu : Nat) (h : H) (n : Nat) (v4 : Value) (l : List RT), ws.length - i = m → m < fu → i ≤ ws.length → nb ≤ n → (∀ b, b < nb → h.get b = h0.get b) → RM h nb n v4 l (fun i => [i]) → l.map (·.2.1) = List.range i → (∀ t ∈ l, t.1 = ws.getD t.2.1 0) →
      Run W n0 (lpA_balerref09_Depths lf d fu k v x2 x3 v4 v (.int .i64 (ws.length : Nat)) (.int .i64 (i : Nat))) h n Q := by
  intro m
  induction m with
  | zero =>
    intro i fu h n v4 l hm hfu hi hn hk hM hnum hw
    obtain ⟨fu, rfl⟩ : ∃ f, fu = f + 1 := ⟨fu - 1, by omega⟩
    obtain rfl : i = ws.length := by omega
    rw [succA_balerref09_Depths]
    try simp (disch := first | omega | assumption | exact one_int _ _ | exact one_slice _ _ _ | exact one_ptr _ | exact one_bool _ | exact one_string _) only [RXA, RXB, Nat.reduceAdd, Nat.reduceLT, wrap_id, wrap_succ, wrap_pred, FX1, Int.lt_irrefl]
    exact hK h n v4 _ l hn hM hnum hw
  | succ m ih =>
    intro i fu h n v4 l hm hfu hi hn hk hM hnum hw
    obtain ⟨fu, rfl⟩ : ∃ f, fu = f + 1 := ⟨fu - 1, by omega⟩
    have hR1 : Row h n 3 .i64 v ws := hR.keep hn hk
    obtain ⟨b, off, cap, o, cs, rfl, hg, hb, _, _, _, hat⟩ := hR1.some (by omega)
    have e1 : ((i : Nat) : Int) < ((ws.length : Nat) : Int) := by omega
    have c1 := hat i (by omega)
    have w1 : ((i : Nat) : Int) + 1 = ((i + 1 : Nat) : Int) := by omega
    have hll : l.length = i := by have := congrArg List.length hnum; simpa using this
    rw [succA_balerref09_Depths]
    try simp (disch := first | omega | assumption | exact one_int _ _ | exact one_slice _ _ _ | exact one_ptr _ | exact one_bool _ | exact one_string _) only [RXA, RXB, Nat.reduceAdd, Nat.reduceLT, wrap_id, wrap_succ, wrap_pred, FX1, e1, hg, c1]
    refine run_lit1 c1x22 (one_int _ _) _ ?_
    try simp (disch := first | omega | assumption | exact one_int _ _ | exact one_slice _ _ _ | exact one_ptr _ | exact one_bool _ | exact one_string _) only [RXA, RXB, Nat.reduceAdd, Nat.reduceLT, wrap_id, wrap_succ, wrap_pred, FX1]
    obtain ⟨h1, hh1⟩ : ∃ h1, h.set n (some ⟨3, true, [.int .i64 (i : Nat)]⟩) = h1 := ⟨_, rfl⟩
    have g1 : h1.get n = some ⟨3, true, [.int .i64 (i : Nat)]⟩ := by rw [← hh1, get_eq]
    have k1 : ∀ c, c < n → h1.get c = h.get c := fun c hc => by rw [← hh1, get_ne _ _ (by omega)]
    rw [hh1]
    have t1 : RT := (ws.getD i 0, i, .slice (some ⟨n, 0, none⟩) 1 1)
    have own1 : Own3 h1 nb (n + 1) 75 v4 (l.map tv) := hM.own.keep (by omega) fun c hc => k1 c (hM.own.lt hc).2
    refine run_push3 c3t (x := tv (ws.getD i 0, i, .slice (some ⟨n, 0, none⟩) 1 1)) ⟨rfl, rfl, rfl⟩ own1 (by rw [List.length_map]; omega) hn0 (by omega) _ (fun v5 h5 o5 b5 k5 => ?_)
    try simp (disch := first | omega | assumption | exact one_int _ _ | exact one_slice _ _ _ | exact one_ptr _ | exact one_bool _ | exact one_string _) only [RXA, RXB, Nat.reduceAdd, Nat.reduceLT, wrap_id, wrap_succ, wrap_pred, FX1]
    rw [w1]
    refine ih (i + 1) fu h5 (n + 1 + 2) v5 (l ++ [(ws.getD i 0, i, .slice (some ⟨n, 0, none⟩) 1 1)]) (by omega) (by omega) (by omega) (by omega) (fun c hc => ?_) ⟨?_, fun t ht => ?_, fun t ht c hc q => ?_⟩ ?_ (fun t ht => ?_)
    · rw [k5 c (by omega) (fun q => by have := (own1.lt q).1; omega), k1 c (by omega)]
      exact hk c hc
    · rw [List.map_append]
      exact o5
    · rcases List.mem_append.1 ht with q | q
      · obtain ⟨r, s⟩ := hM.row t q
        refine ⟨r.keep' (by omega) fun c hc => ?_, s⟩
        have := r.lt hc
        rw [k5 c (by omega) (hM.sep t q c hc), k1 c this]
      · obtain rfl := List.mem_singleton.1 q
        refine ⟨.inr ⟨n, 0, 1, true, [.int .i64 (i : Nat)], rfl, ?_, by omega, by simp [natsI], rfl, by simp [natsI]⟩, ⟨_, _, _, rfl⟩⟩
        rw [k5 n (by omega) (fun q => by have := own1.lt q; have := hM.own.lt (b := n) q; omega)]
        exact g1
    · have hc2 := b5 c q
      rcases List.mem_append.1 ht with r | r
      · have := (hM.row t r).1.lt hc
        omega
      · obtain rfl := List.mem_singleton.1 r
        have := hc.inj
        omega
    · rw [List.map_append, hnum, List.range_succ]
      rfl
    · rcases List.mem_append.1 ht with q | q
      · exact hw t q
      · obtain rfl := List.mem_singleton.1 q
        rfl

theorem rdC (lf d n : Nat) (h0 : H) (v : Value) (ls : List Nat) (hR : Row h0 n 3 .i64 v (natsI ls)) (hll : ls.length ≤ 1000000) (bo N c : Nat) (out : List Int) (hbo : bo < n) (hsep : ∀ b, InBlk v b → b ≠ bo) (ho : out.length = N) (hnd : ls.Nodup) (hil : ∀ i ∈ ls, i < N) (hpos : ∀ i, 0 ≤ out.getD i 0 ∧ out.getD i 0 ≤ 1000000) (x0 x2 x3 x4 x8 x9 x10 x11 x12 x13 x18 x19 x20 x21 x39 : Value) {W : Nat → Prop} {n0 : Nat} (hn0 : n0 ≤ bo) {Q : Value → H → Nat → Prop} (k : Ex → Fr → M Value)
    (hK : ∀ h y69, h.get bo = some ⟨3, true, ints (incAll out ls)⟩ → (∀ b, b ≠ bo → h.get b = h0.get b) → Run W n0 (k (Ex.exit 4) [(0, x0), (2, x2), (3, x3), (4, x4), (7, .slice (some ⟨bo, 0, none⟩) N c), (8, x8), (9, x9), (10, x10), (11, x11), (12, x12), (13, x13), (18, x18), (19, x19), (20, x20), (21, x21), (39, x39), (66, v), (67, .int .i64 (ls.length : Nat)), (68, .int .i64 (ls.length : Nat)), (69, y69)]) h n Q) :
    ∀ (m i fu : Nat) (h : H), ls.length - i = m → m < fu → i ≤ ls.length → h.get bo = some ⟨3, true, ints (incAll out (ls.take i))⟩ → (∀ b, b ≠ bo → h.get b = h0.get b) →
      Run W n0 (lpC_balerref09_Depths lf d fu k x0 x2 x3 x4 (.slice (some ⟨bo, 0, none⟩) N c) x8 x9 x10 x11 x12 x13 x18 x19 x20 x21 x39 v (.int .i64 (ls.length : Nat)) (.int .i64 (i : Nat))) h n Q := by
  intro m
  induction m with
  | zero =>
    intro i fu h hm hfu hi hg1 hk
    obtain ⟨fu, rfl⟩ : ∃ f, fu = f + 1 := ⟨fu - 1, by omega⟩
    obtain rfl : i = ls.length := by omega
    rw [succC_balerref09_Depths]
    try simp (disch := first | omega | assumption | exact one_int _ _ | exact one_slice _ _ _ | exact one_ptr _ | exact one_bool _ | exact one_string _) only [RXA, RXB, Nat.reduceAdd, Nat.reduceLT, wrap_id, wrap_succ, wrap_pred, FX1, Int.lt_irrefl]
    rw [List.take_length] at hg1
    exact hK h _ hg1 hk
  | succ m ih =>
    intro i fu h hm hfu hi hg1 hk
    obtain ⟨fu, rfl⟩ : ∃ f, fu = f + 1 := ⟨fu - 1, by omega⟩
    have hR1 : Row h n 3 .i64 v (natsI ls) := hR.keep' (Nat.le_refl _) fun b hb => hk b (hsep b hb)
    have hil2 : i < ls.length := by omega
    obtain ⟨b, off, cap, o, cs, rfl, hg, hb, _, _, _, hat⟩ := hR1.some (by rw [natsI_len]; omega)
    rw [natsI_len] at hat ⊢
    simp only [natsI_len] at ih
    have hbb : b ≠ bo := hsep b ⟨_, _, _, rfl⟩
    have e1 : ((i : Nat) : Int) < ((ls.length : Nat) : Int) := by omega
    have c1 := hat i hil2
    rw [natsI_at hil2] at c1
    obtain ⟨j, hj⟩ : ∃ j, ls.getD i 0 = j := ⟨_, rfl⟩
    have hj2 : ls[i] = j := by rw [← hj, List.getD_eq_getElem?_getD, List.getElem?_eq_getElem hil2]; rfl
    have hjm : j ∈ ls := by rw [← hj2]; exact List.getElem_mem _
    have hjN := hil j hjm
    rw [hj] at c1
    have w1 : ((i : Nat) : Int) + 1 = ((i + 1 : Nat) : Int) := by omega
    have e2 : ((j : Nat) : Int) < ((N : Nat) : Int) := by omega
    obtain ⟨o2, ho2⟩ : ∃ o2, incAll out (ls.take i) = o2 := ⟨_, rfl⟩
    have lo2 : o2.length = N := by rw [← ho2, inc_len, ho]
    have hv2 : 0 ≤ o2.getD j 0 ∧ o2.getD j 0 ≤ 1000001 := by
      have := inc_at (ls.take i) out (hnd.sublist (List.take_sublist _ _)) (fun x hx => by rw [ho]; exact hil x (List.mem_of_mem_take hx)) j
      rw [ho2] at this
      have := hpos j
      split at * <;> omega
    rw [ho2] at hg1
    have g2 : (ints o2)[j]? = some (.int .i64 (o2.getD j 0)) := ints_at (by omega)
    have hstep : o2.set j (o2.getD j 0 + 1) = incAll out (ls.take (i + 1)) := by
      rw [List.take_succ_eq_append_getElem hil2, inc_app, ho2, hj2]
      rfl
    have w2 : IntKind.i64.wrap (o2.getD j 0 + 1) = o2.getD j 0 + 1 := wrap_id (by omega) (by omega)
    rw [succC_balerref09_Depths]
    try simp (disch := first | omega | assumption | exact one_int _ _ | exact one_slice _ _ _ | exact one_ptr _ | exact one_bool _ | exact one_string _) only [RXA, RXB, Nat.reduceAdd, Nat.reduceLT, wrap_id, wrap_succ, wrap_pred, FX1, e1, e2, hg, hg1, c1, g2, w2, ints_set, ints_len, lo2]
    refine ⟨by omega, .inl hn0, ?_⟩
    rw [w1]
    refine ih (i + 1) fu _ (by omega) (by omega) (by omega) ?_ (fun c hc => by rw [get_ne _ _ hc]; exact hk c hc)
    rw [get_eq, hstep]

end Go.Proofs.YtdagfcflbphoiaaDoor
/- One round of the reference's depths, in two parts: a tree is taken; two are joined. -/
namespace Go.Proofs.YtdagfcflbphoiaaDoor
set_option linter.unusedVariables false
set_option linter.unusedSimpArgs false
open Go.RowKit Ev Hu

theorem inv_fld2 (a b c : Value) : [a, b, c][2]? = some c := rfl
theorem inv_fld0 (a b c : Value) : [a, b, c][0]? = some a := rfl
def Diff (l : List RT) : Prop := ∀ i j (hi : i < l.length) (hj : j < l.length), i ≠ j → l[i].2.1 ≠ l[j].2.1
theorem diff_of {l : List RT} (h : (l.map (·.2.1)).Pairwise (· < ·)) : Diff l := by
  intro i j hi hj hne e
  have h := List.pairwise_iff_getElem.1 h
  rcases Nat.lt_or_gt_of_ne hne with q | q
  · have := h i j (by simpa using hi) (by simpa using hj) q
    simp at this
    omega
  · have := h j i (by simpa using hj) (by simpa using hi) q
    simp at this
    omega
theorem take1 (lf d : Nat) (hlf : 3000000 ≤ lf) {W : Nat → Prop} {n0 : Nat} {Q : Value → H → Nat → Prop} (h : H) (n lo : Nat) (v4 : Value) (l : List RT) (hO : Own3 h lo n 75 v4 (l.map tv)) (h0 : 0 < l.length) (hl : l.length ≤ 1000000) (hd : Diff l) (hsl : ∀ t ∈ l, IsSl t.2.2) (hn0 : n0 ≤ n) (k : Value → Value → Value → M Value)
    (hK : ∀ (a : Nat) (h' : H) (n' n1 : Nat) (v48 : Value) (ha : a < l.length), IsMin l l.length a → n ≤ n1 → n1 < n' → h'.get n1 = some ⟨75, true, [.int .i64 l[a].1, .int .i64 (l[a].2.1 : Nat), l[a].2.2]⟩ → (∀ b, b < n → h'.get b = h.get b) → Own3 h' (n1 + 1) n' 75 v48 ((l.eraseIdx a).map tv) → Run W n0 (k (.int .i64 (a : Nat)) (.pointer (some ⟨n1, 0, none⟩)) v48) h' n' Q) :
    Run W n0 ((inside (evCall2 Tryd.prog gt lf (d + 2) 66 #[v4])).bind fun v41 => optK (evIndexAddr Tryd.prog 73 v4 v41) fun v44 => (inside (evLoad Tryd.prog 75 v44)).bind fun v45 => (inside (evAlloc Tryd.prog 75)).bind fun v10 => (inside (evStore Tryd.prog 75 v10 v45)).bind fun _ => (inside (evCall2 Tryd.prog gt lf (d + 2) 67 #[v4, v41])).bind fun v48 => k v41 v10 v48) h n Q := by
  have hOlt := fun b hb => hO.lt (b := b) hb
  refine run_call okd (s_leastR lf d n lo h v4 l hO h0 hl hd hsl hlf) hn0 (fun _ _ h => h.elim) fun v1 h1 n1 hn1 fr1 hq => ?_
  obtain ⟨a, rfl, ha, hmin⟩ := hq
  have k1 : ∀ b, b < n → h1.get b = h.get b := fun b hb => fr1 b hb id
  have hO1 : Own3 h1 lo n1 75 v4 (l.map tv) := hO.keep hn1 fun b hb => k1 b (hOlt b hb).2
  have r1 : ((flat3 (l.map tv)).drop (a * 3)).take 3 = [(tv l[a]).1, (tv l[a]).2.1, (tv l[a]).2.2] := by
    have := flat3_at (l.map tv) a (by simpa using ha)
    simpa using this
  have hO1c := hO1
  rcases hO1c with ⟨_, hnil⟩ | ⟨b4, rfl, g4, hb41, hb42⟩
  · have := congrArg List.length hnil
    simp at this
    subst this
    simp at h0
  have hml : (l.map tv).length = l.length := List.length_map ..
  rw [hml] at hO1 ⊢
  have e2 : ((a : Nat) : Int) < ((l.length : Nat) : Int) := by omega
  rw [show evIndexAddr Tryd.prog 73 (.slice (some ⟨b4, 0, none⟩) l.length (CAP + l.length)) (.int .i64 (a : Nat)) = some (.pointer (some ⟨b4, 0 + ((a : Nat) : Int).toNat * 3, none⟩)) from ix73 b4 0 l.length _ .i64 _ (by omega) e2, optK_some_eq, Nat.zero_add, Int.toNat_natCast]
  refine run_ld3 c3t g4 hb42 r1 _ ?_
  have oa := tv_one (hsl _ (List.getElem_mem ha))
  refine run_var3 c3t (tv l[a]) oa _ (fun h2 g2 k2 => ?_) (by omega)
  have hO2 : Own3 h2 lo (n1 + 1) 75 (.slice (some ⟨b4, 0, none⟩) l.length (CAP + l.length)) (l.map tv) := hO1.keep (by omega) fun b hb => k2 b (hO1.lt hb).2
  refine run_call okd (s_without lf d (n1 + 1) lo h2 _ l a hO2 hl hsl hlf) (by omega) (fun _ _ h => h.elim) fun v3 h3 n3 hn3 fr3 o3 => ?_
  have k3 : ∀ b, b < n1 + 1 → h3.get b = h2.get b := fun b hb => fr3 b hb id
  exact hK a h3 n3 n1 v3 ha hmin hn1 (by omega) (by rw [k3 n1 (by omega)]; exact g2) (fun b hb => by rw [k3 b (by omega), k2 b (by omega), k1 b hb]) o3

end Go.Proofs.YtdagfcflbphoiaaDoor

/- Layer 12 by the second form: how many tables, groups, picks. -/
import Derived.Test.YtdagfcflbphoiaaDoorMal
import Derived.Test.YtdagfcflbphoiaaDoorMae
namespace Go.Proofs.YtdagfcflbphoiaaDoor
set_option linter.unusedVariables false
set_option linter.unusedSimpArgs false
open Go.RowKit Ev Tb

section
variable (lf d n : Nat) (h : H) (hlf : 3000000 ≤ lf)
theorem r_Number (z : Int) : Run (fun _ => False) n (evCall2 Tryd.prog gt lf (d + 1) 16 #[.int .i64 z]) h n fun v' h' n' => v' = .int .i64 (numL z : Int) ∧ h' = h ∧ n' = n := by
  rw [sh_balerref12_Number]
  refine Run.inside_ ?_
  unfold b_balerref12_Number numL
  by_cases c1 : z < 200
  · try simp (disch := first | omega | assumption | exact one_int _ _ | exact one_slice _ _ _ | exact one_ptr _ | exact one_bool _ | exact one_string _) only [RXA, RXB, Nat.reduceAdd, Nat.reduceLT, wrap_id, wrap_succ, wrap_pred, FX1, c1]
    all_goals (first | rfl | exact ⟨rfl, rfl, rfl⟩ | exact ⟨rfl, rfl⟩)
  · by_cases c2 : z < 600
    · try simp (disch := first | omega | assumption | exact one_int _ _ | exact one_slice _ _ _ | exact one_ptr _ | exact one_bool _ | exact one_string _) only [RXA, RXB, Nat.reduceAdd, Nat.reduceLT, wrap_id, wrap_succ, wrap_pred, FX1, c1, c2]
      all_goals (first | rfl | exact ⟨rfl, rfl, rfl⟩ | exact ⟨rfl, rfl⟩)
    · by_cases c3 : z < 1200
      · try simp (disch := first | omega | assumption | exact one_int _ _ | exact one_slice _ _ _ | exact one_ptr _ | exact one_bool _ | exact one_string _) only [RXA, RXB, Nat.reduceAdd, Nat.reduceLT, wrap_id, wrap_succ, wrap_pred, FX1, c1, c2, c3]
        all_goals (first | rfl | exact ⟨rfl, rfl, rfl⟩ | exact ⟨rfl, rfl⟩)
      · by_cases c4 : z < 2400
        · try simp (disch := first | omega | assumption | exact one_int _ _ | exact one_slice _ _ _ | exact one_ptr _ | exact one_bool _ | exact one_string _) only [RXA, RXB, Nat.reduceAdd, Nat.reduceLT, wrap_id, wrap_succ, wrap_pred, FX1, c1, c2, c3, c4]
          all_goals (first | rfl | exact ⟨rfl, rfl, rfl⟩ | exact ⟨rfl, rfl⟩)
        · try simp (disch := first | omega | assumption | exact one_int _ _ | exact one_slice _ _ _ | exact one_ptr _ | exact one_bool _ | exact one_string _) only [RXA, RXB, Nat.reduceAdd, Nat.reduceLT, wrap_id, wrap_succ, wrap_pred, FX1, c1, c2, c3, c4]
          all_goals (first | rfl | exact ⟨rfl, rfl, rfl⟩ | exact ⟨rfl, rfl⟩)
theorem bix0 : index2 Tryd.prog 58 (.agg #[.int .i64 200, .int .i64 600, .int .i64 1200, .int .i64 2400]) (.int .i64 0) = some (.int .i64 200) := by kernel_rfl
theorem bix1 : index2 Tryd.prog 58 (.agg #[.int .i64 200, .int .i64 600, .int .i64 1200, .int .i64 2400]) (.int .i64 1) = some (.int .i64 600) := by kernel_rfl
theorem bix2 : index2 Tryd.prog 58 (.agg #[.int .i64 200, .int .i64 600, .int .i64 1200, .int .i64 2400]) (.int .i64 2) = some (.int .i64 1200) := by kernel_rfl
theorem bix3 : index2 Tryd.prog 58 (.agg #[.int .i64 200, .int .i64 600, .int .i64 1200, .int .i64 2400]) (.int .i64 3) = some (.int .i64 2400) := by kernel_rfl
theorem s_Number (z : Int) (g : Gd h n) (hf : 5 ≤ lf) : Run (fun _ => False) n (evCall2 Tryd.prog gt lf (d + 1) 19 #[.int .i64 z]) h n fun v' h' n' => v' = .int .i64 (numL z : Int) ∧ h' = h ∧ n' = n := by
  rw [sh_tables_Number]
  refine Run.inside_ ?_
  unfold b_tables_Number
  refine run_lda aga58 sz58 0 0 _ g.1 g.2 (by decide) ?_
  have go : ∀ F, 5 ≤ F → Run (fun _ => False) n (lpA_tables_Number lf d F (kcA_tables_Number lf d) (.int .i64 z) (.int .i64 0) (.int .i64 2) (.agg #[.int .i64 200, .int .i64 600, .int .i64 1200, .int .i64 2400]) (.int .i64 0)) h n fun v' h' n' => v' = .int .i64 (numL z : Int) ∧ h' = h ∧ n' = n := by
    intro F hF
    obtain ⟨F, rfl⟩ : ∃ f, F = f + 1 + 1 + 1 + 1 + 1 := ⟨F - 5, by omega⟩
    have w : ∀ x : Int, 0 ≤ x → x < 100 → IntKind.i64.wrap (x + 1) = x + 1 := fun x h0 h1 => wrap_id (by omega) (by omega)
    unfold numL
    by_cases c1 : z < 200
    · have d1 : ¬ (200 ≤ z) := by omega
      have d2 : ¬ (600 ≤ z) := by omega
      have d3 : ¬ (1200 ≤ z) := by omega
      have d4 : ¬ (2400 ≤ z) := by omega
      rw [succA_tables_Number]
      try simp (disch := first | omega | assumption | exact one_int _ _ | exact one_slice _ _ _ | exact one_ptr _ | exact one_bool _ | exact one_string _) only [RXA, RXB, Nat.reduceAdd, Nat.reduceLT, wrap_id, wrap_succ, wrap_pred, FX1, Int.reduceBEq, Int.reduceBNe, Int.reduceLT, Int.reduceLE, Int.reduceEq, Int.reduceNe, Int.reduceAdd, Int.reduceSub, Int.reduceMul, Int.reduceNeg, bix0, d1]
      rw [succA_tables_Number]
      try simp (disch := first | omega | assumption | exact one_int _ _ | exact one_slice _ _ _ | exact one_ptr _ | exact one_bool _ | exact one_string _) only [RXA, RXB, Nat.reduceAdd, Nat.reduceLT, wrap_id, wrap_succ, wrap_pred, FX1, Int.reduceBEq, Int.reduceBNe, Int.reduceLT, Int.reduceLE, Int.reduceEq, Int.reduceNe, Int.reduceAdd, Int.reduceSub, Int.reduceMul, Int.reduceNeg, bix1, d2]
      rw [succA_tables_Number]
      try simp (disch := first | omega | assumption | exact one_int _ _ | exact one_slice _ _ _ | exact one_ptr _ | exact one_bool _ | exact one_string _) only [RXA, RXB, Nat.reduceAdd, Nat.reduceLT, wrap_id, wrap_succ, wrap_pred, FX1, Int.reduceBEq, Int.reduceBNe, Int.reduceLT, Int.reduceLE, Int.reduceEq, Int.reduceNe, Int.reduceAdd, Int.reduceSub, Int.reduceMul, Int.reduceNeg, bix2, d3]
      rw [succA_tables_Number]
      try simp (disch := first | omega | assumption | exact one_int _ _ | exact one_slice _ _ _ | exact one_ptr _ | exact one_bool _ | exact one_string _) only [RXA, RXB, Nat.reduceAdd, Nat.reduceLT, wrap_id, wrap_succ, wrap_pred, FX1, Int.reduceBEq, Int.reduceBNe, Int.reduceLT, Int.reduceLE, Int.reduceEq, Int.reduceNe, Int.reduceAdd, Int.reduceSub, Int.reduceMul, Int.reduceNeg, bix3, d4]
      rw [succA_tables_Number]
      try simp (disch := first | omega | assumption | exact one_int _ _ | exact one_slice _ _ _ | exact one_ptr _ | exact one_bool _ | exact one_string _) only [RXA, RXB, Nat.reduceAdd, Nat.reduceLT, wrap_id, wrap_succ, wrap_pred, FX1, Int.reduceBEq, Int.reduceBNe, Int.reduceLT, Int.reduceLE, Int.reduceEq, Int.reduceNe, Int.reduceAdd, Int.reduceSub, Int.reduceMul, Int.reduceNeg]
      rw [kcAa_tables_Number]
      try simp (disch := first | omega | assumption | exact one_int _ _ | exact one_slice _ _ _ | exact one_ptr _ | exact one_bool _ | exact one_string _) only [RXA, RXB, Nat.reduceAdd, Nat.reduceLT, wrap_id, wrap_succ, wrap_pred, FX1, Int.reduceBEq, Int.reduceBNe, Int.reduceLT, Int.reduceLE, Int.reduceEq, Int.reduceNe, Int.reduceAdd, Int.reduceSub, Int.reduceMul, Int.reduceNeg, c1]
      all_goals (first | rfl | exact ⟨rfl, rfl, rfl⟩ | exact ⟨rfl, rfl⟩)
    · have d1 : 200 ≤ z := by omega
      by_cases c2 : z < 600
      · have d2 : ¬ (600 ≤ z) := by omega
        have d3 : ¬ (1200 ≤ z) := by omega
        have d4 : ¬ (2400 ≤ z) := by omega
        rw [succA_tables_Number]
        try simp (disch := first | omega | assumption | exact one_int _ _ | exact one_slice _ _ _ | exact one_ptr _ | exact one_bool _ | exact one_string _) only [RXA, RXB, Nat.reduceAdd, Nat.reduceLT, wrap_id, wrap_succ, wrap_pred, FX1, Int.reduceBEq, Int.reduceBNe, Int.reduceLT, Int.reduceLE, Int.reduceEq, Int.reduceNe, Int.reduceAdd, Int.reduceSub, Int.reduceMul, Int.reduceNeg, bix0, d1]
        rw [succA_tables_Number]
        try simp (disch := first | omega | assumption | exact one_int _ _ | exact one_slice _ _ _ | exact one_ptr _ | exact one_bool _ | exact one_string _) only [RXA, RXB, Nat.reduceAdd, Nat.reduceLT, wrap_id, wrap_succ, wrap_pred, FX1, Int.reduceBEq, Int.reduceBNe, Int.reduceLT, Int.reduceLE, Int.reduceEq, Int.reduceNe, Int.reduceAdd, Int.reduceSub, Int.reduceMul, Int.reduceNeg, bix1, d2]
        rw [succA_tables_Number]
        try simp (disch := first | omega | assumption | exact one_int _ _ | exact one_slice _ _ _ | exact one_ptr _ | exact one_bool _ | exact one_string _) only [RXA, RXB, Nat.reduceAdd, Nat.reduceLT, wrap_id, wrap_succ, wrap_pred, FX1, Int.reduceBEq, Int.reduceBNe, Int.reduceLT, Int.reduceLE, Int.reduceEq, Int.reduceNe, Int.reduceAdd, Int.reduceSub, Int.reduceMul, Int.reduceNeg, bix2, d3]
        rw [succA_tables_Number]
        try simp (disch := first | omega | assumption | exact one_int _ _ | exact one_slice _ _ _ | exact one_ptr _ | exact one_bool _ | exact one_string _) only [RXA, RXB, Nat.reduceAdd, Nat.reduceLT, wrap_id, wrap_succ, wrap_pred, FX1, Int.reduceBEq, Int.reduceBNe, Int.reduceLT, Int.reduceLE, Int.reduceEq, Int.reduceNe, Int.reduceAdd, Int.reduceSub, Int.reduceMul, Int.reduceNeg, bix3, d4]
        rw [succA_tables_Number]
        try simp (disch := first | omega | assumption | exact one_int _ _ | exact one_slice _ _ _ | exact one_ptr _ | exact one_bool _ | exact one_string _) only [RXA, RXB, Nat.reduceAdd, Nat.reduceLT, wrap_id, wrap_succ, wrap_pred, FX1, Int.reduceBEq, Int.reduceBNe, Int.reduceLT, Int.reduceLE, Int.reduceEq, Int.reduceNe, Int.reduceAdd, Int.reduceSub, Int.reduceMul, Int.reduceNeg]
        rw [kcAa_tables_Number]
        try simp (disch := first | omega | assumption | exact one_int _ _ | exact one_slice _ _ _ | exact one_ptr _ | exact one_bool _ | exact one_string _) only [RXA, RXB, Nat.reduceAdd, Nat.reduceLT, wrap_id, wrap_succ, wrap_pred, FX1, Int.reduceBEq, Int.reduceBNe, Int.reduceLT, Int.reduceLE, Int.reduceEq, Int.reduceNe, Int.reduceAdd, Int.reduceSub, Int.reduceMul, Int.reduceNeg, c1, c2]
        all_goals (first | rfl | exact ⟨rfl, rfl, rfl⟩ | exact ⟨rfl, rfl⟩)
      · have d2 : 600 ≤ z := by omega
        by_cases c3 : z < 1200
        · have d3 : ¬ (1200 ≤ z) := by omega
          have d4 : ¬ (2400 ≤ z) := by omega
          rw [succA_tables_Number]
          try simp (disch := first | omega | assumption | exact one_int _ _ | exact one_slice _ _ _ | exact one_ptr _ | exact one_bool _ | exact one_string _) only [RXA, RXB, Nat.reduceAdd, Nat.reduceLT, wrap_id, wrap_succ, wrap_pred, FX1, Int.reduceBEq, Int.reduceBNe, Int.reduceLT, Int.reduceLE, Int.reduceEq, Int.reduceNe, Int.reduceAdd, Int.reduceSub, Int.reduceMul, Int.reduceNeg, bix0, d1]
          rw [succA_tables_Number]
          try simp (disch := first | omega | assumption | exact one_int _ _ | exact one_slice _ _ _ | exact one_ptr _ | exact one_bool _ | exact one_string _) only [RXA, RXB, Nat.reduceAdd, Nat.reduceLT, wrap_id, wrap_succ, wrap_pred, FX1, Int.reduceBEq, Int.reduceBNe, Int.reduceLT, Int.reduceLE, Int.reduceEq, Int.reduceNe, Int.reduceAdd, Int.reduceSub, Int.reduceMul, Int.reduceNeg, bix1, d2]
          rw [succA_tables_Number]
          try simp (disch := first | omega | assumption | exact one_int _ _ | exact one_slice _ _ _ | exact one_ptr _ | exact one_bool _ | exact one_string _) only [RXA, RXB, Nat.reduceAdd, Nat.reduceLT, wrap_id, wrap_succ, wrap_pred, FX1, Int.reduceBEq, Int.reduceBNe, Int.reduceLT, Int.reduceLE, Int.reduceEq, Int.reduceNe, Int.reduceAdd, Int.reduceSub, Int.reduceMul, Int.reduceNeg, bix2, d3]
          rw [succA_tables_Number]
          try simp (disch := first | omega | assumption | exact one_int _ _ | exact one_slice _ _ _ | exact one_ptr _ | exact one_bool _ | exact one_string _) only [RXA, RXB, Nat.reduceAdd, Nat.reduceLT, wrap_id, wrap_succ, wrap_pred, FX1, Int.reduceBEq, Int.reduceBNe, Int.reduceLT, Int.reduceLE, Int.reduceEq, Int.reduceNe, Int.reduceAdd, Int.reduceSub, Int.reduceMul, Int.reduceNeg, bix3, d4]
          rw [succA_tables_Number]
          try simp (disch := first | omega | assumption | exact one_int _ _ | exact one_slice _ _ _ | exact one_ptr _ | exact one_bool _ | exact one_string _) only [RXA, RXB, Nat.reduceAdd, Nat.reduceLT, wrap_id, wrap_succ, wrap_pred, FX1, Int.reduceBEq, Int.reduceBNe, Int.reduceLT, Int.reduceLE, Int.reduceEq, Int.reduceNe, Int.reduceAdd, Int.reduceSub, Int.reduceMul, Int.reduceNeg]
          rw [kcAa_tables_Number]
          try simp (disch := first | omega | assumption | exact one_int _ _ | exact one_slice _ _ _ | exact one_ptr _ | exact one_bool _ | exact one_string _) only [RXA, RXB, Nat.reduceAdd, Nat.reduceLT, wrap_id, wrap_succ, wrap_pred, FX1, Int.reduceBEq, Int.reduceBNe, Int.reduceLT, Int.reduceLE, Int.reduceEq, Int.reduceNe, Int.reduceAdd, Int.reduceSub, Int.reduceMul, Int.reduceNeg, c1, c2, c3]
          all_goals (first | rfl | exact ⟨rfl, rfl, rfl⟩ | exact ⟨rfl, rfl⟩)
        · have d3 : 1200 ≤ z := by omega
          by_cases c4 : z < 2400
          · have d4 : ¬ (2400 ≤ z) := by omega
            rw [succA_tables_Number]
            try simp (disch := first | omega | assumption | exact one_int _ _ | exact one_slice _ _ _ | exact one_ptr _ | exact one_bool _ | exact one_string _) only [RXA, RXB, Nat.reduceAdd, Nat.reduceLT, wrap_id, wrap_succ, wrap_pred, FX1, Int.reduceBEq, Int.reduceBNe, Int.reduceLT, Int.reduceLE, Int.reduceEq, Int.reduceNe, Int.reduceAdd, Int.reduceSub, Int.reduceMul, Int.reduceNeg, bix0, d1]
            rw [succA_tables_Number]
            try simp (disch := first | omega | assumption | exact one_int _ _ | exact one_slice _ _ _ | exact one_ptr _ | exact one_bool _ | exact one_string _) only [RXA, RXB, Nat.reduceAdd, Nat.reduceLT, wrap_id, wrap_succ, wrap_pred, FX1, Int.reduceBEq, Int.reduceBNe, Int.reduceLT, Int.reduceLE, Int.reduceEq, Int.reduceNe, Int.reduceAdd, Int.reduceSub, Int.reduceMul, Int.reduceNeg, bix1, d2]
            rw [succA_tables_Number]
            try simp (disch := first | omega | assumption | exact one_int _ _ | exact one_slice _ _ _ | exact one_ptr _ | exact one_bool _ | exact one_string _) only [RXA, RXB, Nat.reduceAdd, Nat.reduceLT, wrap_id, wrap_succ, wrap_pred, FX1, Int.reduceBEq, Int.reduceBNe, Int.reduceLT, Int.reduceLE, Int.reduceEq, Int.reduceNe, Int.reduceAdd, Int.reduceSub, Int.reduceMul, Int.reduceNeg, bix2, d3]
            rw [succA_tables_Number]
            try simp (disch := first | omega | assumption | exact one_int _ _ | exact one_slice _ _ _ | exact one_ptr _ | exact one_bool _ | exact one_string _) only [RXA, RXB, Nat.reduceAdd, Nat.reduceLT, wrap_id, wrap_succ, wrap_pred, FX1, Int.reduceBEq, Int.reduceBNe, Int.reduceLT, Int.reduceLE, Int.reduceEq, Int.reduceNe, Int.reduceAdd, Int.reduceSub, Int.reduceMul, Int.reduceNeg, bix3, d4]
            rw [succA_tables_Number]
            try simp (disch := first | omega | assumption | exact one_int _ _ | exact one_slice _ _ _ | exact one_ptr _ | exact one_bool _ | exact one_string _) only [RXA, RXB, Nat.reduceAdd, Nat.reduceLT, wrap_id, wrap_succ, wrap_pred, FX1, Int.reduceBEq, Int.reduceBNe, Int.reduceLT, Int.reduceLE, Int.reduceEq, Int.reduceNe, Int.reduceAdd, Int.reduceSub, Int.reduceMul, Int.reduceNeg]
            rw [kcAa_tables_Number]
            try simp (disch := first | omega | assumption | exact one_int _ _ | exact one_slice _ _ _ | exact one_ptr _ | exact one_bool _ | exact one_string _) only [RXA, RXB, Nat.reduceAdd, Nat.reduceLT, wrap_id, wrap_succ, wrap_pred, FX1, Int.reduceBEq, Int.reduceBNe, Int.reduceLT, Int.reduceLE, Int.reduceEq, Int.reduceNe, Int.reduceAdd, Int.reduceSub, Int.reduceMul, Int.reduceNeg, c1, c2, c3, c4]
            all_goals (first | rfl | exact ⟨rfl, rfl, rfl⟩ | exact ⟨rfl, rfl⟩)
          · have d4 : 2400 ≤ z := by omega
            rw [succA_tables_Number]
            try simp (disch := first | omega | assumption | exact one_int _ _ | exact one_slice _ _ _ | exact one_ptr _ | exact one_bool _ | exact one_string _) only [RXA, RXB, Nat.reduceAdd, Nat.reduceLT, wrap_id, wrap_succ, wrap_pred, FX1, Int.reduceBEq, Int.reduceBNe, Int.reduceLT, Int.reduceLE, Int.reduceEq, Int.reduceNe, Int.reduceAdd, Int.reduceSub, Int.reduceMul, Int.reduceNeg, bix0, d1]
            rw [succA_tables_Number]
            try simp (disch := first | omega | assumption | exact one_int _ _ | exact one_slice _ _ _ | exact one_ptr _ | exact one_bool _ | exact one_string _) only [RXA, RXB, Nat.reduceAdd, Nat.reduceLT, wrap_id, wrap_succ, wrap_pred, FX1, Int.reduceBEq, Int.reduceBNe, Int.reduceLT, Int.reduceLE, Int.reduceEq, Int.reduceNe, Int.reduceAdd, Int.reduceSub, Int.reduceMul, Int.reduceNeg, bix1, d2]
            rw [succA_tables_Number]
            try simp (disch := first | omega | assumption | exact one_int _ _ | exact one_slice _ _ _ | exact one_ptr _ | exact one_bool _ | exact one_string _) only [RXA, RXB, Nat.reduceAdd, Nat.reduceLT, wrap_id, wrap_succ, wrap_pred, FX1, Int.reduceBEq, Int.reduceBNe, Int.reduceLT, Int.reduceLE, Int.reduceEq, Int.reduceNe, Int.reduceAdd, Int.reduceSub, Int.reduceMul, Int.reduceNeg, bix2, d3]
            rw [succA_tables_Number]
            try simp (disch := first | omega | assumption | exact one_int _ _ | exact one_slice _ _ _ | exact one_ptr _ | exact one_bool _ | exact one_string _) only [RXA, RXB, Nat.reduceAdd, Nat.reduceLT, wrap_id, wrap_succ, wrap_pred, FX1, Int.reduceBEq, Int.reduceBNe, Int.reduceLT, Int.reduceLE, Int.reduceEq, Int.reduceNe, Int.reduceAdd, Int.reduceSub, Int.reduceMul, Int.reduceNeg, bix3, d4]
            rw [succA_tables_Number]
            try simp (disch := first | omega | assumption | exact one_int _ _ | exact one_slice _ _ _ | exact one_ptr _ | exact one_bool _ | exact one_string _) only [RXA, RXB, Nat.reduceAdd, Nat.reduceLT, wrap_id, wrap_succ, wrap_pred, FX1, Int.reduceBEq, Int.reduceBNe, Int.reduceLT, Int.reduceLE, Int.reduceEq, Int.reduceNe, Int.reduceAdd, Int.reduceSub, Int.reduceMul, Int.reduceNeg]
            rw [kcAa_tables_Number]
            try simp (disch := first | omega | assumption | exact one_int _ _ | exact one_slice _ _ _ | exact one_ptr _ | exact one_bool _ | exact one_string _) only [RXA, RXB, Nat.reduceAdd, Nat.reduceLT, wrap_id, wrap_succ, wrap_pred, FX1, Int.reduceBEq, Int.reduceBNe, Int.reduceLT, Int.reduceLE, Int.reduceEq, Int.reduceNe, Int.reduceAdd, Int.reduceSub, Int.reduceMul, Int.reduceNeg, c1, c2, c3, c4]
            all_goals (first | rfl | exact ⟨rfl, rfl, rfl⟩ | exact ⟨rfl, rfl⟩)
  exact go lf hf

include hlf
theorem s_groupsOf (v : Value) (xs : List Int) (hR : Row h n 3 .i64 v xs) (hl : xs.length ≤ 1000000) :
    Run (fun _ => False) n (evCall2 Tryd.prog gt lf (d + 4) 35 #[v]) h n fun v' h' n' => RR h' n' 22 3 v' (groupsL xs) := by
  rw [sh_tables_groupsOf]
  refine Run.inside_ ?_
  unfold b_tables_groupsOf
  have hR0 := hR
  obtain ⟨a, c, rfl⟩ := hR.len
  try simp (disch := first | omega | assumption | exact one_int _ _ | exact one_slice _ _ _ | exact one_ptr _ | exact one_bool _ | exact one_string _) only [RXA, RXB, Nat.reduceAdd, Nat.reduceLT, wrap_id, wrap_succ, wrap_pred, FX1]
  refine run_same (s_fGroups lf (d + 2) n h xs.length (by omega)) (Nat.le_refl _) (fun _ _ h => h.elim) ?_
  have hgl : grpN xs.length ≤ 1000000 := by unfold grpN; omega
  refine run_for (grpN xs.length) (fun fu i (u : Value) => lpA_tables_groupsOf lf (d + 3) fu (kcA_tables_groupsOf lf (d + 3)) _ _ u (.int .i64 (grpN xs.length : Nat)) (.int .i64 (i : Nat))) (fun i u h' n' => n ≤ n' ∧ (∀ b, b < n → h'.get b = h.get b) ∧ OwnRR h' n n' n' 22 3 u ((List.range i).map (grp xs))) ?_ ?_ lf 0 _ h n (Nat.zero_le _) (by omega) ⟨Nat.le_refl _, fun _ _ => rfl, OwnRR.nil _ _ _ _ _ _⟩
  · rintro fu u h' n' ⟨hn, hk, hO⟩
    rw [succA_tables_groupsOf]
    try simp (disch := first | omega | assumption | exact one_int _ _ | exact one_slice _ _ _ | exact one_ptr _ | exact one_bool _ | exact one_string _) only [RXA, RXB, Nat.reduceAdd, Nat.reduceLT, wrap_id, wrap_succ, wrap_pred, FX1, Int.lt_irrefl]
    rw [kcAa_tables_groupsOf]
    try simp (disch := first | omega | assumption | exact one_int _ _ | exact one_slice _ _ _ | exact one_ptr _ | exact one_bool _ | exact one_string _) only [RXA, RXB, Nat.reduceAdd, Nat.reduceLT, wrap_id, wrap_succ, wrap_pred, FX1]
    exact hO.rr
  · rintro fu i u h' n' hi ⟨hn, hk, hO⟩ next
    have e1 : ((i : Nat) : Int) < ((grpN xs.length : Nat) : Int) := by omega
    rw [succA_tables_groupsOf]
    try simp (disch := first | omega | assumption | exact one_int _ _ | exact one_slice _ _ _ | exact one_ptr _ | exact one_bool _ | exact one_string _) only [RXA, RXB, Nat.reduceAdd, Nat.reduceLT, wrap_id, wrap_succ, wrap_pred, FX1, e1]
    refine run_call okd (s_fGroup lf d n' h' _ xs (hR0.keep hn hk) hl i hi) hn (fun _ _ h => h.elim) fun v1 h1 n1 hn1 fr1 hq => ?_
    obtain ⟨g, rfl, hg⟩ := hq
    have hO1 := (hO.keep hn1 fun b hb _ => fr1 b hb id).up hn1
    try simp (disch := first | omega | assumption | exact one_int _ _ | exact one_slice _ _ _ | exact one_ptr _ | exact one_bool _ | exact one_string _) only [RXA, RXB, Nat.reduceAdd, Nat.reduceLT, wrap_id, wrap_succ, wrap_pred, FX1, ext0, ext1]
    refine run_pushRR c1x23 (by decide) hO1 hg (Nat.le_refl _) (by simp; omega) (Nat.le_refl _) (by omega) _ fun v2 h2 o2 k2 _ => ?_
    try simp (disch := first | omega | assumption | exact one_int _ _ | exact one_slice _ _ _ | exact one_ptr _ | exact one_bool _ | exact one_string _) only [RXA, RXB, Nat.reduceAdd, Nat.reduceLT, wrap_id, wrap_succ, wrap_pred, FX1]
    refine next v2 h2 (n1 + 2) ⟨by omega, fun b hb => ?_, ?_⟩
    · rw [k2 b (by omega) fun q => by have := (hO1.lt q).1; omega, fr1 b (by omega) id]
      exact hk b hb
    · rw [List.range_succ, List.map_append]
      exact o2.up (by omega)

theorem s_pick (v u : Value) (g : List Int) (T : List (List Int)) (hR : Row h n 3 .i64 v g) (hT : RR h n 22 3 u T) (hl : g.length ≤ 1000000) (hTl : T.length ≤ 1000) (hT2 : ∀ t ∈ T, t.length ≤ 1000000 ∧ allIn 0 1099511627776 t = true ∧ inB t.length g = true) :
    Run (fun _ => False) n (evCall2 Tryd.prog gt lf (d + 7) 50 #[v, u]) h n fun v' h' n' => v' = .int .i64 (pickL g T : Int) ∧ h' = h ∧ n' = n := by
  rw [sh_tables_pick]
  refine Run.inside_ ?_
  unfold b_tables_pick
  have hT0 := hT
  obtain ⟨a, c, rfl⟩ := hT.len
  try simp (disch := first | omega | assumption | exact one_int _ _ | exact one_slice _ _ _ | exact one_ptr _ | exact one_bool _ | exact one_string _) only [RXA, RXB, Nat.reduceAdd, Nat.reduceLT, wrap_id, wrap_succ, wrap_pred, FX1]
  refine run_for T.length (fun fu i (q : Nat × Int) => lpA_tables_pick lf (d + 6) fu (kcA_tables_pick lf (d + 6)) _ _ _ (.int .i64 (q.1 : Nat)) (.int .i64 q.2) _ (.int .i64 (T.length : Nat)) (.int .i64 (i : Nat))) (fun i q h' n' => (h' = h ∧ n' = n) ∧ pickL g T = pickF g (T.drop i) i q.1 q.2) ?_ ?_ lf 0 (0, 1099511627776) h n (Nat.zero_le _) (by omega) ⟨⟨rfl, rfl⟩, rfl⟩
  · rintro fu q h' n' ⟨⟨rfl, rfl⟩, hp⟩
    rw [succA_tables_pick]
    try simp (disch := first | omega | assumption | exact one_int _ _ | exact one_slice _ _ _ | exact one_ptr _ | exact one_bool _ | exact one_string _) only [RXA, RXB, Nat.reduceAdd, Nat.reduceLT, wrap_id, wrap_succ, wrap_pred, FX1, Int.lt_irrefl]
    rw [kcAa_tables_pick]
    try simp (disch := first | omega | assumption | exact one_int _ _ | exact one_slice _ _ _ | exact one_ptr _ | exact one_bool _ | exact one_string _) only [RXA, RXB, Nat.reduceAdd, Nat.reduceLT, wrap_id, wrap_succ, wrap_pred, FX1]
    rw [List.drop_length] at hp
    rw [hp]
    all_goals (first | rfl | exact ⟨rfl, rfl, rfl⟩ | exact ⟨rfl, rfl⟩)
  · rintro fu i q h' n' hi ⟨⟨rfl, rfl⟩, hp⟩ next
    obtain ⟨b, off, cap, o, cs, hv, hg, hb, hat⟩ := hT0.at (by omega)
    cases hv
    obtain ⟨x, hx, hrx⟩ := hat i hi
    have e1 : ((i : Nat) : Int) < ((T.length : Nat) : Int) := by omega
    rw [drop_next [] hi] at hp
    have hm : T.getD i [] ∈ T := by rw [List.getD_eq_getElem?_getD, List.getElem?_eq_getElem hi]; exact List.getElem_mem hi
    obtain ⟨m1, m2, m3⟩ := hT2 _ hm
    rw [succA_tables_pick]
    try simp (disch := first | omega | assumption | exact one_int _ _ | exact one_slice _ _ _ | exact one_ptr _ | exact one_bool _ | exact one_string _) only [RXA, RXB, Nat.reduceAdd, Nat.reduceLT, wrap_id, wrap_succ, wrap_pred, FX1, e1, hg, hx]
    refine run_same (s_fCost lf d _ h' hlf v x g _ hR hrx hl m1) (Nat.le_refl _) (fun _ _ h => h.elim) ?_
    rw [if_pos ⟨m2, m3⟩]
    unfold pickF at hp
    by_cases c1 : costL g (T.getD i []) < q.2
    · rw [if_pos c1] at hp
      try simp (disch := first | omega | assumption | exact one_int _ _ | exact one_slice _ _ _ | exact one_ptr _ | exact one_bool _ | exact one_string _) only [RXA, RXB, Nat.reduceAdd, Nat.reduceLT, wrap_id, wrap_succ, wrap_pred, FX1, ext0, ext1, c1]
      exact next (i, costL g (T.getD i [])) _ _ ⟨⟨rfl, rfl⟩, hp⟩
    · rw [if_neg c1] at hp
      try simp (disch := first | omega | assumption | exact one_int _ _ | exact one_slice _ _ _ | exact one_ptr _ | exact one_bool _ | exact one_string _) only [RXA, RXB, Nat.reduceAdd, Nat.reduceLT, wrap_id, wrap_succ, wrap_pred, FX1, ext0, ext1, c1]
      exact next q _ _ ⟨⟨rfl, rfl⟩, hp⟩
end
end Go.Proofs.YtdagfcflbphoiaaDoor
/- Layers 8 and 12 by the second form: the reference's groups; the tables at first. -/
namespace Go.Proofs.YtdagfcflbphoiaaDoor
set_option linter.unusedVariables false
set_option linter.unusedSimpArgs false
open Go.RowKit Ev Tb

section
variable (lf d n : Nat) (h : H) (hlf : 3000000 ≤ lf)
include hlf
end
end Go.Proofs.YtdagfcflbphoiaaDoor
/- Layer 12 by the second form: the tables at first. -/
namespace Go.Proofs.YtdagfcflbphoiaaDoor
set_option linter.unusedVariables false
set_option linter.unusedSimpArgs false
open Go.RowKit Ev Tb

theorem map_gd {α : Type} (d : α) (f : Nat → α) {N i : Nat} (h : i < N) : ((List.range N).map f).getD i d = f i := by
  rw [List.getD_eq_getElem?_getD, List.getElem?_map, List.getElem?_range h]
  rfl
/-- table p when the first v symbols are told -/
def fpart (counts : List Int) (z : Int) (p v : Nat) : List Int := (List.range counts.length).map fun u => if u < v then (if mineL counts z u = p then 0 else 15) else 0
theorem fpart_len (counts : List Int) (z : Int) (p v : Nat) : (fpart counts z p v).length = counts.length := by unfold fpart; simp
theorem fpart_0 (counts : List Int) (z : Int) (p : Nat) : fpart counts z p 0 = List.replicate counts.length 0 := by
  apply List.ext_getElem
  · simp [fpart_len]
  · intro i h1 h2; simp [fpart]
theorem fpart_all (counts : List Int) (z : Int) (p : Nat) : fpart counts z p counts.length = firstT counts z p := by
  unfold fpart firstT
  apply List.map_congr_left
  intro u hu
  rw [if_pos (List.mem_range.1 hu)]
theorem fpart_mine {counts : List Int} {z : Int} {p v : Nat} (hm : mineL counts z v = p) : fpart counts z p (v + 1) = fpart counts z p v := by
  unfold fpart
  apply List.map_congr_left
  intro u hu
  by_cases c : u < v
  · rw [if_pos c, if_pos (show u < v + 1 by omega)]
  · by_cases c2 : u = v
    · subst c2
      rw [if_pos (show u < u + 1 by omega), if_pos hm, if_neg (Nat.lt_irrefl u)]
    · rw [if_neg c, if_neg (show ¬ u < v + 1 by omega)]
theorem fpart_set {counts : List Int} {z : Int} {p v : Nat} (hv : v < counts.length) (hm : mineL counts z v ≠ p) : (fpart counts z p v).set v 15 = fpart counts z p (v + 1) := by
  apply List.ext_getElem
  · simp [fpart_len]
  · intro i h1 h2
    rw [List.getElem_set]
    simp only [fpart, List.getElem_map, List.getElem_range]
    by_cases c : v = i
    · subst c; rw [if_pos rfl, if_pos (show v < v + 1 by omega), if_neg hm]
    · rw [if_neg c]
      by_cases c2 : i < v
      · rw [if_pos c2, if_pos (show i < v + 1 by omega)]
      · rw [if_neg c2, if_neg (show ¬ i < v + 1 by omega)]
section
variable (lf d n : Nat) (h : H) (hlf : 3000000 ≤ lf)
include hlf
theorem s_first (v : Value) (xs : List Int) (z : Int) (g : Gd h n) (hR : Row h n 3 .i64 v xs) (hl : xs.length ≤ 258) (hx : ∀ x ∈ xs, 0 ≤ x ∧ x ≤ 1099511627776) (hz : 1 ≤ z) (hz2 : z ≤ 1099511627776) :
    Run (fun _ => False) n (evCall2 Tryd.prog gt lf (d + 2) 36 #[v, .int .i64 z]) h n fun v' h' n' => RR h' n' 22 3 v' (firstL xs z) := by
  rw [sh_tables_first]
  refine Run.inside_ ?_
  unfold b_tables_first
  have hR0 := hR
  obtain ⟨a, c, rfl⟩ := hR.len
  refine run_same (s_Number lf d n h z g (by omega)) (Nat.le_refl _) (fun _ _ h => h.elim) ?_
  have ht := numL_ge z
  obtain ⟨t, htt⟩ : ∃ t, numL z = t := ⟨_, rfl⟩
  rw [htt] at ht ⊢
  refine Ev.run_make c1x23 t t _ (Nat.le_refl _) (by omega) ?_
  try simp (disch := first | omega | assumption | exact one_int _ _ | exact one_slice _ _ _ | exact one_ptr _ | exact one_bool _ | exact one_string _) only [RXA, RXB, Nat.reduceAdd, Nat.reduceLT, wrap_id, wrap_succ, wrap_pred, FX1]
  let cel : Nat → Value := fun j => .slice (some ⟨n + 1 + j, 0, none⟩) xs.length xs.length
  refine run_for t (fun fu i (_ : Unit) => lpA_tables_first lf (d + 1) fu (kcA_tables_first lf (d + 1)) (.slice a xs.length c) (.int .i64 z) (.slice none 0 0) (.int .i64 (t : Nat)) (.slice (some ⟨n, 0, none⟩) t t) (.int .i64 (t : Nat)) (.int .i64 (i : Nat)))
    (fun i _ h' n' => n' = n + 1 + i ∧ (∀ b, b < n → h'.get b = h.get b) ∧ h'.get n = some ⟨22, true, rc cel (.slice none 0 0) t i⟩ ∧ ∀ j, j < i → h'.get (n + 1 + j) = some ⟨3, true, intsV .i64 (List.replicate xs.length 0)⟩) ?_ ?_ lf 0 () _ _ (Nat.zero_le _) (by omega) ⟨rfl, fun b hb => get_ne _ _ (by omega), by rw [get_eq, rc_zero], fun j hj => absurd hj (Nat.not_lt_zero j)⟩
  · rintro fu _ h' n' ⟨rfl, hk, hg, hj⟩
    rw [succA_tables_first]
    try simp (disch := first | omega | assumption | exact one_int _ _ | exact one_slice _ _ _ | exact one_ptr _ | exact one_bool _ | exact one_string _) only [RXA, RXB, Nat.reduceAdd, Nat.reduceLT, wrap_id, wrap_succ, wrap_pred, FX1, Int.lt_irrefl]
    rw [kcAa_tables_first]
    try simp (disch := first | omega | assumption | exact one_int _ _ | exact one_slice _ _ _ | exact one_ptr _ | exact one_bool _ | exact one_string _) only [RXA, RXB, Nat.reduceAdd, Nat.reduceLT, wrap_id, wrap_succ, wrap_pred, FX1]
    rw [rc_all] at hg
    refine run_for xs.length (fun fu i (q : Int) => lpB_tables_first lf (d + 1) fu (kcB_tables_first lf (d + 1)) (.slice a xs.length c) (.int .i64 z) (.slice none 0 0) (.int .i64 (t : Nat)) (.slice (some ⟨n, 0, none⟩) t t) (.int .i64 q) _ _ _ (.slice a xs.length c) (.int .i64 (xs.length : Nat)) (.int .i64 (i : Nat)))
      (fun i q h' n' => q = belowL xs z i ∧ n' = n + 1 + t ∧ (∀ b, b < n → h'.get b = h.get b) ∧ h'.get n = some ⟨22, true, (List.range t).map cel⟩ ∧ ∀ j, j < t → h'.get (n + 1 + j) = some ⟨3, true, intsV .i64 (fpart xs z j i)⟩) ?_ ?_ lf 0 0 _ _ (Nat.zero_le _) (by omega) ⟨by unfold belowL; simp only [List.take_zero, sumI]; rw [if_neg (by omega)], rfl, hk, hg, fun j hj2 => by rw [fpart_0]; exact hj j hj2⟩
    · rintro fu q h' n' ⟨rfl, rfl, hk, hg, hj⟩
      rw [succB_tables_first]
      try simp (disch := first | omega | assumption | exact one_int _ _ | exact one_slice _ _ _ | exact one_ptr _ | exact one_bool _ | exact one_string _) only [RXA, RXB, Nat.reduceAdd, Nat.reduceLT, wrap_id, wrap_succ, wrap_pred, FX1, Int.lt_irrefl]
      rw [kcBa_tables_first]
      try simp (disch := first | omega | assumption | exact one_int _ _ | exact one_slice _ _ _ | exact one_ptr _ | exact one_bool _ | exact one_string _) only [RXA, RXB, Nat.reduceAdd, Nat.reduceLT, wrap_id, wrap_succ, wrap_pred, FX1]
      have cl : ((List.range t).map cel).length = t := by simp
      refine ⟨(List.range t).map cel, .inr ⟨n, 0, t, true, _, by rw [cl], hg, by omega, by rw [cl]; omega, by rw [List.drop_zero, List.take_length], by rw [cl]; exact Nat.le_refl _⟩, by rw [cl, firstL_len, htt], fun j hjt => ?_⟩
      rw [firstL_len, htt] at hjt
      unfold firstL
      rw [htt, map_gd _ _ hjt, map_gd _ _ hjt, ← fpart_all]
      exact Row.ofBlk (hj j hjt) (by omega) (fpart_len _ _ _ _)
    · rintro fu i q h' n' hi ⟨rfl, rfl, hk, hg, hj⟩ next
      obtain ⟨b, off, cap, o, cs, hv, hgx, hb, _, _, _, hat⟩ := (hR0.keep (Nat.le_refl n) hk).some (by omega)
      cases hv
      have hb2 : b < n + 1 + t := by omega
      have e1 : ((i : Nat) : Int) < ((xs.length : Nat) : Int) := by omega
      have c1 := hat i hi
      obtain ⟨g0, g1⟩ := belowL_ge (fun x hx' => (hx x hx').1) hz (v := i)
      have g2 := mineL_eq (fun x hx' => (hx x hx').1) hz i
      rw [htt] at g2
      have g4 : 0 ≤ belowL xs z i * (t : Int) := Int.mul_nonneg g0 (by omega)
      have g5 : belowL xs z i * (t : Int) ≤ 1099511627776 * 6 := Int.mul_le_mul (by omega) (by omega) (by omega) (by omega)
      have w1 : IntKind.i64.wrap (belowL xs z i * (t : Int)) = belowL xs z i * (t : Int) := wrap_id (by omega) (by omega)
      have g6 : (mineL xs z i : Int) ≤ 1099511627776 * 6 := by
        have := Int.ediv_le_self z g4
        have h2 : (belowL xs z i * (t : Int)) / z = (mineL xs z i : Int) := by rw [← g2, Int.tdiv_eq_ediv_of_nonneg g4]
        omega
      have w2 : IntKind.i64.wrap (mineL xs z i : Int) = (mineL xs z i : Int) := wrap_id (by omega) (by omega)
      have z0 : z ≠ 0 := by omega
      have xb := hx _ (gd_mem hi)
      have w3 : IntKind.i64.wrap (belowL xs z i + xs.getD i 0) = belowL xs z i + xs.getD i 0 := wrap_id (by omega) (by omega)
      have w4 : IntKind.i64.wrap (z - 1) = z - 1 := wrap_id (by omega) (by omega)
      have bn := belowL_next (fun x hx' => (hx x hx').1) (n := z) hi
      rw [succB_tables_first]
      try simp (disch := first | omega | assumption | exact one_int _ _ | exact one_slice _ _ _ | exact one_ptr _ | exact one_bool _ | exact one_string _) only [RXA, RXB, Nat.reduceAdd, Nat.reduceLT, wrap_id, wrap_succ, wrap_pred, FX1, e1, hgx, c1, w1, z0, g2, w2]
      refine run_for t (fun f2 p (_ : Unit) => lpC_tables_first lf (d + 1) f2 (kcC_tables_first lf (d + 1) fu (kcB_tables_first lf (d + 1))) (.slice (some ⟨b, off, none⟩) xs.length c) (.int .i64 z) (.slice none 0 0) (.int .i64 (t : Nat)) (.slice (some ⟨n, 0, none⟩) t t) (.int .i64 (belowL xs z i)) (.int .i64 (i : Nat)) (.int .i64 (xs.getD i 0)) (.int .i64 (mineL xs z i : Nat)) _ _ _ _ _ (.int .i64 (i : Nat)) _ (.int .i64 (t : Nat)) (.int .i64 (p : Nat)))
        (fun p _ h' n' => n' = n + 1 + t ∧ (∀ b, b < n → h'.get b = h.get b) ∧ h'.get n = some ⟨22, true, (List.range t).map cel⟩ ∧ ∀ j, j < t → h'.get (n + 1 + j) = some ⟨3, true, intsV .i64 (fpart xs z j (if j < p then i + 1 else i))⟩) ?_ ?_ lf 0 () _ _ (Nat.zero_le _) (by omega) ⟨rfl, hk, hg, fun j hj2 => by rw [if_neg (Nat.not_lt_zero j)]; exact hj j hj2⟩
      · rintro f2 _ h2 n2 ⟨rfl, hk2, hg2, hj2⟩
        rw [succC_tables_first]
        try simp (disch := first | omega | assumption | exact one_int _ _ | exact one_slice _ _ _ | exact one_ptr _ | exact one_bool _ | exact one_string _) only [RXA, RXB, Nat.reduceAdd, Nat.reduceLT, wrap_id, wrap_succ, wrap_pred, FX1, Int.lt_irrefl]
        rw [kcCa_tables_first]
        try simp (disch := first | omega | assumption | exact one_int _ _ | exact one_slice _ _ _ | exact one_ptr _ | exact one_bool _ | exact one_string _) only [RXA, RXB, Nat.reduceAdd, Nat.reduceLT, wrap_id, wrap_succ, wrap_pred, FX1, w3, w4, bn]
        exact next _ _ _ ⟨rfl, rfl, hk2, hg2, fun j hj3 => by have := hj2 j hj3; rwa [if_pos hj3] at this⟩
      · rintro f2 p _ h2 n2 hp ⟨rfl, hk2, hg2, hj2⟩ next2
        have e2 : ((p : Nat) : Int) < ((t : Nat) : Int) := by omega
        have hpp := hj2 p hp
        rw [if_neg (Nat.lt_irrefl p)] at hpp
        rw [succC_tables_first]
        by_cases m : mineL xs z i = p
        · have n1 : ((p : Int) != (mineL xs z i : Int)) = false := by rw [m]; simp
          try simp (disch := first | omega | assumption | exact one_int _ _ | exact one_slice _ _ _ | exact one_ptr _ | exact one_bool _ | exact one_string _) only [RXA, RXB, Nat.reduceAdd, Nat.reduceLT, wrap_id, wrap_succ, wrap_pred, FX1, e2, n1]
          refine next2 () _ _ ⟨rfl, hk2, hg2, fun j hj3 => ?_⟩
          by_cases q : j = p
          · subst q
            rw [if_pos (by omega), fpart_mine m]
            exact hpp
          · have := hj2 j hj3
            by_cases q2 : j < p
            · rw [if_pos q2] at this; rw [if_pos (by omega)]; exact this
            · rw [if_neg q2] at this; rw [if_neg (by omega)]; exact this
        · have n1 : ((p : Int) != (mineL xs z i : Int)) = true := bne_iff_ne.2 fun e => m (by omega)
          have c2 : ((List.range t).map cel)[p]? = some (cel p) := by rw [List.getElem?_map, List.getElem?_range hp]; rfl
          have hcel : cel p = .slice (some ⟨n + 1 + p, 0, none⟩) xs.length xs.length := rfl
          have lt1 : n + 1 + p < n + 1 + t := by omega
          have lt2 : n < n + 1 + t := by omega
          try simp (disch := first | omega | assumption | exact one_int _ _ | exact one_slice _ _ _ | exact one_ptr _ | exact one_bool _ | exact one_string _) only [RXA, RXB, Nat.reduceAdd, Nat.reduceLT, wrap_id, wrap_succ, wrap_pred, FX1, e2, n1, hg2, c2, hcel, e1, hpp, intsV_set, fpart_set hi m, intsV_len, fpart_len]
          refine ⟨hi, .inl (by omega), ?_⟩
          refine next2 () _ _ ⟨rfl, fun b hb => by rw [get_ne _ _ (by omega)]; exact hk2 b hb, by rw [get_ne _ _ (by omega)]; exact hg2, fun j hj3 => ?_⟩
          by_cases q : j = p
          · subst q
            rw [if_pos (by omega), get_eq]
          · rw [get_ne _ _ (by omega)]
            have := hj2 j hj3
            by_cases q2 : j < p
            · rw [if_pos q2] at this; rw [if_pos (by omega)]; exact this
            · rw [if_neg q2] at this; rw [if_neg (by omega)]; exact this
  · rintro fu i _ h' n' hi ⟨rfl, hk, hg, hj⟩ next
    have e2 : ((i : Nat) : Int) < ((t : Nat) : Int) := by omega
    rw [succA_tables_first]
    try simp (disch := first | omega | assumption | exact one_int _ _ | exact one_slice _ _ _ | exact one_ptr _ | exact one_bool _ | exact one_string _) only [RXA, RXB, Nat.reduceAdd, Nat.reduceLT, wrap_id, wrap_succ, wrap_pred, FX1, e2]
    refine Ev.run_make c1x22 xs.length xs.length _ (Nat.le_refl _) (by omega) ?_
    have hg2 : (h'.set (n + 1 + i) (some ⟨3, true, List.replicate xs.length (.int .i64 0)⟩)).get n = some ⟨22, true, rc cel (.slice none 0 0) t i⟩ := by rw [get_ne _ _ (by omega)]; exact hg
    have lt2 : n < n + 1 + i + 1 := by omega
    have rs := rc_set (f := cel) (z := .slice none 0 0) hi
    have hcel : cel i = .slice (some ⟨n + 1 + i, 0, none⟩) xs.length xs.length := rfl
    rw [hcel] at rs
    try simp (disch := first | omega | assumption | exact one_int _ _ | exact one_slice _ _ _ | exact one_ptr _ | exact one_bool _ | exact one_string _) only [RXA, RXB, Nat.reduceAdd, Nat.reduceLT, wrap_id, wrap_succ, wrap_pred, FX1, e2, hg2, rs, rc_len]
    refine ⟨hi, .inl (by omega), ?_⟩
    refine next () _ _ ⟨by omega, fun b hb => by rw [get_ne _ _ (by omega), get_ne _ _ (by omega)]; exact hk b hb, get_eq _ _ _, fun j hj3 => ?_⟩
    rw [get_ne _ _ (by omega)]
    by_cases q : j = i
    · subst q
      rw [get_eq, intsV_rep]
    · rw [get_ne _ _ (by omega)]
      exact hj j (by omega)
end
end Go.Proofs.YtdagfcflbphoiaaDoor
/- Lengths of counts: rounds of halving, by the second form; the statement LensWhole. -/
namespace Go.Proofs.YtdagfcflbphoiaaDoor
set_option linter.unusedVariables false
set_option linter.unusedSimpArgs false
open Go.RowKit Ev Hu

/-- the lengths that rounds of halving come to -/
inductive Rounds : Nat → List Int → List Int → Prop
  | stop (w : List Int) (hW : Ws w) (so : Sorts w (sortD w)) (h : lngL (depF w) 0 ≤ 20) : Rounds 0 w (depF w)
  | next {k : Nat} {w l : List Int} (hW : Ws w) (so : Sorts w (sortD w)) (h : ¬ lngL (depF w) 0 ≤ 20) (r : Rounds k (halvL w) l) : Rounds (k + 1) w l
theorem Rounds.out {k : Nat} {w l : List Int} (r : Rounds k w l) : ∃ w', Ws w' ∧ Sorts w' (sortD w') ∧ lngL (depF w') 0 ≤ 20 ∧ l = depF w' ∧ w'.length = w.length := by
  induction r with
  | stop w hW so h => exact ⟨w, hW, so, h, rfl, rfl⟩
  | next hW so h r ih =>
    obtain ⟨w', h1, h2, h3, h4, h5⟩ := ih
    exact ⟨w', h1, h2, h3, h4, by rw [h5, halvL_len]⟩

/-- weights within a bound -/
structure Wb (ws : List Int) (c : Int) : Prop where
  l2 : 2 ≤ ws.length
  l3 : ws.length ≤ 258
  lo : ∀ x ∈ ws, 1 ≤ x
  hi : ∀ x ∈ ws, x ≤ c
theorem Wb.ws {ws : List Int} {c : Int} (h : Wb ws c) (hc : c ≤ 2199023255552) : Ws ws := ⟨h.l2, h.l3, fun x hx => by have := h.lo x hx; omega, fun x hx => by have := h.hi x hx; omega⟩
theorem Wb.halv {ws : List Int} {c : Int} (h : Wb ws c) (hc : c ≤ 2199023255552) : Wb (halvL ws) (c / 2 + 1) := by
  refine ⟨by rw [halvL_len]; exact h.l2, by rw [halvL_len]; exact h.l3, fun x hx => ?_, fun x hx => ?_⟩
  all_goals
    unfold halvL at hx
    rw [List.mem_map] at hx
    obtain ⟨y, hy, rfl⟩ := hx
    have h1 := h.lo y hy
    have h2 := h.hi y hy
    have hb := halv_bound y (by omega)
    have := hb.2.2 (by omega)
    omega
/-- behind k rounds -/
def cap (k : Nat) : Int := 2 ^ k + 2
theorem cap_next (k : Nat) : cap (k + 1) / 2 + 1 ≤ cap k := by
  unfold cap
  rw [Int.pow_succ]
  omega
theorem cap_le {k : Nat} (h : k ≤ 40) : cap k ≤ 2199023255552 := by
  unfold cap
  have h1 : (2 : Nat) ^ k ≤ 2 ^ 40 := Nat.pow_le_pow_right (by omega) h
  have e : ((2 : Int) ^ k) = (((2 : Nat) ^ k : Nat) : Int) := by simp
  rw [e]
  generalize (2 : Nat) ^ k = z at h1
  omega
theorem Wb.short {ws : List Int} (h : Wb ws 3) (so : Sorts ws (sortD ws)) : lngL (depF ws) 0 ≤ 20 := by
  obtain ⟨w, I, A, B, X, R, dep, D⟩ := (h.ws (by omega)).deps so
  have hN := h.l2
  have hN3 := h.l3
  have hroot := D.m.root
  have hsum : sumI ((List.range ws.length).map w) ≤ ((List.range ws.length).map w).length * 3 := sumI_bound 3 _ (fun x hx => by
    rw [List.mem_map] at hx
    obtain ⟨i, hi, rfl⟩ := hx
    have hi := List.mem_range.1 hi
    rw [D.ww i hi]
    exact h.hi _ (mem_getD hi))
  rw [List.length_map, List.length_range] at hsum
  rw [lngL_le]
  refine ⟨by omega, ?_⟩
  unfold depF
  rw [D.mem]
  intro i hi
  have := D.m.short D.d0 D.d1 hi (by rw [D.ww i hi]; exact h.lo _ (mem_getD hi)) (by omega)
  omega

theorem ofB (lf d : Nat) (hlf : 3000000 ≤ lf) (hd : 300 ≤ d) (x0 x2 x20 x24 x25 x26 x27 : Value) {W : Nat → Prop} {n0 : Nat} :
    ∀ (m fu : Nat) (w : List Int) (h : H) (n : Nat) (x4 : Value), m < fu → m ≤ 40 → Wb w (cap m) → n0 ≤ n → Row h n 3 .i64 x4 w →
      Run W n0 (lpB_lens_Of lf d fu (kcB_lens_Of lf d) x0 x2 (.int .i64 0) x4 x20 x24 x25 x26 x27) h n fun v' h' n' => ∃ v1 l r, v' = .tuple #[v1, .int .i64 0] ∧ Rounds r w l ∧ r ≤ m ∧ Row h' n' 3 .i64 v1 l := by
  intro m
  induction m with
  | zero =>
    intro fu w h n x4 hfu hm hw hn hR
    obtain ⟨fu, rfl⟩ : ∃ f, fu = f + 1 := ⟨fu - 1, by omega⟩
    obtain ⟨e, rfl⟩ : ∃ e, d = e + 1 := ⟨d - 1, by omega⟩
    rw [succB_lens_Of]
    have hW := hw.ws (cap_le hm)
    refine run_call okd (s_depF lf (e + 1) n h x4 w hR hW hlf hd) hn (fun _ _ h => h.elim) fun v1 h1 n1 hn1 fr1 hq => ?_
    obtain ⟨so, hr1, _⟩ := hq
    have hl2 := hW.l2
    have hl3 := hW.l3
    have dl := depF_len (ws := w) (by omega)
    refine run_same (s_Longest lf e n1 h1 v1 _ hr1 (by omega) hlf) (by omega) (fun _ _ h => h.elim) ?_
    have hs := Wb.short hw so
    try simp (disch := first | omega | assumption | exact one_int _ _ | exact one_slice _ _ _ | exact one_ptr _ | exact one_bool _ | exact one_string _) only [RXA, RXB, Nat.reduceAdd, Nat.reduceLT, wrap_id, wrap_succ, wrap_pred, FX1, hs]
    refine run_call okd (s_Clone lf e n1 h1 v1 _ hr1 (by omega) (by omega)) (by omega) (fun _ _ h => h.elim) fun v3 h3 n3 hn3 fr3 q3 => ?_
    rw [kcBa_lens_Of, run_out2]
    exact ⟨v3, _, 0, rfl, .stop w hW so hs, Nat.le_refl _, q3.2.1⟩
  | succ m ih =>
    intro fu w h n x4 hfu hm hw hn hR
    obtain ⟨fu, rfl⟩ : ∃ f, fu = f + 1 := ⟨fu - 1, by omega⟩
    obtain ⟨e, rfl⟩ : ∃ e, d = e + 1 := ⟨d - 1, by omega⟩
    rw [succB_lens_Of]
    have hc := cap_le hm
    have hW := hw.ws hc
    refine run_call okd (s_depF lf (e + 1) n h x4 w hR hW hlf hd) hn (fun _ _ h => h.elim) fun v1 h1 n1 hn1 fr1 hq => ?_
    obtain ⟨so, hr1, _⟩ := hq
    have hl2 := hW.l2
    have hl3 := hW.l3
    have dl := depF_len (ws := w) (by omega)
    refine run_same (s_Longest lf e n1 h1 v1 _ hr1 (by omega) hlf) (by omega) (fun _ _ h => h.elim) ?_
    by_cases hs : lngL (depF w) 0 ≤ 20
    · try simp (disch := first | omega | assumption | exact one_int _ _ | exact one_slice _ _ _ | exact one_ptr _ | exact one_bool _ | exact one_string _) only [RXA, RXB, Nat.reduceAdd, Nat.reduceLT, wrap_id, wrap_succ, wrap_pred, FX1, hs]
      refine run_call okd (s_Clone lf e n1 h1 v1 _ hr1 (by omega) (by omega)) (by omega) (fun _ _ h => h.elim) fun v3 h3 n3 hn3 fr3 q3 => ?_
      rw [kcBa_lens_Of, run_out2]
      exact ⟨v3, _, 0, rfl, .stop w hW so hs, Nat.zero_le _, q3.2.1⟩
    · try simp (disch := first | omega | assumption | exact one_int _ _ | exact one_slice _ _ _ | exact one_ptr _ | exact one_bool _ | exact one_string _) only [RXA, RXB, Nat.reduceAdd, Nat.reduceLT, wrap_id, wrap_succ, wrap_pred, FX1, hs]
      have hR1 := hR.keep hn1 (fun b hb => fr1 b hb id)
      refine run_call okd (s_Halved lf e n1 h1 x4 w hR1 (by omega) (fun x hx => by have := hW.hi x hx; omega) hlf) (by omega) (fun _ _ h => h.elim) fun v3 h3 n3 hn3 fr3 q3 => ?_
      have hw2 := hw.halv hc
      have hw3 : Wb (halvL w) (cap m) := ⟨hw2.l2, hw2.l3, hw2.lo, fun x hx => by have := hw2.hi x hx; have := cap_next m; omega⟩
      refine (ih fu (halvL w) h3 n3 v3 (by omega) (by omega) hw3 (by omega) q3.1).mono ?_
      rintro v' h' n' _ ⟨v4, l, r, rfl, hr, hle, hrow⟩
      exact ⟨v4, l, r + 1, rfl, .next hW so hs hr, by omega, hrow⟩

def cnt1 (x : Int) : Int := if x < 1 then 1 else x
def cntL (xs : List Int) : List Int := xs.map cnt1
theorem cntL_len (xs : List Int) : (cntL xs).length = xs.length := by unfold cntL; simp
theorem cntL_at {xs : List Int} {i : Nat} (h : i < xs.length) : (cntL xs).getD i 0 = cnt1 (xs.getD i 0) := by
  unfold cntL
  rw [List.getD_eq_getElem?_getD, List.getElem?_map, List.getElem?_eq_getElem h, List.getD_eq_getElem?_getD, List.getElem?_eq_getElem h]
  rfl
theorem cnt_wb {xs : List Int} (h2 : 2 ≤ xs.length) (h3 : xs.length ≤ 258) (h : ∀ x ∈ xs, 0 ≤ x ∧ x ≤ 1099511627776) : Wb (cntL xs) (cap 40) := by
  refine ⟨by rw [cntL_len]; exact h2, by rw [cntL_len]; exact h3, fun x hx => ?_, fun x hx => ?_⟩
  all_goals
    unfold cntL at hx
    rw [List.mem_map] at hx
    obtain ⟨y, hy, rfl⟩ := hx
    have := h y hy
    unfold cnt1
  · split <;> omega
  · have : cap 40 = 1099511627778 := rfl
    split <;> omega
theorem ofA (lf d n : Nat) (h : H) (v : Value) (xs : List Int) (hR : Row h n 3 .i64 v xs) (hl : xs.length ≤ 1000000) (x2 x3 x20 : Value) (c : Nat) (hc : xs.length ≤ c) {W : Nat → Prop} {n0 : Nat} (hn0 : n0 ≤ n) {Q : Value → H → Nat → Prop} (k : Ex → Fr → M Value)
    (hK : ∀ h1 y27, Row h1 (n + 1) 3 .i64 (.slice (some ⟨n, 0, none⟩) xs.length c) (cntL xs) → Run W n0 (k (Ex.exit 0) [(0, v), (2, x2), (3, x3), (4, .slice (some ⟨n, 0, none⟩) xs.length c), (20, x20), (24, v), (25, .int .i64 (xs.length : Nat)), (26, .int .i64 (xs.length : Nat)), (27, y27)]) h1 (n + 1) Q) :
    ∀ (m i fu : Nat) (h1 : H), xs.length - i = m → m < fu → i ≤ xs.length → (∀ b, b < n → h1.get b = h.get b) → h1.get n = some ⟨3, true, ints (part (cntL xs) i)⟩ →
      Run W n0 (lpA_lens_Of lf d fu k v x2 x3 (.slice (some ⟨n, 0, none⟩) xs.length c) x20 v (.int .i64 (xs.length : Nat)) (.int .i64 (i : Nat))) h1 (n + 1) Q := by
  intro m
  induction m with
  | zero =>
    intro i fu h1 hm hfu hi hk hg1
    obtain ⟨fu, rfl⟩ : ∃ f, fu = f + 1 := ⟨fu - 1, by omega⟩
    obtain rfl : i = xs.length := by omega
    rw [succA_lens_Of]
    try simp (disch := first | omega | assumption | exact one_int _ _ | exact one_slice _ _ _ | exact one_ptr _ | exact one_bool _ | exact one_string _) only [RXA, RXB, Nat.reduceAdd, Nat.reduceLT, wrap_id, wrap_succ, wrap_pred, FX1, Int.lt_irrefl]
    rw [← cntL_len xs, part_all] at hg1
    refine hK h1 _ (.inr ⟨n, 0, c, true, _, by rw [cntL_len], hg1, Nat.lt_succ_self n, by rw [ints_len]; omega, ?_, by rw [cntL_len]; exact hc⟩)
    rw [List.drop_zero, List.take_of_length_le (by rw [ints_len]; exact Nat.le_refl _)]
    rfl
  | succ m ih =>
    intro i fu h1 hm hfu hi hk hg1
    obtain ⟨fu, rfl⟩ : ∃ f, fu = f + 1 := ⟨fu - 1, by omega⟩
    have hR1 : Row h1 (n + 1) 3 .i64 v xs := hR.keep (Nat.le_succ n) hk
    have hlt := fun b hb => hR.lt (b := b) hb
    obtain ⟨b, off, cap, o, cs, rfl, hg, hb, _, _, _, hat⟩ := hR1.some (by omega)
    have hbn : b < n := hlt b ⟨_, _, _, rfl⟩
    have e1 : ((i : Nat) : Int) < ((xs.length : Nat) : Int) := by omega
    have c1 := hat i (by omega)
    have w1 : ((i : Nat) : Int) + 1 = ((i + 1 : Nat) : Int) := by omega
    have pl : (part (cntL xs) i).length = xs.length := by rw [part_len _ (by rw [cntL_len]; omega), cntL_len]
    have ps : (part (cntL xs) i).set i (if xs.getD i 0 < 1 then 1 else xs.getD i 0) = part (cntL xs) (i + 1) := by
      show (part (cntL xs) i).set i (cnt1 (xs.getD i 0)) = _
      rw [← cntL_at (by omega), part_set (by rw [cntL_len]; omega)]
    rw [succA_lens_Of]
    try simp (disch := first | omega | assumption | exact one_int _ _ | exact one_slice _ _ _ | exact one_ptr _ | exact one_bool _ | exact one_string _) only [RXA, RXB, Nat.reduceAdd, Nat.reduceLT, wrap_id, wrap_succ, wrap_pred, FX1, e1, hg, c1, hg1, ints_set, ints_len, pl, ps]
    refine ⟨by omega, .inl hn0, ?_⟩
    rw [w1]
    exact ih (i + 1) fu _ (by omega) (by omega) (by omega) (fun b hb => by rw [get_ne _ _ (by omega)]; exact hk b hb) (get_eq _ _ _)
theorem s_Of_ok (lf d n : Nat) (h : H) (v : Value) (xs : List Int) (hR : Row h n 3 .i64 v xs) (hl2 : 3 ≤ xs.length) (hl3 : xs.length ≤ 258) (hm : allIn 0 1099511627776 xs = true) (hlf : 3000000 ≤ lf) (hd : 400 ≤ d) :
    Run (fun _ => False) n (evCall2 Tryd.prog gt lf d 39 #[v]) h n fun v' h' n' => ∃ v1 l r, v' = .tuple #[v1, .int .i64 0] ∧ Rounds r (cntL xs) l ∧ r ≤ 40 ∧ Row h' n' 3 .i64 v1 l := by
  obtain ⟨d, rfl⟩ : ∃ e, d = e + 5 := ⟨d - 5, by omega⟩
  have hm' := allIn_iff.1 hm
  rw [sh_lens_Of]
  refine Run.inside_ ?_
  unfold b_lens_Of
  have hR0 := hR
  obtain ⟨a, c, rfl⟩ := hR.len
  have e1 : ¬ ((xs.length : Nat) : Int) < 3 := by omega
  have e2 : ¬ (258 : Int) < ((xs.length : Nat) : Int) := by omega
  try simp (disch := first | omega | assumption | exact one_int _ _ | exact one_slice _ _ _ | exact one_ptr _ | exact one_bool _ | exact one_string _) only [RXA, RXB, Nat.reduceAdd, Nat.reduceLT, wrap_id, wrap_succ, wrap_pred, FX1, e1, e2]
  refine run_bool (s_between lf d n h _ xs hR0 0 1099511627776 (by omega) hlf) (Nat.le_refl _) fun h1 n1 hn1 fr1 => ?_
  have hR1 := hR0.keep hn1 fr1
  rw [hm, u_not, optK_some_eq, Bool.not_true]
  try simp (disch := first | omega | assumption | exact one_int _ _ | exact one_slice _ _ _ | exact one_ptr _ | exact one_bool _ | exact one_string _) only [RXA, RXB, Nat.reduceAdd, Nat.reduceLT, wrap_id, wrap_succ, wrap_pred, FX1]
  refine Ev.run_make c1x22 xs.length xs.length _ (Nat.le_refl _) (by omega) ?_
  try simp (disch := first | omega | assumption | exact one_int _ _ | exact one_slice _ _ _ | exact one_ptr _ | exact one_bool _ | exact one_string _) only [RXA, RXB, Nat.reduceAdd, Nat.reduceLT, wrap_id, wrap_succ, wrap_pred, FX1]
  refine ofA lf (d + 4) n1 h1 _ xs hR1 (by omega) _ _ _ xs.length (Nat.le_refl _) hn1 _ (fun h2 y27 hr2 => ?_) xs.length 0 lf _ (by omega) (by omega) (by omega) (fun b hb => get_ne _ _ (by omega)) ?_
  · rw [kcAa_lens_Of]
    exact ofB lf (d + 4) hlf (by omega) _ _ _ _ _ _ _ 40 lf (cntL xs) h2 (n1 + 1) _ (by omega) (Nat.le_refl _) (cnt_wb (by omega) hl3 hm') (by omega) hr2
  · rw [get_eq, part_0, cntL_len]
    unfold ints
    rw [List.map_replicate]
theorem Rounds.whole {k : Nat} {w l : List Int} (r : Rounds k w l) : l.length = w.length ∧ allIn 1 20 l = true ∧ shrL l = 1048576 := by
  obtain ⟨w', hW, so, h, rfl, hl⟩ := r.out
  obtain ⟨wf, I, A, B, X, R, dep, D⟩ := hW.deps so
  have hl2 := hW.l2
  rw [lngL_le] at h
  refine ⟨by rw [depF_len (by omega), hl], allIn_iff.2 fun x hx => ⟨?_, h.2 x hx⟩, ?_⟩
  · revert x
    unfold depF
    rw [D.mem]
    intro i hi
    have := D.ge1 hi
    omega
  · unfold depF at h ⊢
    exact D.share h.2
end Go.Proofs.YtdagfcflbphoiaaDoor
/- The reference's trees: which is less, the least one, all but one; by the second form. -/
namespace Go.Proofs.YtdagfcflbphoiaaDoor
set_option linter.unusedVariables false
set_option linter.unusedSimpArgs false
open Go.RowKit Ev Hu

end Go.Proofs.YtdagfcflbphoiaaDoor
/- The reference's merging, as plain lists: it takes what the program takes. No program in sight. -/
namespace Go.Proofs.YtdagfcflbphoiaaDoor
set_option linter.unusedVariables false
set_option linter.unusedSimpArgs false
open Ev Hu

def incAll (out : List Int) : List Nat → List Int
  | [] => out
  | i :: ls => incAll (out.set i (out.getD i 0 + 1)) ls
theorem inc_len : ∀ (ls : List Nat) (out : List Int), (incAll out ls).length = out.length
  | [], _ => rfl
  | i :: ls, out => by unfold incAll; rw [inc_len ls]; simp
theorem inc_at : ∀ (ls : List Nat) (out : List Int), ls.Nodup → (∀ i ∈ ls, i < out.length) → ∀ j, (incAll out ls).getD j 0 = out.getD j 0 + if j ∈ ls then 1 else 0
  | [], out, _, _, j => by simp [incAll]
  | i :: ls, out, hn, hl, j => by
    rw [List.nodup_cons] at hn
    have hi := hl i (by simp)
    unfold incAll
    rw [inc_at ls _ hn.2 (fun k hk => by rw [List.length_set]; exact hl k (by simp [hk])), getD_setI]
    by_cases e : i = j
    · subst e
      rw [if_pos ⟨rfl, hi⟩, if_neg hn.1, if_pos (by simp)]
      omega
    · rw [if_neg (fun q => e q.1)]
      have : (j ∈ i :: ls) ↔ j ∈ ls := by simp [Ne.symm e]
      simp only [this]
theorem erase_perm {α : Type} : ∀ {l : List α} {i : Nat} (h : i < l.length), l.Perm (l[i] :: l.eraseIdx i)
  | x :: l, 0, _ => List.Perm.refl _
  | x :: l, i + 1, h => by
    have h' : i < l.length := by simpa using h
    have := erase_perm h'
    simp only [List.getElem_cons_succ, List.eraseIdx_cons_succ]
    exact (this.cons x).trans (List.Perm.swap _ _ _)
/-- the numbers of the trees that wait, in order; their leaves; the depths so far -/
structure PInv (N : Nat) (dep : Nat → Nat) (X : Nat → List Nat) (k : Nat) (nums : List Nat) (lf : Nat → List Nat) (out : List Int) : Prop where
  srt : nums.Pairwise (· < ·)
  prm : nums.Perm (X k)
  len : out.length = N
  lv : ∀ t ∈ nums, ∀ i ∈ lf t, i < N ∧ out.getD i 0 + dep t = dep i
  cov : (nums.flatMap lf).Perm (List.range N)
  pos : ∀ i, 0 ≤ out.getD i 0
section
variable {N : Nat} {w : Nat → Int} {I A B : Nat → Nat} {X R : Nat → List Nat} {dep : Nat → Nat}
theorem PInv.next (m : Merge N w I A B X R) (d1 : ∀ i, i < 2 * N - 2 → dep i = dep (I i) + 1) {k : Nat} (hk : k + 2 ≤ N) {nums : List Nat} {lf : Nat → List Nat} {out : List Int} (p : PInv N dep X k nums lf out) {a b : Nat} (ha : a < nums.length) (hb : b < (nums.eraseIdx a).length) (ea : nums[a] = A k) (eb : (nums.eraseIdx a)[b] = B k) :
    PInv N dep X (k + 1) ((nums.eraseIdx a).eraseIdx b ++ [N + k]) (fun t => if t = N + k then lf (A k) ++ lf (B k) else lf t) (incAll out (lf (A k) ++ lf (B k))) ∧ (lf (A k) ++ lf (B k)).Nodup ∧ (∀ i ∈ lf (A k) ++ lf (B k), i < N) := by
  have q1 := erase_perm ha
  have q2 := erase_perm hb
  rw [ea] at q1
  rw [eb] at q2
  have q3 : nums.Perm (A k :: B k :: (nums.eraseIdx a).eraseIdx b) := q1.trans (q2.cons _)
  have hR : ((nums.eraseIdx a).eraseIdx b).Perm (R k) := ((q3.symm.trans p.prm).trans (m.st k hk)).cons_inv.cons_inv
  have hlt : ∀ t ∈ nums, t < N + k := fun t ht => m.lt (by omega) (p.prm.mem_iff.1 ht)
  obtain ⟨S, hS⟩ : ∃ S, (nums.eraseIdx a).eraseIdx b = S := ⟨_, rfl⟩
  rw [hS] at q3 hR ⊢
  have sub : ∀ t ∈ S, t ∈ nums := fun t ht => q3.mem_iff.2 (by simp [ht])
  have mA : A k ∈ nums := q3.mem_iff.2 (by simp)
  have mB : B k ∈ nums := q3.mem_iff.2 (by simp)
  have cv := (q3.flatMap_right lf).symm.trans p.cov
  simp only [List.flatMap_cons] at cv
  have nd : ((lf (A k) ++ lf (B k)) ++ S.flatMap lf).Nodup := by
    rw [List.append_assoc]
    exact cv.nodup_iff.2 List.nodup_range
  have nd1 := (List.nodup_append.1 nd).1
  have dis : ∀ t ∈ S, ∀ i ∈ lf t, i ∉ lf (A k) ++ lf (B k) := fun t ht i hi hc => (List.nodup_append.1 nd).2.2 i hc i (List.mem_flatMap.2 ⟨t, ht, hi⟩) rfl
  have il : ∀ i ∈ lf (A k) ++ lf (B k), i < N := fun i hi => by
    rcases List.mem_append.1 hi with q | q
    · exact (p.lv _ mA i q).1
    · exact (p.lv _ mB i q).1
  have ia := inc_at (lf (A k) ++ lf (B k)) out nd1 (fun i hi => by rw [p.len]; exact il i hi)
  obtain ⟨dA, dB⟩ := m.dep_ab d1 hk
  refine ⟨⟨?_, ?_, by rw [inc_len, p.len], fun t ht i hi => ?_, ?_, fun i => ?_⟩, nd1, il⟩
  · rw [List.pairwise_append]
    refine ⟨?_, by simp, fun x hx y hy => by rw [List.mem_singleton.1 hy]; exact hlt x (sub x hx)⟩
    rw [← hS]
    exact (p.srt.sublist (List.eraseIdx_sublist _ _)).sublist (List.eraseIdx_sublist _ _)
  · exact ((List.perm_append_singleton _ _).trans (hR.cons _)).trans (m.nx k hk).symm
  · rcases List.mem_append.1 ht with q | q
    · have hne : t ≠ N + k := fun e => by have := hlt t (sub t q); omega
      simp only [if_neg hne] at hi
      have := p.lv t (sub t q) i hi
      rw [ia, if_neg (dis t q i hi)]
      omega
    · obtain rfl := List.mem_singleton.1 q
      simp only [if_true] at hi
      refine ⟨il i hi, ?_⟩
      rw [ia, if_pos hi]
      rcases List.mem_append.1 hi with q | q
      · have := (p.lv _ mA i q).2; omega
      · have := (p.lv _ mB i q).2; omega
  · rw [List.flatMap_append]
    have e1 : S.flatMap (fun t => if t = N + k then lf (A k) ++ lf (B k) else lf t) = S.flatMap lf := by
      have : ∀ L : List Nat, (∀ t ∈ L, t < N + k) → L.flatMap (fun t => if t = N + k then lf (A k) ++ lf (B k) else lf t) = L.flatMap lf := by
        intro L
        induction L with
        | nil => intro _; rfl
        | cons t L ih =>
          intro h
          have := h t (by simp)
          rw [List.flatMap_cons, List.flatMap_cons, ih (fun s hs => h s (by simp [hs])), if_neg (by omega)]
      exact this S fun t ht => hlt t (sub t ht)
    rw [e1]
    simp only [List.flatMap_cons, List.flatMap_nil, if_true, List.append_nil]
    refine List.perm_append_comm.trans ?_
    rw [List.append_assoc]
    exact cv
  · rw [ia]
    have := p.pos i
    split <;> omega
theorem PInv.last (m : Merge N w I A B X R) (d0 : dep (2 * N - 2) = 0) {nums : List Nat} {lf : Nat → List Nat} {out : List Int} (p : PInv N dep X (N - 1) nums lf out) : out = (List.range N).map fun i => (dep i : Int) := by
  have hx := p.prm
  rw [m.last] at hx
  have hn := List.perm_singleton.1 hx
  subst hn
  have hc := p.cov
  simp only [List.flatMap_cons, List.flatMap_nil, List.append_nil] at hc
  apply List.ext_getElem
  · rw [p.len]; simp
  · intro i h1 h2
    have hi : i < N := by rw [p.len] at h1; exact h1
    have := (p.lv (2 * N - 2) (by simp) i (hc.mem_iff.2 (List.mem_range.2 hi))).2
    rw [d0, List.getD_eq_getElem?_getD, List.getElem?_eq_getElem h1] at this
    simp only [Option.getD_some] at this
    simp only [List.getElem_map, List.getElem_range]
    omega
end
end Go.Proofs.YtdagfcflbphoiaaDoor
/- The reference's depths, by the second form: they are the program's. -/
namespace Go.Proofs.YtdagfcflbphoiaaDoor
set_option linter.unusedVariables false
set_option linter.unusedSimpArgs false
open Go.RowKit Ev Hu

end Go.Proofs.YtdagfcflbphoiaaDoor
/- One round of the reference's depths, in two parts: a tree is taken; two are joined. -/
namespace Go.Proofs.YtdagfcflbphoiaaDoor
set_option linter.unusedVariables false
set_option linter.unusedSimpArgs false
open Go.RowKit Ev Hu

end Go.Proofs.YtdagfcflbphoiaaDoor
/- One round of the reference's depths: two trees are joined. -/
namespace Go.Proofs.YtdagfcflbphoiaaDoor
set_option linter.unusedVariables false
set_option linter.unusedSimpArgs false
open Go.RowKit Ev Hu

end Go.Proofs.YtdagfcflbphoiaaDoor
/- The reference's depths whole: they are the program's. -/
namespace Go.Proofs.YtdagfcflbphoiaaDoor
set_option linter.unusedVariables false
set_option linter.unusedSimpArgs false
open Go.RowKit Ev Hu

end Go.Proofs.YtdagfcflbphoiaaDoor
/- The reference's halving and lengths; the statements LensDepths and LensOf. -/
namespace Go.Proofs.YtdagfcflbphoiaaDoor
set_option linter.unusedVariables false
set_option linter.unusedSimpArgs false
open Go.RowKit Ev Hu

end Go.Proofs.YtdagfcflbphoiaaDoor
/- Layer 12 by the second form: a round. -/
namespace Go.Proofs.YtdagfcflbphoiaaDoor
set_option linter.unusedVariables false
set_option linter.unusedSimpArgs false
open Go.RowKit Ev Tb

theorem Rounds.det {r : Nat} {w l : List Int} (x : Rounds r w l) : ∀ {r' : Nat} {l' : List Int}, Rounds r' w l' → l = l' := by
  induction x with
  | stop w hW so hs =>
    intro r' l' y
    cases y with
    | stop => rfl
    | next _ _ hn _ => exact absurd hs hn
  | next hW so hs hr ih =>
    intro r' l' y
    cases y with
    | stop _ _ _ hn => exact absurd hn hs
    | next _ _ _ hr2 => exact ih hr2
/-- the lengths of counts -/
noncomputable def tbl (c : List Int) : List Int := Classical.epsilon fun l => ∃ r, Rounds r (cntL c) l ∧ r ≤ 40
theorem tbl_of {c l : List Int} {r : Nat} (h : Rounds r (cntL c) l) (hr : r ≤ 40) : l = tbl c := by
  obtain ⟨r', h', _⟩ := Classical.epsilon_spec (p := fun l => ∃ r, Rounds r (cntL c) l ∧ r ≤ 40) ⟨l, r, h, hr⟩
  exact h.det h'
section
variable (lf d n : Nat) (h : H) (hlf : 3000000 ≤ lf)
include hlf
theorem s_tbl (v : Value) (c : List Int) (hR : Row h n 3 .i64 v c) (h3 : 3 ≤ c.length) (h258 : c.length ≤ 258) (hm : allIn 0 1099511627776 c = true) (hd : 400 ≤ d) :
    Run (fun _ => False) n (evCall2 Tryd.prog gt lf d 39 #[v]) h n fun v' h' n' => ∃ v1, v' = .tuple #[v1, .int .i64 0] ∧ Row h' n' 3 .i64 v1 (tbl c) := by
  refine (s_Of_ok lf d n h v c hR h3 h258 hm hlf hd).mono ?_
  rintro v' h' n' _ ⟨v1, l, r, rfl, hr, hr2, hrow⟩
  rw [tbl_of hr hr2] at hrow
  exact ⟨v1, rfl, hrow⟩
omit hlf in
theorem tbl_ex {c : List Int} (h3 : 3 ≤ c.length) (h258 : c.length ≤ 258) (hm : allIn 0 1099511627776 c = true) : ∃ r, Rounds r (cntL c) (tbl c) ∧ r ≤ 40 := by
  obtain ⟨_, _, _, _, _, _, _, v1, l, r, _, hr, hr2, _⟩ := s_Of_ok 3000000 400 1 (H.set .nil 0 (some ⟨3, true, intsV .i64 c⟩)) _ c (Row.ofBlk (get_eq _ _ _) (Nat.lt_succ_self 0) rfl) h3 h258 hm (Nat.le_refl _) (Nat.le_refl _)
  have e := tbl_of hr hr2
  rw [e] at hr
  exact ⟨r, hr, hr2⟩
omit hlf in
theorem tbl_good {c : List Int} (h3 : 3 ≤ c.length) (h258 : c.length ≤ 258) (hm : allIn 0 1099511627776 c = true) : (tbl c).length = c.length ∧ allIn 1 20 (tbl c) = true ∧ shrL (tbl c) = 1048576 := by
  obtain ⟨r, hr, _⟩ := tbl_ex h3 h258 hm
  obtain ⟨a, b, e⟩ := hr.whole
  rw [cntL_len] at a
  exact ⟨a, b, e⟩

end
/-- tables that may be taken -/
def GoodT (s : Nat) (T : List (List Int)) : Prop := ∀ t ∈ T, t.length = s ∧ ∀ y ∈ t, 0 ≤ y ∧ y ≤ 20
/-- groups that may be -/
def GoodG (s : Nat) (gs : List (List Int)) : Prop := (∀ g ∈ gs, g.length ≤ 50 ∧ inB s g = true) ∧ gs.length ≤ 40000
noncomputable def tabsL (gs T : List (List Int)) (s : Nat) : List (List Int) := (List.range T.length).map fun p => tbl (tabC gs T s p)
def picksI (gs T : List (List Int)) : List Int := (picksL gs T).map fun (x : Nat) => (x : Int)
theorem picksL_len (gs T : List (List Int)) : (picksL gs T).length = gs.length := by unfold picksL; simp
theorem picksI_len (gs T : List (List Int)) : (picksI gs T).length = gs.length := by unfold picksI; rw [List.length_map, picksL_len]
theorem tabC_in (gs T : List (List Int)) (s p : Nat) {gs' : List (List Int)} {qs : List Nat} (hg : GoodG s gs) (hs : ∀ g ∈ gs', g ∈ gs) (hl : gs'.length ≤ gs.length) : allIn 0 1099511627776 (countsL (allP p gs' qs) s) = true := by
  refine allIn_iff.2 fun x hx => ?_
  have h1 := countsL_mem hx
  have h2 := allP_len p gs' qs fun g hg' => (hg.1 g (hs g hg')).1
  have := hg.2
  omega
theorem goodT_pick {s : Nat} {T : List (List Int)} {g : List Int} (hT : GoodT s T) (hs : s ≤ 258) (hg : inB s g = true) : ∀ t ∈ T, t.length ≤ 1000000 ∧ allIn 0 1099511627776 t = true ∧ inB t.length g = true := fun t ht => by
  obtain ⟨a, b⟩ := hT t ht
  exact ⟨by omega, allIn_iff.2 fun y hy => by have := b y hy; omega, by rw [a]; exact hg⟩
theorem tabsL_good {gs T : List (List Int)} {s : Nat} (hg : GoodG s gs) (h3 : 3 ≤ s) (h258 : s ≤ 258) : GoodT s (tabsL gs T s) := by
  intro t ht
  unfold tabsL at ht
  obtain ⟨p, _, rfl⟩ := List.mem_map.1 ht
  have hl : (tabC gs T s p).length = s := countsL_len _ _
  obtain ⟨a, b, _⟩ := tbl_good (c := tabC gs T s p) (by omega) (by omega) (tabC_in gs T s p hg (fun _ h => h) (Nat.le_refl _))
  exact ⟨by omega, fun y hy => by have := allIn_iff.1 b y hy; omega⟩
theorem tabsL_len (gs T : List (List Int)) (s : Nat) : (tabsL gs T s).length = T.length := by unfold tabsL; simp

section
variable (lf d n : Nat) (h : H) (hlf : 3000000 ≤ lf)
include hlf
set_option maxHeartbeats 1000000 in
theorem s_round (u v : Value) (gs T : List (List Int)) (s : Nat) (hG : RR h n 22 3 u gs) (hT : RR h n 22 3 v T) (hg : GoodG s gs) (ht : GoodT s T) (h0 : 0 < T.length) (h6 : T.length ≤ 6) (h3 : 3 ≤ s) (h258 : s ≤ 258) (hd : 500 ≤ d) :
    Run (fun _ => False) n (evCall2 Tryd.prog gt lf d 37 #[u, v, .int .i64 (s : Int)]) h n fun v' h' n' => ∃ x y, v' = .tuple #[x, y] ∧ Row h' n' 3 .i64 x (picksI gs T) ∧ RR h' n' 22 3 y (tabsL gs T s) := by
  obtain ⟨d, rfl⟩ : ∃ e, d = e + 8 := ⟨d - 8, by omega⟩
  rw [sh_tables_round]
  refine Run.inside_ ?_
  unfold b_tables_round
  have hG0 := hG
  have hT0 := hT
  obtain ⟨a, c, rfl⟩ := hT.len
  obtain ⟨a2, c2, rfl⟩ := hG.len
  obtain ⟨t, htt⟩ : ∃ t, T.length = t := ⟨_, rfl⟩
  rw [htt] at h0 h6 hT0 ⊢
  try simp (disch := first | omega | assumption | exact one_int _ _ | exact one_slice _ _ _ | exact one_ptr _ | exact one_bool _ | exact one_string _) only [RXA, RXB, Nat.reduceAdd, Nat.reduceLT, wrap_id, wrap_succ, wrap_pred, FX1]
  refine Ev.run_make c1x23 t t _ (Nat.le_refl _) (by omega) ?_
  try simp (disch := first | omega | assumption | exact one_int _ _ | exact one_slice _ _ _ | exact one_ptr _ | exact one_bool _ | exact one_string _) only [RXA, RXB, Nat.reduceAdd, Nat.reduceLT, wrap_id, wrap_succ, wrap_pred, FX1]
  let cel : Nat → Value := fun j => .slice (some ⟨n + 1 + j, 0, none⟩) s s
  refine run_for t (fun fu i (_ : Unit) => lpA_tables_round lf (d + 7) fu (kcA_tables_round lf (d + 7)) (.slice a2 gs.length c2) (.slice a t c) (.int .i64 (s : Nat)) (.slice none 0 0) (.slice none 0 0) (.slice none 0 0) (.slice (some ⟨n, 0, none⟩) t t) (.int .i64 (t : Nat)) (.int .i64 (i : Nat)))
    (fun i _ h' n' => n' = n + 1 + i ∧ (∀ b, b < n → h'.get b = h.get b) ∧ h'.get n = some ⟨22, true, rc cel (.slice none 0 0) t i⟩ ∧ ∀ j, j < i → h'.get (n + 1 + j) = some ⟨3, true, intsV .i64 (List.replicate s 0)⟩) ?_ ?_ lf 0 () _ _ (Nat.zero_le _) (by omega) ⟨rfl, fun b hb => get_ne _ _ (by omega), by rw [get_eq, rc_zero], fun j hj => absurd hj (Nat.not_lt_zero j)⟩
  · rintro fu _ h' n' ⟨rfl, hk, hgn, hj⟩
    rw [succA_tables_round]
    try simp (disch := first | omega | assumption | exact one_int _ _ | exact one_slice _ _ _ | exact one_ptr _ | exact one_bool _ | exact one_string _) only [RXA, RXB, Nat.reduceAdd, Nat.reduceLT, wrap_id, wrap_succ, wrap_pred, FX1, Int.lt_irrefl]
    rw [kcAa_tables_round]
    try simp (disch := first | omega | assumption | exact one_int _ _ | exact one_slice _ _ _ | exact one_ptr _ | exact one_bool _ | exact one_string _) only [RXA, RXB, Nat.reduceAdd, Nat.reduceLT, wrap_id, wrap_succ, wrap_pred, FX1]
    rw [rc_all] at hgn
    have hgl := hg.2
    -- the groups
    refine run_for gs.length (fun fu i (q : Value) => lpB_tables_round lf (d + 7) fu (kcB_tables_round lf (d + 7)) (.slice a2 gs.length c2) (.slice a t c) (.int .i64 (s : Nat)) (.slice none 0 0) (.slice none 0 0) q (.slice (some ⟨n, 0, none⟩) t t) _ _ _ (.slice a2 gs.length c2) (.int .i64 (gs.length : Nat)) (.int .i64 (i : Nat)))
      (fun i q h' n' => n < n' ∧ (∀ b, b < n → h'.get b = h.get b) ∧ Own h' (n + 1) n' 3 q (intsV .i64 ((picksI gs T).take i)) ∧ ∃ cs : List Value, h'.get n = some ⟨22, true, cs⟩ ∧ cs.length = t ∧ ∀ p, p < t → Row h' n' 3 .i64 (cs.getD p undef) (countsL (allP p (gs.take i) ((picksL gs T).take i)) s) ∧ (∀ b, InBlk (cs.getD p undef) b → ¬ InBlk q b)) ?_ ?_ lf 0 _ _ _ (Nat.zero_le _) (by omega) ⟨by omega, hk, Own.nil _ _ _ _, _, hgn, by simp, fun p hp => ⟨?_, fun b _ q => q.not_nil⟩⟩
    · rintro fu q h' n' ⟨hn, hk, hO, cs, hgc, hcl, hrow⟩
      rw [succB_tables_round]
      try simp (disch := first | omega | assumption | exact one_int _ _ | exact one_slice _ _ _ | exact one_ptr _ | exact one_bool _ | exact one_string _) only [RXA, RXB, Nat.reduceAdd, Nat.reduceLT, wrap_id, wrap_succ, wrap_pred, FX1, Int.lt_irrefl]
      rw [kcBa_tables_round]
      try simp (disch := first | omega | assumption | exact one_int _ _ | exact one_slice _ _ _ | exact one_ptr _ | exact one_bool _ | exact one_string _) only [RXA, RXB, Nat.reduceAdd, Nat.reduceLT, wrap_id, wrap_succ, wrap_pred, FX1]
      rw [List.take_of_length_le (by rw [picksI_len]; exact Nat.le_refl _)] at hO
      have hrow2 : ∀ p, p < t → Row h' n' 3 .i64 (cs.getD p undef) (tabC gs T s p) := fun p hp => by
        have := (hrow p hp).1
        rw [List.take_length, List.take_of_length_le (by rw [picksL_len]; exact Nat.le_refl _)] at this
        exact this
      have hx := hO.row
      refine run_for t (fun fu i (w : Value) => lpC_tables_round lf (d + 7) fu (kcC_tables_round lf (d + 7)) (.slice a2 gs.length c2) (.slice a t c) (.int .i64 (s : Nat)) (.slice none 0 0) (.slice none 0 0) q (.slice (some ⟨n, 0, none⟩) t t) w _ _ _ _ _ _ _ (.slice (some ⟨n, 0, none⟩) t t) (.int .i64 (t : Nat)) (.int .i64 (i : Nat)))
        (fun i w h2 n2 => n' ≤ n2 ∧ (∀ b, b < n' → h2.get b = h'.get b) ∧ OwnRR h2 n' n2 n2 22 3 w ((List.range i).map fun p => tbl (tabC gs T s p))) ?_ ?_ lf 0 _ _ _ (Nat.zero_le _) (by omega) ⟨Nat.le_refl _, fun _ _ => rfl, OwnRR.nil _ _ _ _ _ _⟩
      · rintro fu w h2 n2 ⟨hn2, hk2, hO2⟩
        rw [succC_tables_round]
        try simp (disch := first | omega | assumption | exact one_int _ _ | exact one_slice _ _ _ | exact one_ptr _ | exact one_bool _ | exact one_string _) only [RXA, RXB, Nat.reduceAdd, Nat.reduceLT, wrap_id, wrap_succ, wrap_pred, FX1, Int.lt_irrefl]
        rw [kcCa_tables_round]
        try simp (disch := first | omega | assumption | exact one_int _ _ | exact one_slice _ _ _ | exact one_ptr _ | exact one_bool _ | exact one_string _) only [RXA, RXB, Nat.reduceAdd, Nat.reduceLT, wrap_id, wrap_succ, wrap_pred, FX1]
        refine ⟨_, _, rfl, hx.keep hn2 hk2, ?_⟩
        have := hO2.rr
        unfold tabsL
        rw [htt]
        exact this
      · rintro fu i w h2 n2 hi ⟨hn2, hk2, hO2⟩ next
        have e1 : ((i : Nat) : Int) < ((t : Nat) : Int) := by omega
        have hgc2 : h2.get n = some ⟨22, true, cs⟩ := (hk2 n (by omega)).trans hgc
        have cx : cs[i]? = some (cs.getD i undef) := by rw [List.getD_eq_getElem?_getD, List.getElem?_eq_getElem (by omega)]; rfl
        have lt1 : n < n2 := by omega
        have hri := (hrow2 i hi).keep hn2 hk2
        rw [succC_tables_round]
        try simp (disch := first | omega | assumption | exact one_int _ _ | exact one_slice _ _ _ | exact one_ptr _ | exact one_bool _ | exact one_string _) only [RXA, RXB, Nat.reduceAdd, Nat.reduceLT, wrap_id, wrap_succ, wrap_pred, FX1, e1, hgc2, cx]
        refine run_call okd (s_tbl lf (d + 7) n2 h2 hlf _ _ hri (by show 3 ≤ (countsL _ _).length; rw [countsL_len]; exact h3) (by show (countsL _ _).length ≤ 258; rw [countsL_len]; exact h258) (tabC_in gs T s i hg (fun _ h => h) (Nat.le_refl _)) (by omega)) (by omega) (fun _ _ h => h.elim) fun v1 h4 n4 hn4 fr4 hq => ?_
        obtain ⟨l, rfl, hl⟩ := hq
        have hO4 := (hO2.keep hn4 fun b hb _ => fr4 b hb id).up hn4
        try simp (disch := first | omega | assumption | exact one_int _ _ | exact one_slice _ _ _ | exact one_ptr _ | exact one_bool _ | exact one_string _) only [RXA, RXB, Nat.reduceAdd, Nat.reduceLT, wrap_id, wrap_succ, wrap_pred, FX1, ext0, ext1]
        refine run_pushRR c1x23 (by decide) hO4 hl (Nat.le_refl _) (by simp; omega) (by omega) (by omega) _ fun v2 h5 o5 k5 _ => ?_
        try simp (disch := first | omega | assumption | exact one_int _ _ | exact one_slice _ _ _ | exact one_ptr _ | exact one_bool _ | exact one_string _) only [RXA, RXB, Nat.reduceAdd, Nat.reduceLT, wrap_id, wrap_succ, wrap_pred, FX1]
        refine next v2 h5 (n4 + 2) ⟨by omega, fun b hb => ?_, ?_⟩
        · rw [k5 b (by omega) fun q => by have := (hO4.lt q).1; omega, fr4 b (by omega) id]
          exact hk2 b hb
        · rw [List.range_succ, List.map_append]
          exact o5.up (by omega)
    · rintro fu i q h' n' hi ⟨hn, hk, hO, cs, hgc, hcl, hrow⟩ next
      have e1 : ((i : Nat) : Int) < ((gs.length : Nat) : Int) := by omega
      obtain ⟨b, off, cap, o, ks, hv, hgx, hb, hat⟩ := (hG0.keep (Nat.le_of_lt hn) hk).at (by omega)
      cases hv
      obtain ⟨x, hx, hrx⟩ := hat i hi
      have hT1 := hT0.keep (Nat.le_of_lt hn) hk
      have gm : gs.getD i [] ∈ gs := by rw [List.getD_eq_getElem?_getD, List.getElem?_eq_getElem hi]; exact List.getElem_mem hi
      obtain ⟨g1, g2⟩ := hg.1 _ gm
      have pl := pickL_lt (gs.getD i []) (T := T) (by omega)
      obtain ⟨p, hp⟩ : ∃ p, pickL (gs.getD i []) T = p := ⟨_, rfl⟩
      rw [hp, htt] at pl
      rw [succB_tables_round]
      try simp (disch := first | omega | assumption | exact one_int _ _ | exact one_slice _ _ _ | exact one_ptr _ | exact one_bool _ | exact one_string _) only [RXA, RXB, Nat.reduceAdd, Nat.reduceLT, wrap_id, wrap_succ, wrap_pred, FX1, e1, hgx, hx]
      refine run_same (s_pick lf d n' h' hlf x _ _ T hrx hT1 (by omega) (by omega) (goodT_pick ht h258 g2)) (by omega) (fun _ _ h => h.elim) ?_
      rw [hp]
      refine run_pushO c1x22 (one_int _ _) hO (by rw [intsV_len, List.length_take, picksI_len]; omega) (by omega) _ fun h2 hg2 hk2 => ?_
      have pn : intsV .i64 ((picksI gs T).take i) ++ [.int .i64 (p : Int)] = intsV .i64 ((picksI gs T).take (i + 1)) := by
        have : (picksI gs T).take (i + 1) = (picksI gs T).take i ++ [(p : Int)] := by
          rw [List.take_succ_eq_append_getElem (by rw [picksI_len]; exact hi)]
          congr 2
          unfold picksI picksL
          simp only [List.getElem_map]
          rw [← hp, List.getD_eq_getElem?_getD, List.getElem?_eq_getElem hi]
          rfl
        rw [this]
        unfold intsV
        rw [List.map_append]
        rfl
      rw [pn] at hg2
      have pn2 : (picksL gs T).take (i + 1) = (picksL gs T).take i ++ [p] := by
        rw [List.take_succ_eq_append_getElem (by rw [picksL_len]; exact hi)]
        congr 2
        unfold picksL
        simp only [List.getElem_map]
        rw [← hp, List.getD_eq_getElem?_getD, List.getElem?_eq_getElem hi]
        rfl
      have gn2 : gs.take (i + 1) = gs.take i ++ [gs.getD i []] := by
        rw [List.take_succ_eq_append_getElem hi, List.getD_eq_getElem?_getD, List.getElem?_eq_getElem hi]
        rfl
      have ll : (intsV .i64 ((picksI gs T).take i)).length = i := by rw [intsV_len, List.length_take, picksI_len]; omega
      rw [ll]
      have hk2' : ∀ b, b < n + 1 → h2.get b = h'.get b := fun b hb => hk2 b (by omega) fun q => by have := (hO.lt q).1; omega
      have hO2 : Own h2 (n + 1) (n' + 2) 3 (.slice (some ⟨n' + 1, 0, none⟩) (i + 1) (CAP + (i + 1))) (intsV .i64 ((picksI gs T).take (i + 1))) := Own.mk' hg2 (by omega) (by omega) (by rw [intsV_len, List.length_take, picksI_len]; omega)
      have hrx2 : Row h2 (n' + 2) 3 .i64 x (gs.getD i []) := hrx.keep' (by omega) fun c hc => hk2 c (hrx.lt hc) fun q => by
        obtain ⟨q1, q2⟩ := hO.lt q
        have := (hG0.keep (Nat.le_refl n) (fun _ _ => rfl))
        obtain ⟨b', off', cap', o', ks', hv', hgx', hb', hat'⟩ := this.at (by omega)
        cases hv'
        obtain ⟨x', hx', hrx'⟩ := hat' i hi
        rw [hk b hb', hgx'] at hgx
        cases hgx
        rw [hx'] at hx
        cases hx
        have := hrx'.lt hc
        omega
      try simp (disch := first | omega | assumption | exact one_int _ _ | exact one_slice _ _ _ | exact one_ptr _ | exact one_bool _ | exact one_string _) only [RXA, RXB, Nat.reduceAdd, Nat.reduceLT, wrap_id, wrap_succ, wrap_pred, FX1]
      refine run_call okd (s_Counts lf (d + 6) (n' + 2) h2 hlf x _ hrx2 (by omega) s h3 h258) (by omega) (fun _ _ h => h.elim) fun v3 h3' n3 hn3 fr3 hq3 => ?_
      rcases hq3 with ⟨_, m, rfl, hm⟩ | ⟨hbad, _⟩
      rotate_left
      · rw [g2] at hbad; cases hbad
      have e2 : ((p : Nat) : Int) < ((t : Nat) : Int) := by omega
      have hgc3 : h3'.get n = some ⟨22, true, cs⟩ := by rw [fr3 n (by omega) id, hk2' n (by omega)]; exact hgc
      have cx : cs[p]? = some (cs.getD p undef) := by rw [List.getD_eq_getElem?_getD, List.getElem?_eq_getElem (by omega)]; rfl
      have lt1 : n < n3 := by omega
      have keep3 : ∀ j, j < t → Row h3' n3 3 .i64 (cs.getD j undef) (countsL (allP j (gs.take i) ((picksL gs T).take i)) s) := fun j hj =>
        ((hrow j hj).1.keep' (show n' ≤ n' + 2 by omega) fun c hc => hk2 c ((hrow j hj).1.lt hc) ((hrow j hj).2 c hc)).keep hn3 fun c hc => fr3 c hc id
      try simp (disch := first | omega | assumption | exact one_int _ _ | exact one_slice _ _ _ | exact one_ptr _ | exact one_bool _ | exact one_string _) only [RXA, RXB, Nat.reduceAdd, Nat.reduceLT, wrap_id, wrap_succ, wrap_pred, FX1, ext0, ext1, e2, hgc3, cx]
      refine run_call okd (s_Add lf (d + 1) n3 h3' hlf _ _ _ _ (keep3 p pl) hm (by rw [countsL_len]; omega) (by rw [countsL_len, countsL_len]) (tabC_in gs T s p hg (fun g hg' => List.mem_of_mem_take hg') (by rw [List.length_take]; omega)) (allIn_iff.2 fun y hy => by have := countsL_mem hy; omega)) (by omega) (fun _ _ h => h.elim) fun v4 h4 n4 hn4 fr4 hq4 => ?_
      obtain ⟨z, rfl, hz, hfz⟩ := hq4
      have hgc4 : h4.get n = some ⟨22, true, cs⟩ := (fr4 n lt1 id).trans hgc3
      have lt2 : n < n4 := by omega
      have one_z : one z = true := by obtain ⟨_, _, rfl⟩ := hz.len; rfl
      try simp (disch := first | omega | assumption | exact one_int _ _ | exact one_slice _ _ _ | exact one_ptr _ | exact one_bool _ | exact one_string _) only [RXA, RXB, Nat.reduceAdd, Nat.reduceLT, wrap_id, wrap_succ, wrap_pred, FX1, ext0, ext1, e2, hgc4, one_z]
      refine ⟨by omega, .inl (Nat.le_refl _), ?_⟩
      have za := addL_counts (allP p (gs.take i) ((picksL gs T).take i)) (gs.getD i []) s (by
        have := allP_len p (gs.take i) ((picksL gs T).take i) fun g hg' => (hg.1 g (List.mem_of_mem_take hg')).1
        rw [List.length_take] at this
        omega)
      rw [za] at hz
      have rr : ∀ {y : Value} {ys : List Int} {m : Nat} (q : Row h4 m 3 .i64 y ys), Row (h4.set n (some ⟨22, true, cs.set p z⟩)) m 3 .i64 y ys := fun q => q.keep' (Nat.le_refl _) fun c hc => get_ne _ _ fun e => by
        obtain ⟨B, b1, b2⟩ := q.elem hc
        rw [e, hgc4] at b1
        cases b1
        exact absurd (show (22 : Nat) = 3 from b2) (by decide)
      have oo : Own (h4.set n (some ⟨22, true, cs.set p z⟩)) (n + 1) n4 3 (.slice (some ⟨n' + 1, 0, none⟩) (i + 1) (CAP + (i + 1))) (intsV .i64 ((picksI gs T).take (i + 1))) :=
        ((hO2.keep hn3 fun c hc => fr3 c (hO2.lt hc).2 id).keep hn4 fun c hc => fr4 c (by have := (hO2.lt hc).2; omega) id).keep (Nat.le_refl _) fun c hc => get_ne _ _ (by have := (hO2.lt hc).1; omega)
      refine next _ _ _ ⟨by omega, fun c hc => ?_, oo, cs.set p z, get_eq _ _ _, by simp [hcl], fun j hj => ?_⟩
      · rw [get_ne _ _ (by omega), fr4 c (by omega) id, fr3 c (by omega) id, hk2' c (by omega)]
        exact hk c hc
      · have al : (gs.take i).length = ((picksL gs T).take i).length := by rw [List.length_take, List.length_take, picksL_len]
        rw [gn2, pn2, allP_app j _ _ _ _ al]
        by_cases e : j = p
        · subst e
          have : (cs.set j z).getD j undef = z := by rw [List.getD_eq_getElem?_getD, List.getElem?_set_self (by omega)]; rfl
          rw [this, if_pos rfl]
          exact ⟨rr hz, fun c hc q => by have := hfz c hc; have := q.inj; omega⟩
        · have : (cs.set p z).getD j undef = cs.getD j undef := by rw [List.getD_eq_getElem?_getD, List.getElem?_set_ne (fun q => e q.symm), List.getD_eq_getElem?_getD]
          rw [this, if_neg (fun q => e q.symm), List.append_nil]
          exact ⟨rr ((keep3 j hj).keep hn4 fun c hc => fr4 c hc id), fun c hc q => by have := (hrow j hj).1.lt hc; have := q.inj; omega⟩
    · have : ((List.range t).map cel).getD p undef = cel p := map_gd _ _ hp
      rw [this]
      have e : countsL (allP p (gs.take 0) ((picksL gs T).take 0)) s = List.replicate s 0 := by
        rw [List.take_zero, List.take_zero]
        exact countsL_nil s
      rw [e]
      exact Row.ofBlk (hj p hp) (by omega) (by simp)
  · rintro fu i _ h' n' hi ⟨rfl, hk, hg', hj⟩ next
    have e2 : ((i : Nat) : Int) < ((t : Nat) : Int) := by omega
    rw [succA_tables_round]
    try simp (disch := first | omega | assumption | exact one_int _ _ | exact one_slice _ _ _ | exact one_ptr _ | exact one_bool _ | exact one_string _) only [RXA, RXB, Nat.reduceAdd, Nat.reduceLT, wrap_id, wrap_succ, wrap_pred, FX1, e2]
    refine Ev.run_make c1x22 s s _ (Nat.le_refl _) (by omega) ?_
    have hg2 : (h'.set (n + 1 + i) (some ⟨3, true, List.replicate s (.int .i64 0)⟩)).get n = some ⟨22, true, rc cel (.slice none 0 0) t i⟩ := by rw [get_ne _ _ (by omega)]; exact hg'
    have lt2 : n < n + 1 + i + 1 := by omega
    have rs := rc_set (f := cel) (z := .slice none 0 0) hi
    have hcel : cel i = .slice (some ⟨n + 1 + i, 0, none⟩) s s := rfl
    rw [hcel] at rs
    try simp (disch := first | omega | assumption | exact one_int _ _ | exact one_slice _ _ _ | exact one_ptr _ | exact one_bool _ | exact one_string _) only [RXA, RXB, Nat.reduceAdd, Nat.reduceLT, wrap_id, wrap_succ, wrap_pred, FX1, e2, hg2, rs, rc_len]
    refine ⟨hi, .inl (by omega), ?_⟩
    refine next () _ _ ⟨by omega, fun b hb => by rw [get_ne _ _ (by omega), get_ne _ _ (by omega)]; exact hk b hb, get_eq _ _ _, fun j hj3 => ?_⟩
    rw [get_ne _ _ (by omega)]
    by_cases q : j = i
    · subst q
      rw [get_eq, intsV_rep]
    · rw [get_ne _ _ (by omega)]
      exact hj j (by omega)
end
end Go.Proofs.YtdagfcflbphoiaaDoor
/- Layer 12 by the second form: the choice. -/
namespace Go.Proofs.YtdagfcflbphoiaaDoor
set_option linter.unusedVariables false
set_option linter.unusedSimpArgs false
open Go.RowKit Ev Tb

/-- the tables behind so many rounds -/
noncomputable def tabIt (xs : List Int) (s : Nat) : Nat → List (List Int)
  | 0 => firstL (countsL xs s) (xs.length : Int)
  | k + 1 => tabsL (groupsL xs) (tabIt xs s k) s
theorem tabIt_len (xs : List Int) (s : Nat) : ∀ k, (tabIt xs s k).length = numL (xs.length : Int)
  | 0 => firstL_len _ _
  | k + 1 => (tabsL_len _ _ _).trans (tabIt_len xs s k)
theorem groups_good {xs : List Int} {s : Nat} (hl : xs.length ≤ 1000000) (hin : inB s xs = true) : GoodG s (groupsL xs) := by
  refine ⟨fun g hg => ?_, by rw [groupsL_len]; unfold grpN; omega⟩
  obtain ⟨a, _, b⟩ := groups_mem hg
  exact ⟨b, inB_iff.2 fun x hx => inB_iff.1 hin x (a x hx)⟩
theorem tabIt_good {xs : List Int} {s : Nat} (hl : xs.length ≤ 1000000) (hin : inB s xs = true) (h3 : 3 ≤ s) (h258 : s ≤ 258) : ∀ k, GoodT s (tabIt xs s k)
  | 0 => fun t ht => by
    unfold tabIt firstL at ht
    obtain ⟨p, _, rfl⟩ := List.mem_map.1 ht
    exact ⟨by rw [firstT_len, countsL_len], fun y hy => by have := firstT_mem hy; omega⟩
  | k + 1 => tabsL_good (groups_good hl hin) h3 h258
section
variable (lf d n : Nat) (h : H) (hlf : 3000000 ≤ lf)
include hlf
theorem s_TablesOf (v : Value) (xs : List Int) (s : Nat) (g : Gd h n) (hR : Row h n 3 .i64 v xs) (h0 : 0 < xs.length) (hl : xs.length ≤ 1000000) (h3 : 3 ≤ s) (h258 : s ≤ 258) (hin : inB s xs = true) (hd : 600 ≤ d) :
    Run (fun _ => False) n (evCall2 Tryd.prog gt lf d 15 #[v, .int .i64 (s : Int)]) h n fun v' h' n' => ∃ x y, v' = .tuple #[.agg #[x, y], .int .i64 0] ∧ RR h' n' 22 3 x (tabIt xs s 4) ∧ Row h' n' 3 .i64 y (picksI (groupsL xs) (tabIt xs s 3)) := by
  obtain ⟨d, rfl⟩ : ∃ e, d = e + 8 := ⟨d - 8, by omega⟩
  rw [sh_tables_Of]
  refine Run.inside_ ?_
  unfold b_tables_Of
  have hR0 := hR
  obtain ⟨a, c, rfl⟩ := hR.len
  refine run_alloc zr25 _ ?_
  obtain ⟨ha, hha⟩ : ∃ ha, h.set n (some ⟨25, true, (Value.agg #[Value.slice none 0 0, Value.slice none 0 0]).cells.toList⟩) = ha := ⟨_, rfl⟩
  have ka : ∀ b, b < n → ha.get b = h.get b := fun b hb => by rw [← hha]; exact get_ne _ _ (by omega)
  have ga : ha.get n = some ⟨25, true, [.slice none 0 0, .slice none 0 0]⟩ := by rw [← hha, get_eq]; rfl
  rw [hha]
  refine run_call okd (s_Counts lf (d + 6) (n + 1) ha hlf _ xs (hR0.keep (Nat.le_succ n) ka) hl s h3 h258) (Nat.le_succ n) (fun _ _ h => h.elim) fun v1 h1 n1 hn1 fr1 hq => ?_
  rcases hq with ⟨_, u, rfl, hu⟩ | ⟨hbad, _⟩
  rotate_left
  · rw [hin] at hbad; cases hbad
  have k1 : ∀ b, b < n → h1.get b = h.get b := fun b hb => (fr1 b (by omega) id).trans (ka b hb)
  have hR1 := hR0.keep (show n ≤ n1 by omega) k1
  have z0 : (((xs.length : Nat) : Int) == 0) = false := beq_eq_false_iff_ne.2 (by omega)
  have z1 : ((0 : Int) != 0) = false := rfl
  try simp (disch := first | omega | assumption | exact one_int _ _ | exact one_slice _ _ _ | exact one_ptr _ | exact one_bool _ | exact one_string _) only [RXA, RXB, Nat.reduceAdd, Nat.reduceLT, wrap_id, wrap_succ, wrap_pred, FX1, ext0, ext1, z0, z1]
  refine run_same (s_fGroups lf (d + 6) n1 h1 xs.length (by omega)) (by omega) (fun _ _ h => h.elim) ?_
  have z2 : ¬ ((32767 : Int) < (grpN xs.length : Int)) := by unfold grpN; omega
  try simp (disch := first | omega | assumption | exact one_int _ _ | exact one_slice _ _ _ | exact one_ptr _ | exact one_bool _ | exact one_string _) only [RXA, RXB, Nat.reduceAdd, Nat.reduceLT, wrap_id, wrap_succ, wrap_pred, FX1, z2]
  refine run_call okd (s_groupsOf lf (d + 3) n1 h1 hlf _ xs hR1 hl) (by omega) (fun _ _ h => h.elim) fun vg h2 n2 hn2 fr2 hg2 => ?_
  have k2 : ∀ b, b < n → h2.get b = h.get b := fun b hb => (fr2 b (by omega) id).trans (k1 b hb)
  have hu2 := hu.keep hn2 fun b hb => fr2 b hb id
  have cm : ∀ x ∈ countsL xs s, 0 ≤ x ∧ x ≤ 1099511627776 := fun x hx => by have := countsL_mem hx; omega
  try simp (disch := first | omega | assumption | exact one_int _ _ | exact one_slice _ _ _ | exact one_ptr _ | exact one_bool _ | exact one_string _) only [RXA, RXB, Nat.reduceAdd, Nat.reduceLT, wrap_id, wrap_succ, wrap_pred, FX1]
  refine run_call okd (s_first lf (d + 5) n2 h2 hlf u (countsL xs s) (xs.length : Int) (g.keep (by omega) k2) hu2 (by rw [countsL_len]; exact h258) cm (by omega) (by omega)) (by omega) (fun _ _ h => h.elim) fun vf h3' n3 hn3 fr3 hf => ?_
  have hg3 := hg2.keep hn3 fun b hb => fr3 b hb id
  have hf0 := hf
  obtain ⟨af, cf, rfl⟩ := hf.len
  try simp (disch := first | omega | assumption | exact one_int _ _ | exact one_slice _ _ _ | exact one_ptr _ | exact one_bool _ | exact one_string _) only [RXA, RXB, Nat.reduceAdd, Nat.reduceLT, wrap_id, wrap_succ, wrap_pred, FX1]
  refine run_alloc zr25 _ ?_
  refine run_sta (cs := [.slice none 0 0, .slice none 0 0]) sz25 (vs := [.slice af (firstL (countsL xs s) (xs.length : Int)).length cf, .slice none 0 0]) rfl rfl rfl (get_eq _ _ _) (Nat.lt_succ_self n3) (Nat.le_refl _) (.inl (by omega)) _ fun h4 hg4 k4 => ?_
  have k4' : ∀ b, b < n3 → h4.get b = h3'.get b := fun b hb => by rw [k4 b (by omega), get_ne _ _ (by omega)]
  have hgr := groups_good hl hin
  have ht := tabIt_good hl hin h3 h258
  have ht2 := tabIt_len xs s
  have hn6 := numL_ge (xs.length : Int)
  have gn4 : h4.get n = some ⟨25, true, [.slice none 0 0, .slice none 0 0]⟩ := by rw [k4' n (by omega), fr3 n (by omega) id, fr2 n (by omega) id, fr1 n (by omega) id]; exact ga
  have hg4' := hg3.keep (Nat.le_succ n3) k4'
  have hf4 := hf0.keep (Nat.le_succ n3) k4'
  refine run_for 4 (fun fu i (_ : Unit) => lpA_tables_Of lf (d + 7) fu (kcA_tables_Of lf (d + 7)) (.slice a xs.length c) (.int .i64 (s : Nat)) (.pointer (some ⟨n, 0, none⟩)) (.int .i64 0) u (.int .i64 0) vg (.pointer (some ⟨n3, 0, none⟩)) (.bool false) (.bool false) (.int .i64 (i : Nat)))
    (fun i _ h' n' => n3 < n' ∧ (∀ b, b < n3 → h'.get b = h4.get b) ∧ ∃ x y, h'.get n3 = some ⟨25, true, [x, y]⟩ ∧ RR h' n' 22 3 x (tabIt xs s i) ∧ one y = true ∧ (0 < i → Row h' n' 3 .i64 y (picksI (groupsL xs) (tabIt xs s (i - 1))))) ?_ ?_ lf 0 () _ _ (Nat.zero_le _) (by omega) ⟨Nat.lt_succ_self n3, fun _ _ => rfl, _, _, hg4, hf4, rfl, fun q => absurd q (Nat.lt_irrefl 0)⟩
  · rintro fu _ h' n' ⟨hn', hk', x, y, hg', hx, hy1, hy⟩
    have z4 : ¬ (((4 : Nat) : Int) < 4) := by omega
    rw [succA_tables_Of]
    try simp (disch := first | omega | assumption | exact one_int _ _ | exact one_slice _ _ _ | exact one_ptr _ | exact one_bool _ | exact one_string _) only [RXA, RXB, Nat.reduceAdd, Nat.reduceLT, wrap_id, wrap_succ, wrap_pred, FX1, z4]
    rw [kcAa_tables_Of]
    refine run_lda aga25 sz25 _ _ _ hg' hn' (by simp) ?_
    have ga' : h'.get n = some ⟨25, true, [.slice none 0 0, .slice none 0 0]⟩ := by rw [hk' n (by omega)]; exact gn4
    have hy2 := hy (by omega)
    have hx1 : one x = true := by obtain ⟨_, _, rfl⟩ := hx.len; rfl
    refine run_sta sz25 (vs := [x, y]) rfl rfl (by simp [hx1, hy1]) ga' (by omega) (Nat.le_refl _) (.inl (Nat.le_refl _)) _ fun h5 hg5 k5 => ?_
    refine run_lda0 aga25 sz25 _ _ _ hg5 (by omega) (by simp) ?_
    have e5 : ∀ b, (∀ B, h'.get b = some B → B.elem ≠ 25) → h5.get b = h'.get b := fun b hb => k5 b fun e => by subst e; exact hb _ ga' rfl
    try simp (disch := first | omega | assumption | exact one_int _ _ | exact one_slice _ _ _ | exact one_ptr _ | exact one_bool _ | exact one_string _) only [RXA, RXB, Nat.reduceAdd, Nat.reduceLT, wrap_id, wrap_succ, wrap_pred, FX1]
    refine ⟨x, y, rfl, ?_, hy2.keep' (Nat.le_refl _) fun b hb => e5 b fun B hB e => by
      obtain ⟨B', q1, q2⟩ := hy2.elem hb
      rw [hB] at q1; cases q1
      exact absurd (show (3 : Nat) = 25 from q2.symm.trans e) (by decide)⟩
    obtain ⟨cs, r1, r2, r3⟩ := hx
    have vel : ∀ b, InBlk x b → ∃ B, h'.get b = some B ∧ B.elem = 22 := fun b hb => by
      rcases r1 with ⟨a, c, rfl, hne, _⟩ | ⟨b', off, cap, o, ks, rfl, hg, _⟩
      · obtain ⟨o, l, k, q⟩ := hb
        cases q
        exact absurd rfl (hne b o)
      · rw [hb.inj]; exact ⟨_, hg, rfl⟩
    refine ⟨cs, r1.keep (Nat.le_refl _) fun b hb => e5 b fun B hB e => ?_, r2, fun i hi => (r3 i hi).keep' (Nat.le_refl _) fun b hb => e5 b fun B hB e => ?_⟩
    · obtain ⟨B', q1, q2⟩ := vel b hb
      rw [hB] at q1; cases q1
      exact absurd (show (22 : Nat) = 25 from q2.symm.trans e) (by decide)
    · obtain ⟨B', q1, q2⟩ := (r3 i hi).elem hb
      rw [hB] at q1; cases q1
      exact absurd (show (3 : Nat) = 25 from q2.symm.trans e) (by decide)
  · rintro fu i _ h' n' hi ⟨hn', hk', x, y, hg', hx, hy1, hy⟩ next
    have e1 : ((i : Nat) : Int) < 4 := by omega
    have hx1 : one x = true := by obtain ⟨_, _, rfl⟩ := hx.len; rfl
    rw [succA_tables_Of]
    try simp (disch := first | omega | assumption | exact one_int _ _ | exact one_slice _ _ _ | exact one_ptr _ | exact one_bool _ | exact one_string _) only [RXA, RXB, Nat.reduceAdd, Nat.reduceLT, wrap_id, wrap_succ, wrap_pred, FX1, e1, hg']
    refine run_call okd (s_round lf (d + 7) n' h' hlf vg x (groupsL xs) (tabIt xs s i) s (hg3.keep (by omega) fun b hb => by rw [hk' b hb]; exact k4' b hb) hx hgr (ht i) (by rw [ht2]; omega) (by rw [ht2]; omega) h3 h258 (by omega)) (by omega) (fun _ _ h => h.elim) fun v5 h5 n5 hn5 fr5 hq5 => ?_
    obtain ⟨px, ty, rfl, hpx, hty⟩ := hq5
    have hg5 := (fr5 n3 hn' id).trans hg'
    have hpx0 := hpx
    have hty0 := hty
    obtain ⟨a6, c6, rfl⟩ := hpx.len
    obtain ⟨a7, c7, rfl⟩ := hty.len
    try simp (disch := first | omega | assumption | exact one_int _ _ | exact one_slice _ _ _ | exact one_ptr _ | exact one_bool _ | exact one_string _) only [RXA, RXB, Nat.reduceAdd, Nat.reduceLT, wrap_id, wrap_succ, wrap_pred, FX1, ext0, ext1]
    refine run_sta sz25 (vs := [.slice a7 (tabsL (groupsL xs) (tabIt xs s i) s).length c7, .slice a6 (picksI (groupsL xs) (tabIt xs s i)).length c6]) rfl rfl rfl hg5 (by omega) (Nat.le_refl _) (.inl (by omega)) _ fun h6 hg6 k6 => ?_
    have e6 : ∀ b, (∀ B, h5.get b = some B → B.elem ≠ 25) → h6.get b = h5.get b := fun b hb => k6 b fun e => by subst e; exact hb _ hg5 rfl
    try simp (disch := first | omega | assumption | exact one_int _ _ | exact one_slice _ _ _ | exact one_ptr _ | exact one_bool _ | exact one_string _) only [RXA, RXB, Nat.reduceAdd, Nat.reduceLT, wrap_id, wrap_succ, wrap_pred, FX1]
    refine next () h6 n5 ⟨by omega, fun b hb => by rw [k6 b (by omega), fr5 b (by omega) id]; exact hk' b hb, _, _, hg6, ?_, rfl, fun _ => ?_⟩
    · obtain ⟨cs, r1, r2, r3⟩ := hty0
      refine ⟨cs, r1.keep (Nat.le_refl _) fun b hb => e6 b fun B hB e => ?_, r2, fun i hi => (r3 i hi).keep' (Nat.le_refl _) fun b hb => e6 b fun B hB e => ?_⟩
      · rcases r1 with ⟨a, c, q, hne, _⟩ | ⟨b', off, cap, o, ks, q, hg, _⟩
        · obtain ⟨o, l, k, q2⟩ := hb
          rw [q2] at q
          cases q
          exact absurd rfl (hne b o)
        · rw [q] at hb
          rw [hb.inj, hg] at hB
          cases hB
          exact absurd (show (22 : Nat) = 25 from e) (by decide)
      · obtain ⟨B', q1, q2⟩ := (r3 i hi).elem hb
        rw [hB] at q1; cases q1
        exact absurd (show (3 : Nat) = 25 from q2.symm.trans e) (by decide)
    · exact hpx0.keep' (Nat.le_refl _) fun b hb => e6 b fun B hB e => by
        obtain ⟨B', q1, q2⟩ := hpx0.elem hb
        rw [hB] at q1; cases q1
        exact absurd (show (3 : Nat) = 25 from q2.symm.trans e) (by decide)
end
end Go.Proofs.YtdagfcflbphoiaaDoor
/- Layer 12 by the second form: the reference's tables at first, and its choice. -/
namespace Go.Proofs.YtdagfcflbphoiaaDoor
set_option linter.unusedVariables false
set_option linter.unusedSimpArgs false
open Go.RowKit Ev Tb

section
variable (lf d n : Nat) (h : H) (hlf : 3000000 ≤ lf)
include hlf
end
end Go.Proofs.YtdagfcflbphoiaaDoor
/- Layer 12 by the second form: the reference's choice. -/
namespace Go.Proofs.YtdagfcflbphoiaaDoor
set_option linter.unusedVariables false
set_option linter.unusedSimpArgs false
open Go.RowKit Ev Tb

theorem picksI_at {gs T : List (List Int)} {i : Nat} (hi : i < gs.length) : (picksI gs T).getD i 0 = (pickL (gs.getD i []) T : Int) := by
  have h1 : i < (picksI gs T).length := by rw [picksI_len]; exact hi
  have : (picksI gs T)[i] = (pickL gs[i] T : Int) := by unfold picksI picksL; simp
  rw [List.getD_eq_getElem?_getD, List.getElem?_eq_getElem h1, Option.getD_some, this, List.getD_eq_getElem?_getD, List.getElem?_eq_getElem hi]
  rfl
section
variable (lf d n : Nat) (h : H) (hlf : 3000000 ≤ lf)
include hlf
end
end Go.Proofs.YtdagfcflbphoiaaDoor
/- Layer 12 by the second form: which choices are the same. -/
namespace Go.Proofs.YtdagfcflbphoiaaDoor
set_option linter.unusedVariables false
set_option linter.unusedSimpArgs false
open Go.RowKit Ev Tb

section
variable (lf d n : Nat) (h : H)
/-- a choice: its tables and its picks -/
structure Choi (h : H) (n : Nat) (v : Value) (L : List (List Int)) (K : List Int) : Prop where
  ex : ∃ x y, v = .agg #[x, y] ∧ RR h n 22 3 x L ∧ Row h n 3 .i64 y K
theorem Choi.keep {h h' : H} {n n' : Nat} {v : Value} {L : List (List Int)} {K : List Int} (x : Choi h n v L K) (hn : n ≤ n') (hk : ∀ b, b < n → h'.get b = h.get b) : Choi h' n' v L K := by
  obtain ⟨x, y, hv, h1, h2⟩ := x.ex
  exact ⟨x, y, hv, h1.keep hn hk, h2.keep hn hk⟩
end
end Go.Proofs.YtdagfcflbphoiaaDoor
/- The statements TablesOf and TablesSame. -/
namespace Go.Proofs.YtdagfcflbphoiaaDoor
set_option linter.unusedVariables false
set_option linter.unusedSimpArgs false
open Go.RowKit Ev Tb

theorem the_law' {f : FuncId} {ts : List TypeId} {vs : List Value} {w : World} {lf d : Nat} (hw : Ev.GlobAt w) (ha : All2 (ArgR Tryd.prog w) ts vs) (r : ∀ n h vs0, Gd h n → All2 (ArgH Tryd.prog h n) ts vs0 → Run (fun _ => False) n (evCall2 Tryd.prog gt lf d f vs0.toArray) h n fun v _ _ => v = .bool true) :
    Calls Tryd.prog f vs.toArray w fun e w' => e = .returned (.bool true) ∧ Below w.heap.size w w' := by
  obtain ⟨m, x⟩ := laid_hG hw
  exact Ev.law_of ev_names ev_progK ev_mix known okd ha x fun n h vs0 hn hg q => r n h vs0 (Gd.of hn (by rw [hg _ (by decide +kernel)]; exact get_eq _ _ _)) q
theorem ct_ints : cellTs Tryd.prog 8 22 = some [22] := by kernel_rfl
theorem ct_int : cellTs Tryd.prog 8 3 = some [3] := by kernel_rfl
theorem ag_ints : isAggT Tryd.prog 22 = false := by kernel_rfl
theorem ag_int : isAggT Tryd.prog 3 = false := by kernel_rfl
theorem a_row {h : H} {n : Nat} {v : Value} (x : ArgH Tryd.prog h n 22 v) : ∃ xs, Row h n 3 .i64 v xs ∧ xs.length ≤ 9223372036854775807 ∧ ∀ y ∈ xs, -9223372036854775808 ≤ y ∧ y ≤ 9223372036854775807 := by
  obtain ⟨xs, h1, h2, h3⟩ := rep_row (f := 6) Tryd.underlying22 ct_int Tryd.underlying3 (argH_cell ct_ints ag_ints x)
  exact ⟨xs, h1, h2, fun y hy => wf64 (h3 y hy)⟩
theorem a_num {h : H} {n : Nat} {v : Value} (x : ArgH Tryd.prog h n 3 v) : ∃ i, v = .int .i64 i ∧ -9223372036854775808 ≤ i ∧ i ≤ 9223372036854775807 := by
  obtain ⟨i, h1, h2⟩ := rep_int (f := 7) Tryd.underlying3 (argH_cell ct_int ag_int x)
  exact ⟨i, h1, wf64 h2⟩
theorem Choi.agg {h : H} {n : Nat} {v : Value} {L : List (List Int)} {K : List Int} (x : Choi h n v L K) : ∃ a c a2 c2, v = .agg #[.slice a L.length c, .slice a2 K.length c2] ∧ RR h n 22 3 (.slice a L.length c) L ∧ Row h n 3 .i64 (.slice a2 K.length c2) K := by
  obtain ⟨x, y, rfl, h1, h2⟩ := x.ex
  have h10 := h1
  have h20 := h2
  obtain ⟨a, c, rfl⟩ := h1.len
  obtain ⟨a2, c2, rfl⟩ := h2.len
  exact ⟨a, c, a2, c2, rfl, h10, h20⟩
section
variable (lf d n : Nat) (h : H)
variable (hlf : 3000000 ≤ lf) (hd : 700 ≤ d)
include hlf hd
end
end Go.Proofs.YtdagfcflbphoiaaDoor

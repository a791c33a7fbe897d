/- Layer 23: what a press tells that has not gone a step. -/
import Derived.Test.YthhhkplbjcknkaaGreatDoorQb
namespace Go.Proofs.YthhhkplbjcknkaaGreatDoor
set_option linter.unusedVariables false
set_option linter.unusedSimpArgs false
open Go.RowKit Ev
section
variable {lf d n : Nat} {h : H}
theorem s_Row {q a b : Nat} (gq : h.get q = some (pkB a b)) (hq : q < n) : Run (fun _ => False) n (evCall2 Tryz.prog gt lf (d + 1) 121 #[.pointer (some ⟨q, 0, none⟩)]) h n fun v _ _ => v = .agg #[.int .u8 (a : Int), .int .i64 (b : Int)] := by
  rw [sh_feed_Packer_Row]
  refine Run.inside_ ?_
  unfold b_feed_Packer_Row
  refine run_alloc zr166 _ ?_
  try simp (disch := first | omega | assumption | exact one_int _ _ | exact one_slice _ _ _ | exact one_ptr _ | exact one_bool _ | exact one_string _) only [RXA, RXB, Nat.reduceAdd, Nat.reduceLT, wrap_id, wrap_succ, wrap_pred, FX1, FX2, FX3, Int.reduceBEq, Int.reduceBNe, Int.reduceLT, Int.reduceLE, Int.reduceEq, Int.reduceNe, Int.reduceAdd, Int.reduceSub, Int.reduceMul, Int.reduceNeg]
  have g1 : ∀ B : Option AB, (h.set n B).get q = some (pkB a b) := fun B => by rw [get_ne _ _ (by omega)]; exact gq
  unfold pkB at g1
  refine run_lda aga166 sz166 _ _ _ (g1 _) (by omega) (by simp) ?_
  refine run_sta sz166 (vs := [.int .u8 (a : Int), .int .i64 (b : Int)]) rfl rfl rfl (get_eq _ _ _) (by omega) (by simp) (.inl (Nat.le_refl _)) _ fun h' gn _ => ?_
  refine run_lda0 aga166 sz166 _ _ _ gn (by omega) (by simp) ?_
  try simp (disch := first | omega | assumption | exact one_int _ _ | exact one_slice _ _ _ | exact one_ptr _ | exact one_bool _ | exact one_string _) only [RXA, RXB, Nat.reduceAdd, Nat.reduceLT, wrap_id, wrap_succ, wrap_pred, FX1, FX2, FX3, Int.reduceBEq, Int.reduceBNe, Int.reduceLT, Int.reduceLE, Int.reduceEq, Int.reduceNe, Int.reduceAdd, Int.reduceSub, Int.reduceMul, Int.reduceNeg]
  rfl
theorem s_spHeld {p c q : Nat} {room : Int} (gp : h.get p = some (spB c q room)) (hp : p < n) (gq : h.get q = some (pkB 0 0)) (hq : q < n) : Run (fun _ => False) n (evCall2 Tryz.prog gt lf (d + 2) 73 #[.pointer (some ⟨p, 0, none⟩)]) h n fun v _ _ => v = .int .i64 0 := by
  rw [sh_split_Splitter_Held]
  refine Run.inside_ ?_
  unfold b_split_Splitter_Held
  unfold spB at gp
  try simp (disch := first | omega | assumption | exact one_int _ _ | exact one_slice _ _ _ | exact one_ptr _ | exact one_bool _ | exact one_string _) only [RXA, RXB, Nat.reduceAdd, Nat.reduceLT, wrap_id, wrap_succ, wrap_pred, FX1, FX2, FX3, Int.reduceBEq, Int.reduceBNe, Int.reduceLT, Int.reduceLE, Int.reduceEq, Int.reduceNe, Int.reduceAdd, Int.reduceSub, Int.reduceMul, Int.reduceNeg, gp]
  refine timed_ldB ag133 _ _ _ gp hp (Nat.le_refl _) rfl fun T0 r0 => ?_
  try simp (disch := first | omega | assumption | exact one_int _ _ | exact one_slice _ _ _ | exact one_ptr _ | exact one_bool _ | exact one_string _) only [RXA, RXB, Nat.reduceAdd, Nat.reduceLT, wrap_id, wrap_succ, wrap_pred, FX1, FX2, FX3, Int.reduceBEq, Int.reduceBNe, Int.reduceLT, Int.reduceLE, Int.reduceEq, Int.reduceNe, Int.reduceAdd, Int.reduceSub, Int.reduceMul, Int.reduceNeg]
  refine timed_ldB ag161 _ _ _ gp hp (Nat.le_refl _) rfl fun T1 r1 => ?_
  try simp (disch := first | omega | assumption | exact one_int _ _ | exact one_slice _ _ _ | exact one_ptr _ | exact one_bool _ | exact one_string _) only [RXA, RXB, Nat.reduceAdd, Nat.reduceLT, wrap_id, wrap_succ, wrap_pred, FX1, FX2, FX3, Int.reduceBEq, Int.reduceBNe, Int.reduceLT, Int.reduceLE, Int.reduceEq, Int.reduceNe, Int.reduceAdd, Int.reduceSub, Int.reduceMul, Int.reduceNeg]
  refine timed_callB okd (s_Row gq hq) (Nat.le_refl _) ?_
  rintro _ h1 n1 T2 hn1 fr rfl r2
  have e1 : ¬ ((1 : Int) < 0) := by decide
  try simp (disch := first | omega | assumption | exact one_int _ _ | exact one_slice _ _ _ | exact one_ptr _ | exact one_bool _ | exact one_string _) only [RXA, RXB, Nat.reduceAdd, Nat.reduceLT, wrap_id, wrap_succ, wrap_pred, FX1, FX2, FX3, Int.reduceBEq, Int.reduceBNe, Int.reduceLT, Int.reduceLE, Int.reduceEq, Int.reduceNe, Int.reduceAdd, Int.reduceSub, Int.reduceMul, Int.reduceNeg, r0.clash r2, e1, Int.natCast_zero]
theorem s_tnHeld : evCall2 Tryz.prog gt lf (d + 1) 74 #[.pointer none] = M.ret (.int .i64 0) := by kernel_rfl
theorem s_pHeld (hlf : 1 ≤ lf) {n0 p l : Nat} {win : Int} {s : List UInt8} {en fl : Bool} (x : PrAt h n n0 p win s en fl (.slice none 0 0) l) (hs : s.length ≤ 1048576) : Run (fun _ => False) n (evCall2 Tryz.prog gt lf (d + 3) 27 #[.pointer (some ⟨p, 0, none⟩)]) h n fun v _ _ => v = .int .i64 ((s.length : Int) + 4) := by
  obtain ⟨sp, c, q, st, room, gp, gsp, gq, _, _, _, _, _, _, hp, hsp, hq⟩ := x.ex
  rw [sh_press_Press_Held]
  refine Run.inside_ ?_
  unfold b_press_Press_Held
  unfold prB at gp
  try simp (disch := first | omega | assumption | exact one_int _ _ | exact one_slice _ _ _ | exact one_ptr _ | exact one_bool _ | exact one_string _) only [RXA, RXB, Nat.reduceAdd, Nat.reduceLT, wrap_id, wrap_succ, wrap_pred, FX1, FX2, FX3, Int.reduceBEq, Int.reduceBNe, Int.reduceLT, Int.reduceLE, Int.reduceEq, Int.reduceNe, Int.reduceAdd, Int.reduceSub, Int.reduceMul, Int.reduceNeg, gp]
  refine timed_ldB ag9 _ _ _ gp hp (Nat.le_refl _) rfl fun T0 r0 => ?_
  try simp (disch := first | omega | assumption | exact one_int _ _ | exact one_slice _ _ _ | exact one_ptr _ | exact one_bool _ | exact one_string _) only [RXA, RXB, Nat.reduceAdd, Nat.reduceLT, wrap_id, wrap_succ, wrap_pred, FX1, FX2, FX3, Int.reduceBEq, Int.reduceBNe, Int.reduceLT, Int.reduceLE, Int.reduceEq, Int.reduceNe, Int.reduceAdd, Int.reduceSub, Int.reduceMul, Int.reduceNeg]
  refine timed_ldB ag101 _ _ _ gp hp (Nat.le_refl _) rfl fun T1 r1 => ?_
  try simp (disch := first | omega | assumption | exact one_int _ _ | exact one_slice _ _ _ | exact one_ptr _ | exact one_bool _ | exact one_string _) only [RXA, RXB, Nat.reduceAdd, Nat.reduceLT, wrap_id, wrap_succ, wrap_pred, FX1, FX2, FX3, Int.reduceBEq, Int.reduceBNe, Int.reduceLT, Int.reduceLE, Int.reduceEq, Int.reduceNe, Int.reduceAdd, Int.reduceSub, Int.reduceMul, Int.reduceNeg]
  refine timed_callB okd (s_spHeld gsp hsp gq hq) (Nat.le_refl _) ?_
  rintro _ h1 n1 T2 hn1 fr rfl r2
  have gp1 : h1.get p = some ⟨109, true, [.int .i64 win, .string ⟨s.toArray⟩, .bool en, .pointer (some ⟨sp, 0, none⟩), .bool fl, .slice none 0 0, .pointer none, .int .i64 0, .pointer (some ⟨st, 0, none⟩), .string ⟨(hd4 l).toArray⟩, .bool false, .int .i64 0]⟩ := by rw [fr p hp, gp]
  try simp (disch := first | omega | assumption | exact one_int _ _ | exact one_slice _ _ _ | exact one_ptr _ | exact one_bool _ | exact one_string _) only [RXA, RXB, Nat.reduceAdd, Nat.reduceLT, wrap_id, wrap_succ, wrap_pred, FX1, FX2, FX3, Int.reduceBEq, Int.reduceBNe, Int.reduceLT, Int.reduceLE, Int.reduceEq, Int.reduceNe, Int.reduceAdd, Int.reduceSub, Int.reduceMul, Int.reduceNeg]
  refine timed_ldB ag107 _ _ _ gp1 hp hn1 rfl fun T3 r3 => ?_
  try simp (disch := first | omega | assumption | exact one_int _ _ | exact one_slice _ _ _ | exact one_ptr _ | exact one_bool _ | exact one_string _) only [RXA, RXB, Nat.reduceAdd, Nat.reduceLT, wrap_id, wrap_succ, wrap_pred, FX1, FX2, FX3, Int.reduceBEq, Int.reduceBNe, Int.reduceLT, Int.reduceLE, Int.reduceEq, Int.reduceNe, Int.reduceAdd, Int.reduceSub, Int.reduceMul, Int.reduceNeg]
  rw [s_tnHeld]
  try simp (disch := first | omega | assumption | exact one_int _ _ | exact one_slice _ _ _ | exact one_ptr _ | exact one_bool _ | exact one_string _) only [RXA, RXB, Nat.reduceAdd, Nat.reduceLT, wrap_id, wrap_succ, wrap_pred, FX1, FX2, FX3, Int.reduceBEq, Int.reduceBNe, Int.reduceLT, Int.reduceLE, Int.reduceEq, Int.reduceNe, Int.reduceAdd, Int.reduceSub, Int.reduceMul, Int.reduceNeg]
  refine timed_retB _ _ hn1 fun T4 r4 => ?_
  try simp (disch := first | omega | assumption | exact one_int _ _ | exact one_slice _ _ _ | exact one_ptr _ | exact one_bool _ | exact one_string _) only [RXA, RXB, Nat.reduceAdd, Nat.reduceLT, wrap_id, wrap_succ, wrap_pred, FX1, FX2, FX3, Int.reduceBEq, Int.reduceBNe, Int.reduceLT, Int.reduceLE, Int.reduceEq, Int.reduceNe, Int.reduceAdd, Int.reduceSub, Int.reduceMul, Int.reduceNeg]
  refine timed_ldB ag9 _ _ _ gp1 hp hn1 rfl fun T5 r5 => ?_
  have h4 : (hd4 l).length = 4 := rfl
  try simp (disch := first | omega | assumption | exact one_int _ _ | exact one_slice _ _ _ | exact one_ptr _ | exact one_bool _ | exact one_string _) only [RXA, RXB, Nat.reduceAdd, Nat.reduceLT, wrap_id, wrap_succ, wrap_pred, FX1, FX2, FX3, Int.reduceBEq, Int.reduceBNe, Int.reduceLT, Int.reduceLE, Int.reduceEq, Int.reduceNe, Int.reduceAdd, Int.reduceSub, Int.reduceMul, Int.reduceNeg, gp1, r0.clash r2, r0.clash r4, r2.clash r3, r2.clash r5, r4.clash r5, r2.clash r4, r0.clash r5, r0.clash r3, r3.clash r5, h4]
  have go : ∀ F, 1 ≤ F → Run (fun _ => False) n (lpA_press_Press_Held lf (d + 2) F (kcA_press_Press_Held lf (d + 2)) (.pointer (some ⟨p, 0, none⟩)) (.int .i64 0) (.int .i64 ((s.length : Int) + 0 + 0 + ((4 : Nat) : Int))) (.bool false) (.slice none 0 0) (.int .i64 ((0 : Nat) : Int)) (.int .i64 0)) h1 n1 fun v _ _ => v = .int .i64 ((s.length : Int) + 4) := by
    intro F hF
    obtain ⟨F, rfl⟩ : ∃ f, F = f + 1 := ⟨F - 1, by omega⟩
    rw [succA_press_Press_Held]
    have e0 : ¬ ((0 : Int) < ((0 : Nat) : Int)) := by omega
    try simp (disch := first | omega | assumption | exact one_int _ _ | exact one_slice _ _ _ | exact one_ptr _ | exact one_bool _ | exact one_string _) only [RXA, RXB, Nat.reduceAdd, Nat.reduceLT, wrap_id, wrap_succ, wrap_pred, FX1, FX2, FX3, Int.reduceBEq, Int.reduceBNe, Int.reduceLT, Int.reduceLE, Int.reduceEq, Int.reduceNe, Int.reduceAdd, Int.reduceSub, Int.reduceMul, Int.reduceNeg, e0]
    rw [kcAa_press_Press_Held]
    try simp (disch := first | omega | assumption | exact one_int _ _ | exact one_slice _ _ _ | exact one_ptr _ | exact one_bool _ | exact one_string _) only [RXA, RXB, Nat.reduceAdd, Nat.reduceLT, wrap_id, wrap_succ, wrap_pred, FX1, FX2, FX3, Int.reduceBEq, Int.reduceBNe, Int.reduceLT, Int.reduceLE, Int.reduceEq, Int.reduceNe, Int.reduceAdd, Int.reduceSub, Int.reduceMul, Int.reduceNeg]
    congr 1
  exact go lf hlf
theorem s_pWaiting {n0 p l : Nat} {win : Int} {s : List UInt8} {en fl : Bool} {bl : Value} (x : PrAt h n n0 p win s en fl bl l) : Run (fun _ => False) n (evCall2 Tryz.prog gt lf (d + 1) 32 #[.pointer (some ⟨p, 0, none⟩)]) h n fun v h' n' => v = .int .i64 4 ∧ h' = h ∧ n' = n := by
  obtain ⟨sp, c, q, st, room, gp, _, _, _, _, _, _, _, _, hp, _⟩ := x.ex
  rw [sh_press_Press_Waiting]
  refine Run.inside_ ?_
  unfold b_press_Press_Waiting
  unfold prB at gp
  have h4 : (((hd4 l).length : Nat) : Int) = 4 := rfl
  try simp (disch := first | omega | assumption | exact one_int _ _ | exact one_slice _ _ _ | exact one_ptr _ | exact one_bool _ | exact one_string _) only [RXA, RXB, Nat.reduceAdd, Nat.reduceLT, wrap_id, wrap_succ, wrap_pred, FX1, FX2, FX3, Int.reduceBEq, Int.reduceBNe, Int.reduceLT, Int.reduceLE, Int.reduceEq, Int.reduceNe, Int.reduceAdd, Int.reduceSub, Int.reduceMul, Int.reduceNeg, gp, h4]
theorem s_pDone {n0 p l : Nat} {win : Int} {s : List UInt8} {en fl : Bool} {bl : Value} (x : PrAt h n n0 p win s en fl bl l) : Run (fun _ => False) n (evCall2 Tryz.prog gt lf (d + 1) 33 #[.pointer (some ⟨p, 0, none⟩)]) h n fun v h' n' => v = .bool false ∧ h' = h ∧ n' = n := by
  obtain ⟨sp, c, q, st, room, gp, _, _, _, _, _, _, _, _, hp, _⟩ := x.ex
  rw [sh_press_Press_Done]
  refine Run.inside_ ?_
  unfold b_press_Press_Done
  unfold prB at gp
  try simp (disch := first | omega | assumption | exact one_int _ _ | exact one_slice _ _ _ | exact one_ptr _ | exact one_bool _ | exact one_string _) only [RXA, RXB, Nat.reduceAdd, Nat.reduceLT, wrap_id, wrap_succ, wrap_pred, FX1, FX2, FX3, Int.reduceBEq, Int.reduceBNe, Int.reduceLT, Int.reduceLE, Int.reduceEq, Int.reduceNe, Int.reduceAdd, Int.reduceSub, Int.reduceMul, Int.reduceNeg, gp]
theorem s_pSteps {n0 p l : Nat} {win : Int} {s : List UInt8} {en fl : Bool} {bl : Value} (x : PrAt h n n0 p win s en fl bl l) : Run (fun _ => False) n (evCall2 Tryz.prog gt lf (d + 1) 34 #[.pointer (some ⟨p, 0, none⟩)]) h n fun v h' n' => v = .int .i64 0 ∧ h' = h ∧ n' = n := by
  obtain ⟨sp, c, q, st, room, gp, _, _, _, _, _, _, _, _, hp, _⟩ := x.ex
  rw [sh_press_Press_Steps]
  refine Run.inside_ ?_
  unfold b_press_Press_Steps
  unfold prB at gp
  try simp (disch := first | omega | assumption | exact one_int _ _ | exact one_slice _ _ _ | exact one_ptr _ | exact one_bool _ | exact one_string _) only [RXA, RXB, Nat.reduceAdd, Nat.reduceLT, wrap_id, wrap_succ, wrap_pred, FX1, FX2, FX3, Int.reduceBEq, Int.reduceBNe, Int.reduceLT, Int.reduceLE, Int.reduceEq, Int.reduceNe, Int.reduceAdd, Int.reduceSub, Int.reduceMul, Int.reduceNeg, gp]
theorem s_whole {n0 p l : Nat} {win : Int} {s : List UInt8} {en fl : Bool} (x : PrAt h n n0 p win s en fl (.slice none 0 0) l) : Run (fun _ => False) n (evCall2 Tryz.prog gt lf (d + 1) 76 #[.pointer (some ⟨p, 0, none⟩)]) h n fun v h' n' => v = .bool false ∧ h' = h ∧ n' = n := by
  obtain ⟨sp, c, q, st, room, gp, _, _, _, _, _, _, _, _, hp, _⟩ := x.ex
  rw [sh_press_Press_whole]
  refine Run.inside_ ?_
  unfold b_press_Press_whole
  unfold prB at gp
  try simp (disch := first | omega | assumption | exact one_int _ _ | exact one_slice _ _ _ | exact one_ptr _ | exact one_bool _ | exact one_string _) only [RXA, RXB, Nat.reduceAdd, Nat.reduceLT, wrap_id, wrap_succ, wrap_pred, FX1, FX2, FX3, Int.reduceBEq, Int.reduceBNe, Int.reduceLT, Int.reduceLE, Int.reduceEq, Int.reduceNe, Int.reduceAdd, Int.reduceSub, Int.reduceMul, Int.reduceNeg, gp, Int.natCast_zero]
theorem s_writes {n0 p l : Nat} {win : Int} {s : List UInt8} {en fl : Bool} (x : PrAt h n n0 p win s en fl (.slice none 0 0) l) : Run (fun _ => False) n (evCall2 Tryz.prog gt lf (d + 2) 75 #[.pointer (some ⟨p, 0, none⟩)]) h n fun v h' n' => v = .bool fl ∧ h' = h ∧ n' = n := by
  have x0 := x
  obtain ⟨sp, c, q, st, room, gp, _, _, _, _, _, _, _, _, hp, _⟩ := x.ex
  rw [sh_press_Press_writes]
  refine Run.inside_ ?_
  unfold b_press_Press_writes
  unfold prB at gp
  refine run_same (s_whole x0) (Nat.le_refl _) (fun _ _ h => h.elim) ?_
  try simp (disch := first | omega | assumption | exact one_int _ _ | exact one_slice _ _ _ | exact one_ptr _ | exact one_bool _ | exact one_string _) only [RXA, RXB, Nat.reduceAdd, Nat.reduceLT, wrap_id, wrap_succ, wrap_pred, FX1, FX2, FX3, Int.reduceBEq, Int.reduceBNe, Int.reduceLT, Int.reduceLE, Int.reduceEq, Int.reduceNe, Int.reduceAdd, Int.reduceSub, Int.reduceMul, Int.reduceNeg, gp]
theorem s_pStopped {n0 p l : Nat} {win : Int} {s : List UInt8} {en : Bool} (x : PrAt h n n0 p win s en false (.slice none 0 0) l) : Run (fun _ => False) n (evCall2 Tryz.prog gt lf (d + 3) 28 #[.pointer (some ⟨p, 0, none⟩)]) h n fun v h' n' => v = .bool (decide (s = [])) ∧ h' = h ∧ n' = n := by
  have x0 := x
  obtain ⟨sp, c, q, st, room, gp, _, _, _, _, _, _, _, _, hp, _⟩ := x.ex
  rw [sh_press_Press_Stopped]
  refine Run.inside_ ?_
  unfold b_press_Press_Stopped
  unfold prB at gp
  try simp (disch := first | omega | assumption | exact one_int _ _ | exact one_slice _ _ _ | exact one_ptr _ | exact one_bool _ | exact one_string _) only [RXA, RXB, Nat.reduceAdd, Nat.reduceLT, wrap_id, wrap_succ, wrap_pred, FX1, FX2, FX3, Int.reduceBEq, Int.reduceBNe, Int.reduceLT, Int.reduceLE, Int.reduceEq, Int.reduceNe, Int.reduceAdd, Int.reduceSub, Int.reduceMul, Int.reduceNeg, gp]
  refine run_same (s_writes x0) (Nat.le_refl _) (fun _ _ h => h.elim) ?_
  try simp (disch := first | omega | assumption | exact one_int _ _ | exact one_slice _ _ _ | exact one_ptr _ | exact one_bool _ | exact one_string _) only [RXA, RXB, Nat.reduceAdd, Nat.reduceLT, wrap_id, wrap_succ, wrap_pred, FX1, FX2, FX3, Int.reduceBEq, Int.reduceBNe, Int.reduceLT, Int.reduceLE, Int.reduceEq, Int.reduceNe, Int.reduceAdd, Int.reduceSub, Int.reduceMul, Int.reduceNeg, gp]
  refine run_same (s_whole x0) (Nat.le_refl _) (fun _ _ h => h.elim) ?_
  try simp (disch := first | omega | assumption | exact one_int _ _ | exact one_slice _ _ _ | exact one_ptr _ | exact one_bool _ | exact one_string _) only [RXA, RXB, Nat.reduceAdd, Nat.reduceLT, wrap_id, wrap_succ, wrap_pred, FX1, FX2, FX3, Int.reduceBEq, Int.reduceBNe, Int.reduceLT, Int.reduceLE, Int.reduceEq, Int.reduceNe, Int.reduceAdd, Int.reduceSub, Int.reduceMul, Int.reduceNeg, gp, eS0]
theorem s_Most {r : Int} (h1 : 5 ≤ r) (h2 : r ≤ 900000) : Run (fun _ => False) n (evCall2 Tryz.prog gt lf (d + 1) 60 #[.int .i64 r]) h n fun v h' n' => v = .int .i64 (12000 + 3 * r) ∧ h' = h ∧ n' = n := by
  rw [sh_stream_Most]
  refine Run.inside_ ?_
  unfold b_stream_Most
  have e1 : ¬ r < 5 := by omega
  have e2 : ¬ (900000 : Int) < r := by omega
  try simp (disch := first | omega | assumption | exact one_int _ _ | exact one_slice _ _ _ | exact one_ptr _ | exact one_bool _ | exact one_string _) only [RXA, RXB, Nat.reduceAdd, Nat.reduceLT, wrap_id, wrap_succ, wrap_pred, FX1, FX2, FX3, Int.reduceBEq, Int.reduceBNe, Int.reduceLT, Int.reduceLE, Int.reduceEq, Int.reduceNe, Int.reduceAdd, Int.reduceSub, Int.reduceMul, Int.reduceNeg, e1, e2]
theorem s_pNeed {l u w : Int} (h0 : (1 ≤ l ∧ l ≤ 9 ∧ 24 ≤ u ∧ u ≤ 100000) ∧ winB w = true) : Run (fun _ => False) n (evCall2 Tryz.prog gt lf (d + 2) 35 #[.int .i64 l, .int .i64 u, .int .i64 w]) h n fun v h' n' => v = .tuple #[.int .i64 (w + 8 * (l * u - 19) + (12000 + 3 * (l * u - 19)) + 1024), .int .i64 0] ∧ h' = h ∧ n' = n := by
  obtain ⟨⟨h1, h2, h3, h4⟩, h5⟩ := h0
  have q1 : l * u ≤ 9 * u := Int.mul_le_mul_of_nonneg_right h2 (by omega)
  have q2 : 1 * u ≤ l * u := Int.mul_le_mul_of_nonneg_right h1 (by omega)
  have h6 := h5
  unfold winB at h6
  simp only [decide_eq_true_eq] at h6
  rw [sh_press_Need]
  refine Run.inside_ ?_
  unfold b_press_Need
  refine run_same (s_Room_ok n h h1 h2 h3 h4) (Nat.le_refl _) (fun _ _ h => h.elim) ?_
  rw [ext0, ext1]
  generalize l * u = r at *
  try simp (disch := first | omega | assumption | exact one_int _ _ | exact one_slice _ _ _ | exact one_ptr _ | exact one_bool _ | exact one_string _) only [RXA, RXB, Nat.reduceAdd, Nat.reduceLT, wrap_id, wrap_succ, wrap_pred, FX1, FX2, FX3, Int.reduceBEq, Int.reduceBNe, Int.reduceLT, Int.reduceLE, Int.reduceEq, Int.reduceNe, Int.reduceAdd, Int.reduceSub, Int.reduceMul, Int.reduceNeg]
  refine run_same (s_windowed w) (Nat.le_refl _) (fun _ _ h => h.elim) ?_
  try simp (disch := first | omega | assumption | exact one_int _ _ | exact one_slice _ _ _ | exact one_ptr _ | exact one_bool _ | exact one_string _) only [RXA, RXB, Nat.reduceAdd, Nat.reduceLT, wrap_id, wrap_succ, wrap_pred, FX1, FX2, FX3, Int.reduceBEq, Int.reduceBNe, Int.reduceLT, Int.reduceLE, Int.reduceEq, Int.reduceNe, Int.reduceAdd, Int.reduceSub, Int.reduceMul, Int.reduceNeg, h5]
  refine run_same (s_Most (r := r - 19) (by omega) (by omega)) (Nat.le_refl _) (fun _ _ h => h.elim) ?_
  try simp (disch := first | omega | assumption | exact one_int _ _ | exact one_slice _ _ _ | exact one_ptr _ | exact one_bool _ | exact one_string _) only [RXA, RXB, Nat.reduceAdd, Nat.reduceLT, wrap_id, wrap_succ, wrap_pred, FX1, FX2, FX3, Int.reduceBEq, Int.reduceBNe, Int.reduceLT, Int.reduceLE, Int.reduceEq, Int.reduceNe, Int.reduceAdd, Int.reduceSub, Int.reduceMul, Int.reduceNeg]
theorem s_pNeedNo {l u w : Int} (h1 : ¬ ((1 ≤ l ∧ l ≤ 9 ∧ 24 ≤ u ∧ u ≤ 100000) ∧ winB w = true)) : Run (fun _ => False) n (evCall2 Tryz.prog gt lf (d + 2) 35 #[.int .i64 l, .int .i64 u, .int .i64 w]) h n fun v h' n' => v = .tuple #[.int .i64 0, .int .i64 1] ∧ h' = h ∧ n' = n := by
  rw [sh_press_Need]
  refine Run.inside_ ?_
  unfold b_press_Need
  by_cases h0 : 1 ≤ l ∧ l ≤ 9 ∧ 24 ≤ u ∧ u ≤ 100000
  · refine run_same (s_Room_ok n h h0.1 h0.2.1 h0.2.2.1 h0.2.2.2) (Nat.le_refl _) (fun _ _ h => h.elim) ?_
    have h5 : winB w = false := by simpa [h0] using h1
    rw [ext0, ext1]
    try simp (disch := first | omega | assumption | exact one_int _ _ | exact one_slice _ _ _ | exact one_ptr _ | exact one_bool _ | exact one_string _) only [RXA, RXB, Nat.reduceAdd, Nat.reduceLT, wrap_id, wrap_succ, wrap_pred, FX1, FX2, FX3, Int.reduceBEq, Int.reduceBNe, Int.reduceLT, Int.reduceLE, Int.reduceEq, Int.reduceNe, Int.reduceAdd, Int.reduceSub, Int.reduceMul, Int.reduceNeg]
    refine run_same (s_windowed w) (Nat.le_refl _) (fun _ _ h => h.elim) ?_
    try simp (disch := first | omega | assumption | exact one_int _ _ | exact one_slice _ _ _ | exact one_ptr _ | exact one_bool _ | exact one_string _) only [RXA, RXB, Nat.reduceAdd, Nat.reduceLT, wrap_id, wrap_succ, wrap_pred, FX1, FX2, FX3, Int.reduceBEq, Int.reduceBNe, Int.reduceLT, Int.reduceLE, Int.reduceEq, Int.reduceNe, Int.reduceAdd, Int.reduceSub, Int.reduceMul, Int.reduceNeg, h5]
  · refine run_same (s_Room_no n h h0) (Nat.le_refl _) (fun _ _ h => h.elim) ?_
    rw [ext0, ext1]
    try simp (disch := first | omega | assumption | exact one_int _ _ | exact one_slice _ _ _ | exact one_ptr _ | exact one_bool _ | exact one_string _) only [RXA, RXB, Nat.reduceAdd, Nat.reduceLT, wrap_id, wrap_succ, wrap_pred, FX1, FX2, FX3, Int.reduceBEq, Int.reduceBNe, Int.reduceLT, Int.reduceLE, Int.reduceEq, Int.reduceNe, Int.reduceAdd, Int.reduceSub, Int.reduceMul, Int.reduceNeg]
theorem s_rNeed {l u w : Int} (h0 : (1 ≤ l ∧ l ≤ 9 ∧ 24 ≤ u ∧ u ≤ 100000) ∧ winB w = true) : Run (fun _ => False) n (evCall2 Tryz.prog gt lf (d + 1) 36 #[.int .i64 l, .int .i64 u, .int .i64 w]) h n fun v h' n' => v = .int .i64 (w + 8 * (l * u - 19) + (12000 + 3 * (l * u - 19)) + 1024) ∧ h' = h ∧ n' = n := by
  obtain ⟨⟨h1, h2, h3, h4⟩, h5⟩ := h0
  have q1 : l * u ≤ 9 * u := Int.mul_le_mul_of_nonneg_right h2 (by omega)
  have q2 : 1 * u ≤ l * u := Int.mul_le_mul_of_nonneg_right h1 (by omega)
  unfold winB at h5
  simp only [decide_eq_true_eq] at h5
  rw [sh_balerref23_Need]
  refine Run.inside_ ?_
  unfold b_balerref23_Need
  have e5 : IntKind.i64.wrap (l * u) = l * u := wrap_id (by omega) (by omega)
  rw [bmul3, e5, optK_some_eq]
  clear e5
  generalize l * u = r at *
  try simp (disch := first | omega | assumption | exact one_int _ _ | exact one_slice _ _ _ | exact one_ptr _ | exact one_bool _ | exact one_string _) only [RXA, RXB, Nat.reduceAdd, Nat.reduceLT, wrap_id, wrap_succ, wrap_pred, FX1, FX2, FX3, Int.reduceBEq, Int.reduceBNe, Int.reduceLT, Int.reduceLE, Int.reduceEq, Int.reduceNe, Int.reduceAdd, Int.reduceSub, Int.reduceMul, Int.reduceNeg]
  congr 1
  omega
theorem s_Level (l : Int) : Run (fun _ => False) n (evCall2 Tryz.prog gt lf (d + 1) 111 #[.int .i64 l]) h n fun v h' n' => v = .bool (decide (1 ≤ l ∧ l ≤ 9)) ∧ h' = h ∧ n' = n := by
  rw [sh_balerref21_Level]
  refine Run.inside_ ?_
  unfold b_balerref21_Level
  by_cases e1 : (1 : Int) ≤ l
  · try simp (disch := first | omega | assumption | exact one_int _ _ | exact one_slice _ _ _ | exact one_ptr _ | exact one_bool _ | exact one_string _) only [RXA, RXB, Nat.reduceAdd, Nat.reduceLT, wrap_id, wrap_succ, wrap_pred, FX1, FX2, FX3, Int.reduceBEq, Int.reduceBNe, Int.reduceLT, Int.reduceLE, Int.reduceEq, Int.reduceNe, Int.reduceAdd, Int.reduceSub, Int.reduceMul, Int.reduceNeg, e1]
  · try simp (disch := first | omega | assumption | exact one_int _ _ | exact one_slice _ _ _ | exact one_ptr _ | exact one_bool _ | exact one_string _) only [RXA, RXB, Nat.reduceAdd, Nat.reduceLT, wrap_id, wrap_succ, wrap_pred, FX1, FX2, FX3, Int.reduceBEq, Int.reduceBNe, Int.reduceLT, Int.reduceLE, Int.reduceEq, Int.reduceNe, Int.reduceAdd, Int.reduceSub, Int.reduceMul, Int.reduceNeg, e1]
theorem s_Unit (u : Int) : Run (fun _ => False) n (evCall2 Tryz.prog gt lf (d + 1) 112 #[.int .i64 u]) h n fun v h' n' => v = .bool (decide (24 ≤ u ∧ u ≤ 100000)) ∧ h' = h ∧ n' = n := by
  rw [sh_balerref21_Unit]
  refine Run.inside_ ?_
  unfold b_balerref21_Unit
  by_cases e1 : (24 : Int) ≤ u
  · try simp (disch := first | omega | assumption | exact one_int _ _ | exact one_slice _ _ _ | exact one_ptr _ | exact one_bool _ | exact one_string _) only [RXA, RXB, Nat.reduceAdd, Nat.reduceLT, wrap_id, wrap_succ, wrap_pred, FX1, FX2, FX3, Int.reduceBEq, Int.reduceBNe, Int.reduceLT, Int.reduceLE, Int.reduceEq, Int.reduceNe, Int.reduceAdd, Int.reduceSub, Int.reduceMul, Int.reduceNeg, e1]
  · try simp (disch := first | omega | assumption | exact one_int _ _ | exact one_slice _ _ _ | exact one_ptr _ | exact one_bool _ | exact one_string _) only [RXA, RXB, Nat.reduceAdd, Nat.reduceLT, wrap_id, wrap_succ, wrap_pred, FX1, FX2, FX3, Int.reduceBEq, Int.reduceBNe, Int.reduceLT, Int.reduceLE, Int.reduceEq, Int.reduceNe, Int.reduceAdd, Int.reduceSub, Int.reduceMul, Int.reduceNeg, e1]
def mayP (l u w : Int) : Bool := decide ((1 ≤ l ∧ l ≤ 9 ∧ 24 ≤ u ∧ u ≤ 100000) ∧ winB w = true)
theorem s_refMay (l u w : Int) : Run (fun _ => False) n (evCall2 Tryz.prog gt lf (d + 2) 67 #[.int .i64 l, .int .i64 u, .int .i64 w]) h n fun v h' n' => v = .bool (mayP l u w) ∧ h' = h ∧ n' = n := by
  rw [sh_balerref23_May]
  refine Run.inside_ ?_
  unfold b_balerref23_May mayP winB
  refine run_same (s_Level l) (Nat.le_refl _) (fun _ _ h => h.elim) ?_
  by_cases e0 : 1 ≤ l ∧ l ≤ 9
  · try simp (disch := first | omega | assumption | exact one_int _ _ | exact one_slice _ _ _ | exact one_ptr _ | exact one_bool _ | exact one_string _) only [RXA, RXB, Nat.reduceAdd, Nat.reduceLT, wrap_id, wrap_succ, wrap_pred, FX1, FX2, FX3, Int.reduceBEq, Int.reduceBNe, Int.reduceLT, Int.reduceLE, Int.reduceEq, Int.reduceNe, Int.reduceAdd, Int.reduceSub, Int.reduceMul, Int.reduceNeg, e0]
    refine run_same (s_Unit u) (Nat.le_refl _) (fun _ _ h => h.elim) ?_
    by_cases e1 : 24 ≤ u ∧ u ≤ 100000
    · by_cases e2 : (64 : Int) ≤ w
      · try simp (disch := first | omega | assumption | exact one_int _ _ | exact one_slice _ _ _ | exact one_ptr _ | exact one_bool _ | exact one_string _) only [RXA, RXB, Nat.reduceAdd, Nat.reduceLT, wrap_id, wrap_succ, wrap_pred, FX1, FX2, FX3, Int.reduceBEq, Int.reduceBNe, Int.reduceLT, Int.reduceLE, Int.reduceEq, Int.reduceNe, Int.reduceAdd, Int.reduceSub, Int.reduceMul, Int.reduceNeg, e0, e1, e2]
      · try simp (disch := first | omega | assumption | exact one_int _ _ | exact one_slice _ _ _ | exact one_ptr _ | exact one_bool _ | exact one_string _) only [RXA, RXB, Nat.reduceAdd, Nat.reduceLT, wrap_id, wrap_succ, wrap_pred, FX1, FX2, FX3, Int.reduceBEq, Int.reduceBNe, Int.reduceLT, Int.reduceLE, Int.reduceEq, Int.reduceNe, Int.reduceAdd, Int.reduceSub, Int.reduceMul, Int.reduceNeg, e0, e1, e2]
    · try simp (disch := first | omega | assumption | exact one_int _ _ | exact one_slice _ _ _ | exact one_ptr _ | exact one_bool _ | exact one_string _) only [RXA, RXB, Nat.reduceAdd, Nat.reduceLT, wrap_id, wrap_succ, wrap_pred, FX1, FX2, FX3, Int.reduceBEq, Int.reduceBNe, Int.reduceLT, Int.reduceLE, Int.reduceEq, Int.reduceNe, Int.reduceAdd, Int.reduceSub, Int.reduceMul, Int.reduceNeg, e0, e1]
  · try simp (disch := first | omega | assumption | exact one_int _ _ | exact one_slice _ _ _ | exact one_ptr _ | exact one_bool _ | exact one_string _) only [RXA, RXB, Nat.reduceAdd, Nat.reduceLT, wrap_id, wrap_succ, wrap_pred, FX1, FX2, FX3, Int.reduceBEq, Int.reduceBNe, Int.reduceLT, Int.reduceLE, Int.reduceEq, Int.reduceNe, Int.reduceAdd, Int.reduceSub, Int.reduceMul, Int.reduceNeg, e0]
    simp; omega
end

end Go.Proofs.YthhhkplbjcknkaaGreatDoor

/- Layer 23: a new press; how much it keeps. -/
import Derived.Test.YthhhkplbjcknkaaGreatDoorPz
import Derived.Test.YthhhkplbjcknkaaGreatDoorQa
import Derived.Test.YthhhkplbjcknkaaGreatDoorEvYe
namespace Go.Proofs.YthhhkplbjcknkaaGreatDoor
set_option linter.unusedVariables false
set_option linter.unusedSimpArgs false
open Go.RowKit Ev
def prB (win : Int) (s : List UInt8) (en : Bool) (sp : Nat) (fl : Bool) (bl : Value) (st : Nat) (out : List UInt8) : AB := ⟨109, true, [.int .i64 win, .string ⟨s.toArray⟩, .bool en, .pointer (some ⟨sp, 0, none⟩), .bool fl, bl, .pointer none, .int .i64 0, .pointer (some ⟨st, 0, none⟩), .string ⟨out.toArray⟩, .bool false, .int .i64 0]⟩
section
variable {lf d n : Nat} {h : H}
def winB (w : Int) : Bool := decide (64 ≤ w ∧ w ≤ 1048576)
theorem s_windowed (w : Int) : Run (fun _ => False) n (evCall2 Tryz.prog gt lf (d + 1) 70 #[.int .i64 w]) h n fun v h' n' => v = .bool (winB w) ∧ h' = h ∧ n' = n := by
  rw [sh_press_windowed]
  refine Run.inside_ ?_
  unfold b_press_windowed winB
  by_cases e1 : (64 : Int) ≤ w
  · try simp (disch := first | omega | assumption | exact one_int _ _ | exact one_slice _ _ _ | exact one_ptr _ | exact one_bool _ | exact one_string _) only [RXA, RXB, Nat.reduceAdd, Nat.reduceLT, wrap_id, wrap_succ, wrap_pred, FX1, FX2, FX3, Int.reduceBEq, Int.reduceBNe, Int.reduceLT, Int.reduceLE, Int.reduceEq, Int.reduceNe, Int.reduceAdd, Int.reduceSub, Int.reduceMul, Int.reduceNeg, e1]
  · try simp (disch := first | omega | assumption | exact one_int _ _ | exact one_slice _ _ _ | exact one_ptr _ | exact one_bool _ | exact one_string _) only [RXA, RXB, Nat.reduceAdd, Nat.reduceLT, wrap_id, wrap_succ, wrap_pred, FX1, FX2, FX3, Int.reduceBEq, Int.reduceBNe, Int.reduceLT, Int.reduceLE, Int.reduceEq, Int.reduceNe, Int.reduceAdd, Int.reduceSub, Int.reduceMul, Int.reduceNeg, e1]
def hd4 (l : Nat) : List UInt8 := bS [66, 90, 104, 48 + l]
theorem s_stTake {p w t : Nat} {sv : Value} {s : List Nat × List Bool} {tot : Int} {dn : Bool} (gp : h.get p = some (stB w tot dn)) (hp : p < n) (x : WrAt h n w sv s t) : Run (fun c => c = w) n (evCall2 Tryz.prog gt lf (d + 2) 21 #[.pointer (some ⟨p, 0, none⟩)]) h n fun v h' n' => v = .string ⟨(bS s.1).toArray⟩ ∧ n' = n := by
  rw [sh_stream_Writer_Take]
  refine Run.inside_ ?_
  unfold b_stream_Writer_Take
  unfold stB at gp
  try simp (disch := first | omega | assumption | exact one_int _ _ | exact one_slice _ _ _ | exact one_ptr _ | exact one_bool _ | exact one_string _) only [RXA, RXB, Nat.reduceAdd, Nat.reduceLT, wrap_id, wrap_succ, wrap_pred, FX1, FX2, FX3, Int.reduceBEq, Int.reduceBNe, Int.reduceLT, Int.reduceLE, Int.reduceEq, Int.reduceNe, Int.reduceAdd, Int.reduceSub, Int.reduceMul, Int.reduceNeg, gp]
  refine run_call okd (s_wTake x) (Nat.le_refl _) (fun b hb hq => .inr hq) ?_
  rintro _ h1 n1 _ _ ⟨rfl, rfl, _⟩
  try simp (disch := first | omega | assumption | exact one_int _ _ | exact one_slice _ _ _ | exact one_ptr _ | exact one_bool _ | exact one_string _) only [RXA, RXB, Nat.reduceAdd, Nat.reduceLT, wrap_id, wrap_succ, wrap_pred, FX1, FX2, FX3, Int.reduceBEq, Int.reduceBNe, Int.reduceLT, Int.reduceLE, Int.reduceEq, Int.reduceNe, Int.reduceAdd, Int.reduceSub, Int.reduceMul, Int.reduceNeg]
/-- a press in memory: its own block, its splitter's, its packer's -/
structure PrAt (h : H) (n n0 : Nat) (p : Nat) (win : Int) (s : List UInt8) (en : Bool) (fl : Bool) (bl : Value) (l : Nat) : Prop where
  ex : ∃ sp c q st room, h.get p = some (prB win s en sp fl bl st (hd4 l)) ∧ h.get sp = some (spB c q room) ∧ h.get q = some (pkB 0 0) ∧ p ≠ sp ∧ p ≠ q ∧ sp ≠ q ∧ n0 ≤ p ∧ n0 ≤ sp ∧ n0 ≤ q ∧ p < n ∧ sp < n ∧ q < n
theorem s_pNew {l : Nat} {u w : Int} (hlf : 257 ≤ lf) (h1 : 1 ≤ l) (h2 : l ≤ 9) (h3 : 24 ≤ u) (h4 : u ≤ 100000) (h5 : winB w = true) : Run (fun _ => False) n (evCall2 Tryz.prog gt lf (d + 4) 25 #[.int .i64 (l : Int), .int .i64 u, .int .i64 w]) h n fun v h' n' => ∃ p, v = .tuple #[.pointer (some ⟨p, 0, none⟩), .int .i64 0] ∧ PrAt h' n' n p w [] false false (.slice none 0 0) l := by
  have hl1 : (1 : Int) ≤ (l : Int) := by omega
  have hl2 : (l : Int) ≤ 9 := by omega
  have q1 : (l : Int) * u ≤ 9 * u := Int.mul_le_mul_of_nonneg_right hl2 (by omega)
  have q2 : 1 * u ≤ (l : Int) * u := Int.mul_le_mul_of_nonneg_right hl1 (by omega)
  rw [sh_press_New]
  refine Run.inside_ ?_
  unfold b_press_New
  refine run_same (s_Room_ok n h hl1 hl2 h3 h4) (Nat.le_refl _) (fun _ _ h => h.elim) ?_
  rw [ext0, ext1]
  try simp (disch := first | omega | assumption | exact one_int _ _ | exact one_slice _ _ _ | exact one_ptr _ | exact one_bool _ | exact one_string _) only [RXA, RXB, Nat.reduceAdd, Nat.reduceLT, wrap_id, wrap_succ, wrap_pred, FX1, FX2, FX3, Int.reduceBEq, Int.reduceBNe, Int.reduceLT, Int.reduceLE, Int.reduceEq, Int.reduceNe, Int.reduceAdd, Int.reduceSub, Int.reduceMul, Int.reduceNeg]
  refine run_same (s_windowed w) (Nat.le_refl _) (fun _ _ h => h.elim) ?_
  try simp (disch := first | omega | assumption | exact one_int _ _ | exact one_slice _ _ _ | exact one_ptr _ | exact one_bool _ | exact one_string _) only [RXA, RXB, Nat.reduceAdd, Nat.reduceLT, wrap_id, wrap_succ, wrap_pred, FX1, FX2, FX3, Int.reduceBEq, Int.reduceBNe, Int.reduceLT, Int.reduceLE, Int.reduceEq, Int.reduceNe, Int.reduceAdd, Int.reduceSub, Int.reduceMul, Int.reduceNeg, h5]
  refine run_call okd (s_spNew hlf n h (by omega) (by omega)) (Nat.le_refl _) (fun _ _ h => h.elim) ?_
  rintro _ g1 n1 hn1 fr1 ⟨sp, c, q, rfl, a1, a2, a3, a4, a5, gsp, gq⟩
  rw [ext0, ext1]
  try simp (disch := first | omega | assumption | exact one_int _ _ | exact one_slice _ _ _ | exact one_ptr _ | exact one_bool _ | exact one_string _) only [RXA, RXB, Nat.reduceAdd, Nat.reduceLT, wrap_id, wrap_succ, wrap_pred, FX1, FX2, FX3, Int.reduceBEq, Int.reduceBNe, Int.reduceLT, Int.reduceLE, Int.reduceEq, Int.reduceNe, Int.reduceAdd, Int.reduceSub, Int.reduceMul, Int.reduceNeg]
  refine run_call okd (s_sNew (by omega) n1 g1 h1 h2) (by omega) (fun _ _ h => h.elim) ?_
  rintro _ g2 n2 hn2 fr2 ⟨st, wr, sv, rfl, b1, b2, b3', b4, gst, x, hc⟩
  rw [ext0, ext1]
  try simp (disch := first | omega | assumption | exact one_int _ _ | exact one_slice _ _ _ | exact one_ptr _ | exact one_bool _ | exact one_string _) only [RXA, RXB, Nat.reduceAdd, Nat.reduceLT, wrap_id, wrap_succ, wrap_pred, FX1, FX2, FX3, Int.reduceBEq, Int.reduceBNe, Int.reduceLT, Int.reduceLE, Int.reduceEq, Int.reduceNe, Int.reduceAdd, Int.reduceSub, Int.reduceMul, Int.reduceNeg]
  refine run_call okd (s_stTake gst b3' x) (by omega) (fun b hb hq => .inl (by omega)) ?_
  rintro _ g3 n3 hn3 fr3 ⟨rfl, rfl⟩
  try simp (disch := first | omega | assumption | exact one_int _ _ | exact one_slice _ _ _ | exact one_ptr _ | exact one_bool _ | exact one_string _) only [RXA, RXB, Nat.reduceAdd, Nat.reduceLT, wrap_id, wrap_succ, wrap_pred, FX1, FX2, FX3, Int.reduceBEq, Int.reduceBNe, Int.reduceLT, Int.reduceLE, Int.reduceEq, Int.reduceNe, Int.reduceAdd, Int.reduceSub, Int.reduceMul, Int.reduceNeg]
  refine run_box sz109 _ _ ?_
  try simp (disch := first | omega | assumption | exact one_int _ _ | exact one_slice _ _ _ | exact one_ptr _ | exact one_bool _ | exact one_string _) only [RXA, RXB, Nat.reduceAdd, Nat.reduceLT, wrap_id, wrap_succ, wrap_pred, FX1, FX2, FX3, Int.reduceBEq, Int.reduceBNe, Int.reduceLT, Int.reduceLE, Int.reduceEq, Int.reduceNe, Int.reduceAdd, Int.reduceSub, Int.reduceMul, Int.reduceNeg]
  refine ⟨n3, rfl, ⟨sp, c, q, st, (l : Int) * u - 19, by rw [get_eq]; rfl, ?_, ?_, by omega, by omega, a5, by omega, a1, a2, by omega, by omega, by omega⟩⟩
  · rw [get_ne _ _ (by omega), fr3 sp (by omega) (by omega), fr2 sp (by omega) id, gsp]
  · rw [get_ne _ _ (by omega), fr3 q (by omega) (by omega), fr2 q (by omega) id, gq]
theorem s_pNewNo {l u w : Int} (h1 : ¬ ((1 ≤ l ∧ l ≤ 9 ∧ 24 ≤ u ∧ u ≤ 100000) ∧ winB w = true)) : Run (fun _ => False) n (evCall2 Tryz.prog gt lf (d + 4) 25 #[.int .i64 l, .int .i64 u, .int .i64 w]) h n fun v h' n' => v = .tuple #[.pointer none, .int .i64 1] ∧ h' = h ∧ n' = n := by
  rw [sh_press_New]
  refine Run.inside_ ?_
  unfold b_press_New
  by_cases h0 : 1 ≤ l ∧ l ≤ 9 ∧ 24 ≤ u ∧ u ≤ 100000
  · refine run_same (s_Room_ok n h h0.1 h0.2.1 h0.2.2.1 h0.2.2.2) (Nat.le_refl _) (fun _ _ h => h.elim) ?_
    have h5 : winB w = false := by simpa [h0] using h1
    rw [ext0, ext1]
    try simp (disch := first | omega | assumption | exact one_int _ _ | exact one_slice _ _ _ | exact one_ptr _ | exact one_bool _ | exact one_string _) only [RXA, RXB, Nat.reduceAdd, Nat.reduceLT, wrap_id, wrap_succ, wrap_pred, FX1, FX2, FX3, Int.reduceBEq, Int.reduceBNe, Int.reduceLT, Int.reduceLE, Int.reduceEq, Int.reduceNe, Int.reduceAdd, Int.reduceSub, Int.reduceMul, Int.reduceNeg]
    refine run_same (s_windowed w) (Nat.le_refl _) (fun _ _ h => h.elim) ?_
    try simp (disch := first | omega | assumption | exact one_int _ _ | exact one_slice _ _ _ | exact one_ptr _ | exact one_bool _ | exact one_string _) only [RXA, RXB, Nat.reduceAdd, Nat.reduceLT, wrap_id, wrap_succ, wrap_pred, FX1, FX2, FX3, Int.reduceBEq, Int.reduceBNe, Int.reduceLT, Int.reduceLE, Int.reduceEq, Int.reduceNe, Int.reduceAdd, Int.reduceSub, Int.reduceMul, Int.reduceNeg, h5]
  · refine run_same (s_Room_no n h h0) (Nat.le_refl _) (fun _ _ h => h.elim) ?_
    rw [ext0, ext1]
    try simp (disch := first | omega | assumption | exact one_int _ _ | exact one_slice _ _ _ | exact one_ptr _ | exact one_bool _ | exact one_string _) only [RXA, RXB, Nat.reduceAdd, Nat.reduceLT, wrap_id, wrap_succ, wrap_pred, FX1, FX2, FX3, Int.reduceBEq, Int.reduceBNe, Int.reduceLT, Int.reduceLE, Int.reduceEq, Int.reduceNe, Int.reduceAdd, Int.reduceSub, Int.reduceMul, Int.reduceNeg]
end

end Go.Proofs.YthhhkplbjcknkaaGreatDoor

/- Layers 4, 19, 21 and 23: a new packer, splitter, stream, press. -/
import Derived.Test.YthhhkplbjcknkaaGreatDoorPy
namespace Go.Proofs.YthhhkplbjcknkaaGreatDoor
set_option linter.unusedVariables false
set_option linter.unusedSimpArgs false
open Go.RowKit Ev
section
variable {lf d : Nat}
def pkB (b k : Nat) : AB := ⟨209, true, [.int .u8 (b : Int), .int .i64 (k : Int)]⟩
theorem s_pkNew (n : Nat) (h : H) : Run (fun _ => False) n (evCall2 Tryz.prog gt lf (d + 1) 120 #[]) h n fun v h' n' => v = .pointer (some ⟨n, 0, none⟩) ∧ h' = h.set n (some (pkB 0 0)) ∧ n' = n + 1 := by
  rw [sh_feed_NewPacker]
  refine Run.inside_ ?_
  unfold b_feed_NewPacker
  try simp (disch := first | omega | assumption | exact one_int _ _ | exact one_slice _ _ _ | exact one_ptr _ | exact one_bool _ | exact one_string _) only [RXA, RXB, Nat.reduceAdd, Nat.reduceLT, wrap_id, wrap_succ, wrap_pred, FX1, FX2, FX3, Int.reduceBEq, Int.reduceBNe, Int.reduceLT, Int.reduceLE, Int.reduceEq, Int.reduceNe, Int.reduceAdd, Int.reduceSub, Int.reduceMul, Int.reduceNeg]
  refine run_box sz209 _ _ ?_
  try simp (disch := first | omega | assumption | exact one_int _ _ | exact one_slice _ _ _ | exact one_ptr _ | exact one_bool _ | exact one_string _) only [RXA, RXB, Nat.reduceAdd, Nat.reduceLT, wrap_id, wrap_succ, wrap_pred, FX1, FX2, FX3, Int.reduceBEq, Int.reduceBNe, Int.reduceLT, Int.reduceLE, Int.reduceEq, Int.reduceNe, Int.reduceAdd, Int.reduceSub, Int.reduceMul, Int.reduceNeg]
  rfl
theorem s_Room_ok (n : Nat) (h : H) {l u : Int} (h1 : 1 ≤ l) (h2 : l ≤ 9) (h3 : 24 ≤ u) (h4 : u ≤ 100000) : Run (fun _ => False) n (evCall2 Tryz.prog gt lf (d + 1) 69 #[.int .i64 l, .int .i64 u]) h n fun v h' n' => v = .tuple #[.int .i64 (l * u - 19), .int .i64 0] ∧ h' = h ∧ n' = n := by
  rw [sh_split_Room]
  refine Run.inside_ ?_
  unfold b_split_Room
  have e1 : ¬ l < 1 := by omega
  have e2 : ¬ (9 : Int) < l := by omega
  have e3 : ¬ u < 24 := by omega
  have e4 : ¬ (100000 : Int) < u := by omega
  have q1 : l * u ≤ 9 * u := Int.mul_le_mul_of_nonneg_right h2 (by omega)
  have q2 : 1 * u ≤ l * u := Int.mul_le_mul_of_nonneg_right h1 (by omega)
  have e5 : IntKind.i64.wrap (l * u) = l * u := wrap_id (by omega) (by omega)
  have e6 : IntKind.i64.wrap (l * u - 19) = l * u - 19 := wrap_id (by omega) (by omega)
  try simp (disch := first | omega | assumption | exact one_int _ _ | exact one_slice _ _ _ | exact one_ptr _ | exact one_bool _ | exact one_string _) only [RXA, RXB, Nat.reduceAdd, Nat.reduceLT, wrap_id, wrap_succ, wrap_pred, FX1, FX2, FX3, Int.reduceBEq, Int.reduceBNe, Int.reduceLT, Int.reduceLE, Int.reduceEq, Int.reduceNe, Int.reduceAdd, Int.reduceSub, Int.reduceMul, Int.reduceNeg, e1, e2, e3, e4, e5, e6]
theorem s_Room_no (n : Nat) (h : H) {l u : Int} (h1 : ¬ (1 ≤ l ∧ l ≤ 9 ∧ 24 ≤ u ∧ u ≤ 100000)) : Run (fun _ => False) n (evCall2 Tryz.prog gt lf (d + 1) 69 #[.int .i64 l, .int .i64 u]) h n fun v h' n' => v = .tuple #[.int .i64 0, .int .i64 1] ∧ h' = h ∧ n' = n := by
  rw [sh_split_Room]
  refine Run.inside_ ?_
  unfold b_split_Room
  by_cases e1 : l < 1
  · try simp (disch := first | omega | assumption | exact one_int _ _ | exact one_slice _ _ _ | exact one_ptr _ | exact one_bool _ | exact one_string _) only [RXA, RXB, Nat.reduceAdd, Nat.reduceLT, wrap_id, wrap_succ, wrap_pred, FX1, FX2, FX3, Int.reduceBEq, Int.reduceBNe, Int.reduceLT, Int.reduceLE, Int.reduceEq, Int.reduceNe, Int.reduceAdd, Int.reduceSub, Int.reduceMul, Int.reduceNeg, e1]
  · by_cases e2 : (9 : Int) < l
    · try simp (disch := first | omega | assumption | exact one_int _ _ | exact one_slice _ _ _ | exact one_ptr _ | exact one_bool _ | exact one_string _) only [RXA, RXB, Nat.reduceAdd, Nat.reduceLT, wrap_id, wrap_succ, wrap_pred, FX1, FX2, FX3, Int.reduceBEq, Int.reduceBNe, Int.reduceLT, Int.reduceLE, Int.reduceEq, Int.reduceNe, Int.reduceAdd, Int.reduceSub, Int.reduceMul, Int.reduceNeg, e1, e2]
    · by_cases e3 : u < 24
      · try simp (disch := first | omega | assumption | exact one_int _ _ | exact one_slice _ _ _ | exact one_ptr _ | exact one_bool _ | exact one_string _) only [RXA, RXB, Nat.reduceAdd, Nat.reduceLT, wrap_id, wrap_succ, wrap_pred, FX1, FX2, FX3, Int.reduceBEq, Int.reduceBNe, Int.reduceLT, Int.reduceLE, Int.reduceEq, Int.reduceNe, Int.reduceAdd, Int.reduceSub, Int.reduceMul, Int.reduceNeg, e1, e2, e3]
      · have e4 : (100000 : Int) < u := by omega
        try simp (disch := first | omega | assumption | exact one_int _ _ | exact one_slice _ _ _ | exact one_ptr _ | exact one_bool _ | exact one_string _) only [RXA, RXB, Nat.reduceAdd, Nat.reduceLT, wrap_id, wrap_succ, wrap_pred, FX1, FX2, FX3, Int.reduceBEq, Int.reduceBNe, Int.reduceLT, Int.reduceLE, Int.reduceEq, Int.reduceNe, Int.reduceAdd, Int.reduceSub, Int.reduceMul, Int.reduceNeg, e1, e2, e3, e4]
def spB (c q : Nat) (room : Int) : AB := ⟨164, true, [.slice none 0 0, .pointer (some ⟨c, 0, none⟩), .int .i64 0, .int .i64 room, .pointer (some ⟨q, 0, none⟩)]⟩
theorem s_spNew (hlf : 257 ≤ lf) (n : Nat) (h : H) {r : Int} (h1 : 5 ≤ r) (h2 : r ≤ 900000) : Run (fun _ => False) n (evCall2 Tryz.prog gt lf (d + 3) 71 #[.int .i64 r]) h n fun v h' n' => ∃ p c q, v = .tuple #[.pointer (some ⟨p, 0, none⟩), .int .i64 0] ∧ n ≤ p ∧ n ≤ q ∧ p < n' ∧ q < n' ∧ p ≠ q ∧ h'.get p = some (spB c q r) ∧ h'.get q = some (pkB 0 0) := by
  rw [sh_split_New]
  refine Run.inside_ ?_
  unfold b_split_New
  have e1 : ¬ r < 5 := by omega
  have e2 : ¬ (900000 : Int) < r := by omega
  try simp (disch := first | omega | assumption | exact one_int _ _ | exact one_slice _ _ _ | exact one_ptr _ | exact one_bool _ | exact one_string _) only [RXA, RXB, Nat.reduceAdd, Nat.reduceLT, wrap_id, wrap_succ, wrap_pred, FX1, FX2, FX3, Int.reduceBEq, Int.reduceBNe, Int.reduceLT, Int.reduceLE, Int.reduceEq, Int.reduceNe, Int.reduceAdd, Int.reduceSub, Int.reduceMul, Int.reduceNeg, e1, e2]
  refine run_call okd (s_crcNew hlf n h) (Nat.le_refl _) (fun _ _ h => h.elim) ?_
  rintro _ h1 n1 hn1 fr1 ⟨c, rfl, hc1, hc2, gc⟩
  try simp (disch := first | omega | assumption | exact one_int _ _ | exact one_slice _ _ _ | exact one_ptr _ | exact one_bool _ | exact one_string _) only [RXA, RXB, Nat.reduceAdd, Nat.reduceLT, wrap_id, wrap_succ, wrap_pred, FX1, FX2, FX3, Int.reduceBEq, Int.reduceBNe, Int.reduceLT, Int.reduceLE, Int.reduceEq, Int.reduceNe, Int.reduceAdd, Int.reduceSub, Int.reduceMul, Int.reduceNeg]
  refine run_call okd (s_pkNew n1 h1) (by omega) (fun _ _ h => h.elim) ?_
  rintro _ _ _ _ _ ⟨rfl, rfl, rfl⟩
  try simp (disch := first | omega | assumption | exact one_int _ _ | exact one_slice _ _ _ | exact one_ptr _ | exact one_bool _ | exact one_string _) only [RXA, RXB, Nat.reduceAdd, Nat.reduceLT, wrap_id, wrap_succ, wrap_pred, FX1, FX2, FX3, Int.reduceBEq, Int.reduceBNe, Int.reduceLT, Int.reduceLE, Int.reduceEq, Int.reduceNe, Int.reduceAdd, Int.reduceSub, Int.reduceMul, Int.reduceNeg]
  refine run_box sz164 _ _ ?_
  try simp (disch := first | omega | assumption | exact one_int _ _ | exact one_slice _ _ _ | exact one_ptr _ | exact one_bool _ | exact one_string _) only [RXA, RXB, Nat.reduceAdd, Nat.reduceLT, wrap_id, wrap_succ, wrap_pred, FX1, FX2, FX3, Int.reduceBEq, Int.reduceBNe, Int.reduceLT, Int.reduceLE, Int.reduceEq, Int.reduceNe, Int.reduceAdd, Int.reduceSub, Int.reduceMul, Int.reduceNeg]
  exact ⟨n1 + 1, c, n1, rfl, by omega, by omega, by omega, by omega, by omega, by rw [get_eq]; rfl, by rw [get_ne _ _ (by omega), get_eq]⟩
def stB (w : Nat) (total : Int) (done : Bool) : AB := ⟨89, true, [.pointer (some ⟨w, 0, none⟩), .int .u32 total, .bool done]⟩
abbrev b3 : List UInt8 := [66, 90, 104]
def sNewP (n l : Nat) (v : Value) (h' : H) (n' : Nat) : Prop := ∃ p w sv, v = .tuple #[.pointer (some ⟨p, 0, none⟩), .int .i64 0] ∧ n ≤ p ∧ n ≤ w ∧ p < n' ∧ p ≠ w ∧ h'.get p = some (stB w 0 false) ∧ WrAt h' n' w sv ([66, 90, 104, 48 + l], []) 32 ∧ (∀ c, InBlk sv c → n ≤ c ∧ c ≠ p)
theorem s_sNew (hlf : 34 ≤ lf) (n : Nat) (h : H) {l : Nat} (h1 : 1 ≤ l) (h2 : l ≤ 9) : Run (fun _ => False) n (evCall2 Tryz.prog gt lf (d + 3) 72 #[.int .i64 (l : Int)]) h n (sNewP n l) := by
  rw [sh_stream_New]
  refine Run.inside_ ?_
  unfold b_stream_New
  have e1 : ¬ (l : Int) < 1 := by omega
  have e2 : ¬ (9 : Int) < (l : Int) := by omega
  try simp (disch := first | omega | assumption | exact one_int _ _ | exact one_slice _ _ _ | exact one_ptr _ | exact one_bool _ | exact one_string _) only [RXA, RXB, Nat.reduceAdd, Nat.reduceLT, wrap_id, wrap_succ, wrap_pred, FX1, FX2, FX3, Int.reduceBEq, Int.reduceBNe, Int.reduceLT, Int.reduceLE, Int.reduceEq, Int.reduceNe, Int.reduceAdd, Int.reduceSub, Int.reduceMul, Int.reduceNeg, e1, e2]
  refine run_call okd (s_wNew (h := h)) (Nat.le_refl _) (fun _ _ h => h.elim) ?_
  rintro _ hh1 _ _ _ ⟨rfl, rfl, x0⟩
  try simp (disch := first | omega | assumption | exact one_int _ _ | exact one_slice _ _ _ | exact one_ptr _ | exact one_bool _ | exact one_string _) only [RXA, RXB, Nat.reduceAdd, Nat.reduceLT, wrap_id, wrap_succ, wrap_pred, FX1, FX2, FX3, Int.reduceBEq, Int.reduceBNe, Int.reduceLT, Int.reduceLE, Int.reduceEq, Int.reduceNe, Int.reduceAdd, Int.reduceSub, Int.reduceMul, Int.reduceNeg]
  refine run_box sz89 _ _ ?_
  have x1 := x0.keep (h' := hh1.set (n + 1) (some ⟨89, true, [.pointer (some ⟨n, 0, none⟩), .int .u32 0, .bool false]⟩)) (n' := n + 1 + 1) (by omega) fun b hb _ => get_ne _ _ (by omega)
  have gp : (hh1.set (n + 1) (some ⟨89, true, [.pointer (some ⟨n, 0, none⟩), .int .u32 0, .bool false]⟩)).get (n + 1) = some (stB n 0 false) := get_eq _ _ _
  try simp (disch := first | omega | assumption | exact one_int _ _ | exact one_slice _ _ _ | exact one_ptr _ | exact one_bool _ | exact one_string _) only [RXA, RXB, Nat.reduceAdd, Nat.reduceLT, wrap_id, wrap_succ, wrap_pred, FX1, FX2, FX3, Int.reduceBEq, Int.reduceBNe, Int.reduceLT, Int.reduceLE, Int.reduceEq, Int.reduceNe, Int.reduceAdd, Int.reduceSub, Int.reduceMul, Int.reduceNeg]
  generalize hh1.set (n + 1) (some ⟨89, true, [.pointer (some ⟨n, 0, none⟩), .int .u32 0, .bool false]⟩) = h2' at x1 gp
  clear x0
  -- a letter
  have step : ∀ (i : Nat) (hi : i < 3) (fu m : Nat) (g : H) (sv : Value) (ws : List Nat) (hws : ws.length ≤ 8), n + 2 ≤ m → g.get (n + 1) = some (stB n 0 false) → WrAt g m n sv (ws, []) (8 * i) → (∀ c, InBlk sv c → n ≤ c ∧ c ≠ n + 1) → ∀ Q : Value → H → Nat → Prop,
      (∀ g' m' sv', n + 2 ≤ m' → g'.get (n + 1) = some (stB n 0 false) → WrAt g' m' n sv' (ws ++ [(b3.getD i 0).toNat], []) (8 * (i + 1)) → (∀ c, InBlk sv' c → n ≤ c ∧ c ≠ n + 1) → Run (fun _ => False) n (lpA_stream_New lf (d + 2) fu (kcA_stream_New lf (d + 2)) (.int .i64 (l : Int)) (.pointer none) (.int .i64 0) (.pointer (some ⟨n + 1, 0, none⟩)) (.bool false) (.int .i64 ((i + 1 : Nat) : Int))) g' m' Q) →
      Run (fun _ => False) n (lpA_stream_New lf (d + 2) (fu + 1) (kcA_stream_New lf (d + 2)) (.int .i64 (l : Int)) (.pointer none) (.int .i64 0) (.pointer (some ⟨n + 1, 0, none⟩)) (.bool false) (.int .i64 (i : Int))) g m Q := by
    intro i hi fu m g sv ws hws hm gg xx hc Q hQ
    rw [succA_stream_New]
    have e0 : (i : Int) < 3 := by omega
    have e3 : (0 : Int) ≤ (i : Int) := by omega
    try simp (disch := first | omega | assumption | exact one_int _ _ | exact one_slice _ _ _ | exact one_ptr _ | exact one_bool _ | exact one_string _) only [RXA, RXB, Nat.reduceAdd, Nat.reduceLT, wrap_id, wrap_succ, wrap_pred, FX1, FX2, FX3, Int.reduceBEq, Int.reduceBNe, Int.reduceLT, Int.reduceLE, Int.reduceEq, Int.reduceNe, Int.reduceAdd, Int.reduceSub, Int.reduceMul, Int.reduceNeg, e0]
    refine timed_ld' ag71 _ _ _ gg (by omega) rfl fun T0 r0 => ?_
    have es : (ByteArray.mk #[66, 90, 104]) = ⟨b3.toArray⟩ := rfl
    have ei := ixs9 b3 .i64 (i : Int) e3 (by simp; omega)
    rw [Int.toNat_natCast] at ei
    have hlt : (b3.getD i 0).toNat < 256 := (b3.getD i 0).toNat_lt
    have e4 : IntKind.u32.wrap (((b3.getD i 0).toNat : Nat) : Int) = ((b3.getD i 0).toNat : Int) := w32 (by omega)
    try simp (disch := first | omega | assumption | exact one_int _ _ | exact one_slice _ _ _ | exact one_ptr _ | exact one_bool _ | exact one_string _) only [RXA, RXB, Nat.reduceAdd, Nat.reduceLT, wrap_id, wrap_succ, wrap_pred, FX1, FX2, FX3, Int.reduceBEq, Int.reduceBNe, Int.reduceLT, Int.reduceLE, Int.reduceEq, Int.reduceNe, Int.reduceAdd, Int.reduceSub, Int.reduceMul, Int.reduceNeg, es, ei, e4]
    refine timed_ret' _ _ fun T1 r1 => ?_
    try simp (disch := first | omega | assumption | exact one_int _ _ | exact one_slice _ _ _ | exact one_ptr _ | exact one_bool _ | exact one_string _) only [RXA, RXB, Nat.reduceAdd, Nat.reduceLT, wrap_id, wrap_succ, wrap_pred, FX1, FX2, FX3, Int.reduceBEq, Int.reduceBNe, Int.reduceLT, Int.reduceLE, Int.reduceEq, Int.reduceNe, Int.reduceAdd, Int.reduceSub, Int.reduceMul, Int.reduceNeg]
    have sp := s_Put (lf := lf) (d := d) (t := 8 * i) (s := (ws, [])) (k := 8) xx (by decide) hlt (by omega) (by simp; omega) (by omega)
    have e8 : ((8 : Nat) : Int) = 8 := rfl
    rw [e8] at sp
    refine timed_call' okd sp (by omega) (fun b hb hq => .inl ?_) ?_
    · rcases hq with rfl | hq
      · exact Nat.le_refl _
      · exact (hc b hq).1
    · rintro _ g1 m1 T2 hm1 fr ⟨rfl, sv', x', hc'⟩
      have e5 : IntKind.i64.wrap ((i : Int) + 1) = ((i + 1 : Nat) : Int) := wrap_succ (by omega)
      have hcl := r0.clash r1
      try simp (disch := first | omega | assumption | exact one_int _ _ | exact one_slice _ _ _ | exact one_ptr _ | exact one_bool _ | exact one_string _) only [RXA, RXB, Nat.reduceAdd, Nat.reduceLT, wrap_id, wrap_succ, wrap_pred, FX1, FX2, FX3, Int.reduceBEq, Int.reduceBNe, Int.reduceLT, Int.reduceLE, Int.reduceEq, Int.reduceNe, Int.reduceAdd, Int.reduceSub, Int.reduceMul, Int.reduceNeg, hcl, e5]
      rw [pushBs_8 _ _ (fieldB_len _ _), num_field, Nat.mod_eq_of_lt hlt] at x'
      refine hQ g1 m1 sv' (by omega) ?_ x' fun c hq => ?_
      · rw [fr (n + 1) (by omega) (fun q => q.elim (fun q => by omega) fun q => (hc _ q).2 rfl), gg]
      · by_cases hcm : c < m
        · exact hc c (hc' c hcm hq)
        · omega
  have go : ∀ F, 4 ≤ F → Run (fun _ => False) n (lpA_stream_New lf (d + 2) F (kcA_stream_New lf (d + 2)) (.int .i64 (l : Int)) (.pointer none) (.int .i64 0) (.pointer (some ⟨n + 1, 0, none⟩)) (.bool false) (.int .i64 ((0 : Nat) : Int))) h2' (n + 2) (sNewP n l) := ?_
  · exact go lf (by omega)
  intro F hF
  obtain ⟨fu, rfl⟩ : ∃ f, F = f + 4 := ⟨F - 4, by omega⟩
  have x1' : WrAt h2' (n + 2) n (.slice none 0 0) ([], []) (8 * 0) := x1
  refine step 0 (by omega) (fu + 3) (n + 2) h2' _ [] (by simp) (Nat.le_refl _) gp x1' (fun c hc => hc.not_nil.elim) _ fun g1 m1 s1 hm1 gg1 xx1 hc1 => ?_
  refine step 1 (by omega) (fu + 2) m1 g1 s1 _ (by simp) hm1 gg1 xx1 hc1 _ fun g2 m2 s2 hm2 gg2 xx2 hc2 => ?_
  refine step 2 (by omega) (fu + 1) m2 g2 s2 _ (by simp) hm2 gg2 xx2 hc2 _ fun g3 m3 s3 hm3 gg3 xx3 hc3 => ?_
  have e33 : ((2 + 1 : Nat) : Int) = 3 := rfl
  rw [e33]
  clear step
  rw [succA_stream_New]
  rw [blss3, optK_some_eq, show decide ((3 : Int) < 3) = false from rfl, ifV_false]
  rw [kcAa_stream_New]
  have e4 : IntKind.i64.wrap (48 + (l : Int)) = ((48 + l : Nat) : Int) := by rw [wrap_id (by omega) (by omega)]; rfl
  have e5 : IntKind.u32.wrap ((48 + l : Nat) : Int) = ((48 + l : Nat) : Int) := w32 (by omega)
  unfold stB at gg3
  try simp (disch := first | omega | assumption | exact one_int _ _ | exact one_slice _ _ _ | exact one_ptr _ | exact one_bool _ | exact one_string _) only [RXA, RXB, Nat.reduceAdd, Nat.reduceLT, wrap_id, wrap_succ, wrap_pred, FX1, FX2, FX3, Int.reduceBEq, Int.reduceBNe, Int.reduceLT, Int.reduceLE, Int.reduceEq, Int.reduceNe, Int.reduceAdd, Int.reduceSub, Int.reduceMul, Int.reduceNeg, gg3, e4, e5]
  have hlt : 48 + l < 2 ^ 8 := by omega
  have sp := s_Put (lf := lf) (d := d) (t := 8 * (2 + 1)) (k := 8) xx3 (by decide) hlt (by omega) (by simp) (by omega)
  have e8 : ((8 : Nat) : Int) = 8 := rfl
  rw [e8] at sp
  refine run_call okd sp (by omega) (fun b hb hq => .inl ?_) ?_
  · rcases hq with rfl | hq
    · exact Nat.le_refl _
    · exact (hc3 b hq).1
  · rintro _ g4 m4 hm4 fr ⟨rfl, s4, x4, hc4⟩
    try simp (disch := first | omega | assumption | exact one_int _ _ | exact one_slice _ _ _ | exact one_ptr _ | exact one_bool _ | exact one_string _) only [RXA, RXB, Nat.reduceAdd, Nat.reduceLT, wrap_id, wrap_succ, wrap_pred, FX1, FX2, FX3, Int.reduceBEq, Int.reduceBNe, Int.reduceLT, Int.reduceLE, Int.reduceEq, Int.reduceNe, Int.reduceAdd, Int.reduceSub, Int.reduceMul, Int.reduceNeg]
    rw [pushBs_8 _ _ (fieldB_len _ _), num_field, Nat.mod_eq_of_lt hlt] at x4
    show sNewP n l _ _ _
    refine ⟨n + 1, n, s4, rfl, by omega, by omega, by omega, by omega, ?_, x4, fun c hq => ?_⟩
    · rw [fr (n + 1) (by omega) (fun q => q.elim (fun q => by omega) fun q => (hc3 _ q).2 rfl), gg3]; rfl
    · by_cases hcm : c < m3
      · exact hc3 c (hc4 c hcm hq)
      · omega
end

end Go.Proofs.YthhhkplbjcknkaaGreatDoor

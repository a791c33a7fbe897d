/- Layers 1 and 21: fields put; a new stream. -/
import Derived.Test.YthhhkplbjcknkaaGreatDoorPw
namespace Go.Proofs.YthhhkplbjcknkaaGreatDoor
set_option linter.unusedVariables false
set_option linter.unusedSimpArgs false
open Go.RowKit Ev

theorem field_step (v n i : Nat) (h : i < n) : fieldB (v / 2 ^ (n - i)) i ++ [decide (v / 2 ^ (n - 1 - i) % 2 = 1)] = fieldB (v / 2 ^ (n - (i + 1))) (i + 1) := by
  show _ = fieldB (v / 2 ^ (n - (i + 1)) / 2) i ++ _
  rw [Nat.div_div_eq_div_mul, ← Nat.pow_succ, show (n - (i + 1)).succ = n - i by omega, show n - (i + 1) = n - 1 - i by omega]
section
variable {lf d n w t : Nat} {h : H} {sv : Value} {s : List Nat × List Bool}
theorem s_fits {v k : Nat} (hk : k ≤ 32) (hv : v < 2 ^ k) : Run (fun _ => False) n (evCall2 Tryz.prog gt lf (d + 1) 110 #[.int .u32 (v : Int), .int .i64 (k : Int)]) h n fun v' h' n' => v' = .bool true ∧ h' = h ∧ n' = n := by
  rw [sh_bits_fits]
  refine Run.inside_ ?_
  unfold b_bits_fits
  have e1 : (0 : Int) ≤ (k : Int) := by omega
  have e2 : (k : Int) ≤ 32 := by omega
  have hv32 : v < 4294967296 := Nat.lt_of_lt_of_le hv (Nat.pow_le_pow_right (by decide) hk)
  have e3 : IntKind.u64.wrap (v : Int) = (v : Int) := IntWalk.u64_in _ (by omega)
  have e4 := fdiv_pow v k (IntKind.u64).bits (by simp [IntKind.bits]; omega)
  rw [Int.toNat_natCast, Nat.div_eq_of_lt hv] at e4
  try simp (disch := first | omega | assumption | exact one_int _ _ | exact one_slice _ _ _ | exact one_ptr _ | exact one_bool _ | exact one_string _) only [RXA, RXB, Nat.reduceAdd, Nat.reduceLT, wrap_id, wrap_succ, wrap_pred, FX1, FX2, FX3, Int.reduceBEq, Int.reduceBNe, Int.reduceLT, Int.reduceLE, Int.reduceEq, Int.reduceNe, Int.reduceAdd, Int.reduceSub, Int.reduceMul, Int.reduceNeg, e1, e2, e3, e4]
  rfl
theorem put_loop {v k : Nat} (hk : k ≤ 32) (hv : v < 2 ^ k) {x6 x8 x11 : Value} (hlt : t + 32 < 4611686018427387904) (hs : s.1.length + 33 ≤ 1099511627776) {nn : Nat} (hs8 : s.2.length < 8) : ∀ (m i fu n : Nat) (h : H) (si : Value), i + m = k → m < fu → nn ≤ n → w < nn → WrAt h n w si (pushBs s (fieldB (v / 2 ^ (k - i)) i)) (t + i) → (∀ c, c < nn → InBlk si c → InBlk sv c) →
    Run (fun c => c = w ∨ InBlk sv c) nn (lpA_bits_Writer_Put lf (d + 1) fu (kcA_bits_Writer_Put lf (d + 1)) (.pointer (some ⟨w, 0, none⟩)) (.int .u32 (v : Int)) (.int .i64 (k : Int)) x6 x8 x11 (.int .i64 (k : Int)) (.int .i64 (i : Int))) h n fun v' h' n' => v' = .int .i64 0 ∧ ∃ sv', WrAt h' n' w sv' (pushBs s (fieldB v k)) (t + k) ∧ ∀ c, c < nn → InBlk sv' c → InBlk sv c := by
  intro m
  induction m with
  | zero =>
    intro i fu n h si hi hf hn hw x hc
    obtain ⟨fu, rfl⟩ : ∃ f, fu = f + 1 := ⟨fu - 1, by omega⟩
    obtain rfl : i = k := by omega
    rw [succA_bits_Writer_Put]
    have e0 : ¬ ((i : Int) < (i : Int)) := by omega
    try simp (disch := first | omega | assumption | exact one_int _ _ | exact one_slice _ _ _ | exact one_ptr _ | exact one_bool _ | exact one_string _) only [RXA, RXB, Nat.reduceAdd, Nat.reduceLT, wrap_id, wrap_succ, wrap_pred, FX1, FX2, FX3, Int.reduceBEq, Int.reduceBNe, Int.reduceLT, Int.reduceLE, Int.reduceEq, Int.reduceNe, Int.reduceAdd, Int.reduceSub, Int.reduceMul, Int.reduceNeg, e0]
    rw [kcAa_bits_Writer_Put]
    try simp (disch := first | omega | assumption | exact one_int _ _ | exact one_slice _ _ _ | exact one_ptr _ | exact one_bool _ | exact one_string _) only [RXA, RXB, Nat.reduceAdd, Nat.reduceLT, wrap_id, wrap_succ, wrap_pred, FX1, FX2, FX3, Int.reduceBEq, Int.reduceBNe, Int.reduceLT, Int.reduceLE, Int.reduceEq, Int.reduceNe, Int.reduceAdd, Int.reduceSub, Int.reduceMul, Int.reduceNeg]
    rw [Nat.sub_self, Nat.pow_zero, Nat.div_one] at x
    exact ⟨si, x, hc⟩
  | succ m ih =>
    intro i fu n h si hi hf hn hw x hc
    obtain ⟨fu, rfl⟩ : ∃ f, fu = f + 1 := ⟨fu - 1, by omega⟩
    rw [succA_bits_Writer_Put]
    have e0 : (i : Int) < (k : Int) := by omega
    have e1 : IntKind.i64.wrap ((k : Int) - 1 - (i : Int)) = ((k - 1 - i : Nat) : Int) := by rw [wrap_id (by omega) (by omega)]; omega
    have e2 : IntKind.i64.wrap ((k : Int) - 1) = (k : Int) - 1 := wrap_id (by omega) (by omega)
    have e3 : (0 : Int) ≤ ((k - 1 - i : Nat) : Int) := by omega
    have e4 := fdiv_pow v (k - 1 - i) (IntKind.u32).bits (by simp [IntKind.bits]; omega)
    rw [Int.toNat_natCast] at e4
    have hv32 : v < 4294967296 := Nat.lt_of_lt_of_le hv (Nat.pow_le_pow_right (by decide) hk)
    have e5 := and32_1 (Nat.lt_of_le_of_lt (Nat.div_le_self v (2 ^ (k - 1 - i))) hv32)
    have e6 : IntKind.u8.wrap ((v / 2 ^ (k - 1 - i) % 2 : Nat) : Int) = (bn (decide (v / 2 ^ (k - 1 - i) % 2 = 1)) : Int) := by rw [bn_mod]; exact w8 (by omega)
    try simp (disch := first | omega | assumption | exact one_int _ _ | exact one_slice _ _ _ | exact one_ptr _ | exact one_bool _ | exact one_string _) only [RXA, RXB, Nat.reduceAdd, Nat.reduceLT, wrap_id, wrap_succ, wrap_pred, FX1, FX2, FX3, Int.reduceBEq, Int.reduceBNe, Int.reduceLT, Int.reduceLE, Int.reduceEq, Int.reduceNe, Int.reduceAdd, Int.reduceSub, Int.reduceMul, Int.reduceNeg, e0, e1, e2, e3, e4, e5, e6]
    have hl : (pushBs s (fieldB (v / 2 ^ (k - i)) i)).1.length ≤ s.1.length + i := by
      have := pushBs_wlen (fieldB (v / 2 ^ (k - i)) i) s
      rw [fieldB_len] at this
      exact this
    refine run_call okd (s_bit x (by omega) (by omega) _) hn (fun c hc2 hq => ?_) ?_
    · rcases hq with rfl | hq
      · exact .inr (.inl rfl)
      · by_cases hcn : c < nn
        · exact .inr (.inr (hc c hcn hq))
        · exact .inl (by omega)
    · rintro _ h1 n1 hn1 fr ⟨rfl, sv', x', hc'⟩
      have e7 : IntKind.i64.wrap ((i : Int) + 1) = ((i + 1 : Nat) : Int) := wrap_succ (by omega)
      try simp (disch := first | omega | assumption | exact one_int _ _ | exact one_slice _ _ _ | exact one_ptr _ | exact one_bool _ | exact one_string _) only [RXA, RXB, Nat.reduceAdd, Nat.reduceLT, wrap_id, wrap_succ, wrap_pred, FX1, FX2, FX3, Int.reduceBEq, Int.reduceBNe, Int.reduceLT, Int.reduceLE, Int.reduceEq, Int.reduceNe, Int.reduceAdd, Int.reduceSub, Int.reduceMul, Int.reduceNeg, e7]
      rw [show pushB (pushBs s (fieldB (v / 2 ^ (k - i)) i)) (decide (v / 2 ^ (k - 1 - i) % 2 = 1)) = pushBs s (fieldB (v / 2 ^ (k - (i + 1))) (i + 1)) by rw [← field_step v k i (by omega), pushBs_app]; rfl] at x'
      refine ih (i + 1) fu n1 h1 sv' (by omega) (by omega) (by omega) hw x' fun c hcn hq => ?_
      rcases hc' c hq with q | q
      · exact hc c hcn q
      · omega
theorem s_Put (x : WrAt h n w sv s t) {v k : Nat} (hk : k ≤ 32) (hv : v < 2 ^ k) (ht : t + 32 < 4611686018427387904) (hs : s.1.length + 33 ≤ 1099511627776) (hlf : 33 ≤ lf) : Run (fun c => c = w ∨ InBlk sv c) n (evCall2 Tryz.prog gt lf (d + 2) 65 #[.pointer (some ⟨w, 0, none⟩), .int .u32 (v : Int), .int .i64 (k : Int)]) h n fun v' h' n' => v' = .int .i64 0 ∧ ∃ sv', WrAt h' n' w sv' (pushBs s (fieldB v k)) (t + k) ∧ ∀ c, c < n → InBlk sv' c → InBlk sv c := by
  rw [sh_bits_Writer_Put]
  refine Run.inside_ ?_
  unfold b_bits_Writer_Put
  try simp (disch := first | omega | assumption | exact one_int _ _ | exact one_slice _ _ _ | exact one_ptr _ | exact one_bool _ | exact one_string _) only [RXA, RXB, Nat.reduceAdd, Nat.reduceLT, wrap_id, wrap_succ, wrap_pred, FX1, FX2, FX3, Int.reduceBEq, Int.reduceBNe, Int.reduceLT, Int.reduceLE, Int.reduceEq, Int.reduceNe, Int.reduceAdd, Int.reduceSub, Int.reduceMul, Int.reduceNeg]
  refine run_same (s_fits hk hv) (Nat.le_refl _) (fun _ _ h => h.elim) ?_
  try simp (disch := first | omega | assumption | exact one_int _ _ | exact one_slice _ _ _ | exact one_ptr _ | exact one_bool _ | exact one_string _) only [RXA, RXB, Nat.reduceAdd, Nat.reduceLT, wrap_id, wrap_succ, wrap_pred, FX1, FX2, FX3, Int.reduceBEq, Int.reduceBNe, Int.reduceLT, Int.reduceLE, Int.reduceEq, Int.reduceNe, Int.reduceAdd, Int.reduceSub, Int.reduceMul, Int.reduceNeg]
  exact put_loop hk hv ht hs (by have := x.len; omega) k 0 lf n h sv (by omega) (by omega) (Nat.le_refl _) x.lt (by rw [Nat.sub_zero]; exact x) (fun c _ q => q)
theorem s_wNew : Run (fun _ => False) n (evCall2 Tryz.prog gt lf (d + 1) 53 #[]) h n fun v h' n' => v = .pointer (some ⟨n, 0, none⟩) ∧ n' = n + 1 ∧ WrAt h' n' n (.slice none 0 0) ([], []) 0 := by
  rw [sh_bits_NewWriter]
  refine Run.inside_ ?_
  unfold b_bits_NewWriter
  try simp (disch := first | omega | assumption | exact one_int _ _ | exact one_slice _ _ _ | exact one_ptr _ | exact one_bool _ | exact one_string _) only [RXA, RXB, Nat.reduceAdd, Nat.reduceLT, wrap_id, wrap_succ, wrap_pred, FX1, FX2, FX3, Int.reduceBEq, Int.reduceBNe, Int.reduceLT, Int.reduceLE, Int.reduceEq, Int.reduceNe, Int.reduceAdd, Int.reduceSub, Int.reduceMul, Int.reduceNeg]
  refine run_box sz135 _ _ ?_
  try simp (disch := first | omega | assumption | exact one_int _ _ | exact one_slice _ _ _ | exact one_ptr _ | exact one_bool _ | exact one_string _) only [RXA, RXB, Nat.reduceAdd, Nat.reduceLT, wrap_id, wrap_succ, wrap_pred, FX1, FX2, FX3, Int.reduceBEq, Int.reduceBNe, Int.reduceLT, Int.reduceLE, Int.reduceEq, Int.reduceNe, Int.reduceAdd, Int.reduceSub, Int.reduceMul, Int.reduceNeg]
  exact ⟨get_eq _ _ _, by omega, Own.nil _ _ _ _, fun b hb => hb.not_nil.elim, rfl⟩
theorem s_wTake (x : WrAt h n w sv s t) : Run (fun c => c = w) n (evCall2 Tryz.prog gt lf (d + 1) 57 #[.pointer (some ⟨w, 0, none⟩)]) h n fun v h' n' => v = .string ⟨(bS s.1).toArray⟩ ∧ n' = n ∧ WrAt h' n w (.slice none 0 0) ([], s.2) t := by
  obtain ⟨gw, hw, ow, hne, hl⟩ := x
  have gw0 := gw
  unfold wrB at gw
  rw [sh_bits_Writer_Take]
  refine Run.inside_ ?_
  unfold b_bits_Writer_Take
  try simp (disch := first | omega | assumption | exact one_int _ _ | exact one_slice _ _ _ | exact one_ptr _ | exact one_bool _ | exact one_string _) only [RXA, RXB, Nat.reduceAdd, Nat.reduceLT, wrap_id, wrap_succ, wrap_pred, FX1, FX2, FX3, Int.reduceBEq, Int.reduceBNe, Int.reduceLT, Int.reduceLE, Int.reduceEq, Int.reduceNe, Int.reduceAdd, Int.reduceSub, Int.reduceMul, Int.reduceNeg, gw]
  have e : ∀ (v : Value) (k : Value → M Value), conv2 Tryz.prog 133 9 v k = (inside (evToStr v)).bind k := fun v k => by kernel_rfl
  rw [e]
  refine run_toStrO ow _ ?_
  try simp (disch := first | omega | assumption | exact one_int _ _ | exact one_slice _ _ _ | exact one_ptr _ | exact one_bool _ | exact one_string _) only [RXA, RXB, Nat.reduceAdd, Nat.reduceLT, wrap_id, wrap_succ, wrap_pred, FX1, FX2, FX3, Int.reduceBEq, Int.reduceBNe, Int.reduceLT, Int.reduceLE, Int.reduceEq, Int.reduceNe, Int.reduceAdd, Int.reduceSub, Int.reduceMul, Int.reduceNeg, gw]
  exact ⟨get_eq _ _ _, hw, Own.nil _ _ _ _, fun b hb => hb.not_nil.elim, hl⟩
end

end Go.Proofs.YthhhkplbjcknkaaGreatDoor

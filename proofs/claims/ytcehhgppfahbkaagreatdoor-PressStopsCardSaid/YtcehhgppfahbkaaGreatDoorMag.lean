import Derived.Test.YtcehhgppfahbkaaGreatDoorMae
import Derived.Test.YtcehhgppfahbkaaGreatDoorMaf
import Derived.Test.YtcehhgppfahbkaaGreatDoorMac
namespace Go.Proofs.YtcehhgppfahbkaaGreatDoor
set_option linter.unusedVariables false
set_option linter.unusedSimpArgs false
open Go.RowKit Ev

theorem the_law {f : FuncId} {ts : List TypeId} {vs : List Value} {w : World} (hw : Ev.GlobAt w) (ha : All2 (ArgR Tryz.prog w) ts vs) (r : ∀ n h vs0, Tryz.prog.globals.size ≤ n → h.get 1 = some ⟨3, false, gV⟩ → All2 (ArgH Tryz.prog h n) ts vs0 → Run (fun _ => False) n (evCall2 Tryz.prog gt 3000000 1000 f vs0.toArray) h n fun v _ _ => v = .bool true) :
    Calls Tryz.prog f vs.toArray w fun e w' => e = .returned (.bool true) ∧ Below w.heap.size w w' := by
  obtain ⟨m, x⟩ := laid_hG hw
  exact Ev.law_of ev_names ev_progK ev_mix known okd ha x fun n h vs0 hn hg q => r n h vs0 hn (by rw [hg _ (by decide +kernel)]; exact get_eq _ _ _) q
def Gd (h : H) (n : Nat) : Prop := h.get 1 = some ⟨3, false, gV⟩ ∧ 1 < n
theorem Gd.keep {h h' : H} {n n' : Nat} (x : Gd h n) (hn : n ≤ n') (hk : ∀ b, b < n → h'.get b = h.get b) : Gd h' n' := ⟨(hk _ x.2).trans x.1, Nat.lt_of_lt_of_le x.2 hn⟩
theorem Gd.of {h : H} {n : Nat} (hn : Tryz.prog.globals.size ≤ n) (hg : h.get 1 = some ⟨3, false, gV⟩) : Gd h n := ⟨hg, Nat.lt_of_lt_of_le (by decide +kernel) hn⟩
theorem k_letter (lf d n : Nat) (h : H) (x : Gd h n) : Run (fun _ => False) n (evCall2 Tryz.prog gt lf (d + 1) 32 #[]) h n fun v' h' n' => v' = .bool true ∧ h' = h ∧ n' = n := by
  obtain ⟨hg, hn⟩ := x
  have e : evCall2 Tryz.prog gt lf (d + 1) 32 #[] = (chkG Tryz.prog KG).bind fun _ => M.ret (.bool true) := by kernel_rfl
  rw [e]
  have rdg : ∀ (k : Nat) (v : Value), gV[k]? = some v → rd 1 k h n = some ⟨v, h, n, [⟨false, 1, some k⟩]⟩ := fun k v hk => by
    unfold rd
    simp only [hn, hg, hk, if_true]
  have hsz : decide (1 < Tryz.prog.globals.size) = true := by decide +kernel
  have stp : ∀ (k : Nat) (x : Int) (l : List (Nat × Nat × Value)) (L : List En), gV[k]? = some (.int .i64 x) → chkG Tryz.prog l h n = some ⟨(), h, n, L⟩ → chkG Tryz.prog ((1, k, .int .i64 x) :: l) h n = some ⟨(), h, n, [⟨false, 1, some k⟩] ++ L⟩ := fun k x l L hk hl => by
    unfold chkG
    refine bind_run (rdg k _ hk) ?_
    simp only [hsz, sameI, decide_true, Bool.and_self, if_true]
    exact hl
  have c := stp 0 200 _ _ rfl (stp 1 600 _ _ rfl (stp 2 1200 _ _ rfl (stp 3 2400 [] [] rfl rfl)))
  refine Run.step c (Nat.le_refl _) (by simp) ?_
  rw [run_ret]
  exact ⟨rfl, rfl, rfl⟩
theorem run_letter {lf d n n0 : Nat} {h : H} {W : Nat → Prop} (hn : n0 ≤ n) (x : Gd h n) : Run W n0 (kcl (evCall2 Tryz.prog gt lf (d + 1)) 32 [] fun v => outK [v]) h n fun v _ _ => v = .bool true := by
  refine run_same (k_letter lf d n h x) hn (fun _ _ h => h.elim) ?_
  rw [run_out1]

end Go.Proofs.YtcehhgppfahbkaaGreatDoor
namespace Go.Proofs.YtcehhgppfahbkaaGreatDoor
set_option linter.unusedVariables false
set_option linter.unusedSimpArgs false
open Go.RowKit Ev Tb

section
variable (lf d n : Nat) (h : H) (hlf : 3000000 ≤ lf)
include hlf
end
end Go.Proofs.YtcehhgppfahbkaaGreatDoor
namespace Go.Proofs.YtcehhgppfahbkaaGreatDoor
set_option linter.unusedVariables false
set_option linter.unusedSimpArgs false
open Go.RowKit Ev Tb

section
variable (lf d n : Nat) (h : H) (hlf : 3000000 ≤ lf)
include hlf
end
end Go.Proofs.YtcehhgppfahbkaaGreatDoor
namespace Go.Proofs.YtcehhgppfahbkaaGreatDoor
set_option linter.unusedVariables false
set_option linter.unusedSimpArgs false
open Go.RowKit Ev Tb

section
variable (lf d n : Nat) (h : H) (hlf : 3000000 ≤ lf)
include hlf
end
end Go.Proofs.YtcehhgppfahbkaaGreatDoor
namespace Go.Proofs.YtcehhgppfahbkaaGreatDoor
set_option linter.unusedVariables false
set_option linter.unusedSimpArgs false
open Go.RowKit Ev Hu

def cap (k : Nat) : Int := 2 ^ k + 2
end Go.Proofs.YtcehhgppfahbkaaGreatDoor
namespace Go.Proofs.YtcehhgppfahbkaaGreatDoor
set_option linter.unusedVariables false
set_option linter.unusedSimpArgs false
open Go.RowKit Ev Hu

abbrev RTr := Int × Nat × Value
def tv (t : RTr) : V3 := (.int .i64 t.1, .int .i64 (t.2.1 : Nat), t.2.2)
end Go.Proofs.YtcehhgppfahbkaaGreatDoor
namespace Go.Proofs.YtcehhgppfahbkaaGreatDoor
set_option linter.unusedVariables false
set_option linter.unusedSimpArgs false
open Ev Hu

section
variable {N : Nat} {w : Nat → Int} {I A B : Nat → Nat} {X R : Nat → List Nat} {dep : Nat → Nat}
end
end Go.Proofs.YtcehhgppfahbkaaGreatDoor
namespace Go.Proofs.YtcehhgppfahbkaaGreatDoor
set_option linter.unusedVariables false
set_option linter.unusedSimpArgs false
open Go.RowKit Ev Hu

end Go.Proofs.YtcehhgppfahbkaaGreatDoor
namespace Go.Proofs.YtcehhgppfahbkaaGreatDoor
set_option linter.unusedVariables false
set_option linter.unusedSimpArgs false
open Go.RowKit Ev Hu

end Go.Proofs.YtcehhgppfahbkaaGreatDoor
namespace Go.Proofs.YtcehhgppfahbkaaGreatDoor
set_option linter.unusedVariables false
set_option linter.unusedSimpArgs false
open Go.RowKit Ev Hu

end Go.Proofs.YtcehhgppfahbkaaGreatDoor
namespace Go.Proofs.YtcehhgppfahbkaaGreatDoor
set_option linter.unusedVariables false
set_option linter.unusedSimpArgs false
open Go.RowKit Ev Hu

end Go.Proofs.YtcehhgppfahbkaaGreatDoor
namespace Go.Proofs.YtcehhgppfahbkaaGreatDoor
set_option linter.unusedVariables false
set_option linter.unusedSimpArgs false
open Go.RowKit Ev Hu

end Go.Proofs.YtcehhgppfahbkaaGreatDoor
namespace Go.Proofs.YtcehhgppfahbkaaGreatDoor
set_option linter.unusedVariables false
set_option linter.unusedSimpArgs false
open Go.RowKit Ev Tb Hu

section
variable (lf d n : Nat) (h : H) (hlf : 3000000 ≤ lf)
include hlf
end
section
variable (lf d n : Nat) (h : H) (hlf : 3000000 ≤ lf)
include hlf
end
end Go.Proofs.YtcehhgppfahbkaaGreatDoor
namespace Go.Proofs.YtcehhgppfahbkaaGreatDoor
set_option linter.unusedVariables false
set_option linter.unusedSimpArgs false
open Go.RowKit Ev Tb

section
variable (lf d n : Nat) (h : H) (hlf : 3000000 ≤ lf)
include hlf
end
end Go.Proofs.YtcehhgppfahbkaaGreatDoor
namespace Go.Proofs.YtcehhgppfahbkaaGreatDoor
set_option linter.unusedVariables false
set_option linter.unusedSimpArgs false
open Go.RowKit Ev Tb

section
variable (lf d n : Nat) (h : H) (hlf : 3000000 ≤ lf)
include hlf
end
end Go.Proofs.YtcehhgppfahbkaaGreatDoor
namespace Go.Proofs.YtcehhgppfahbkaaGreatDoor
set_option linter.unusedVariables false
set_option linter.unusedSimpArgs false
open Go.RowKit Ev Tb

section
variable (lf d n : Nat) (h : H) (hlf : 3000000 ≤ lf)
include hlf
end
end Go.Proofs.YtcehhgppfahbkaaGreatDoor
namespace Go.Proofs.YtcehhgppfahbkaaGreatDoor
set_option linter.unusedVariables false
set_option linter.unusedSimpArgs false
open Go.RowKit Ev Tb

section
variable (lf d n : Nat) (h : H)
end
end Go.Proofs.YtcehhgppfahbkaaGreatDoor
namespace Go.Proofs.YtcehhgppfahbkaaGreatDoor
set_option linter.unusedVariables false
set_option linter.unusedSimpArgs false
open Go.RowKit Ev Tb

section
variable (lf d n : Nat) (h : H)
variable (hlf : 3000000 ≤ lf) (hd : 700 ≤ d)
include hlf hd
end
end Go.Proofs.YtcehhgppfahbkaaGreatDoor
namespace Go.Proofs.YtcehhgppfahbkaaGreatDoor
set_option linter.unusedVariables false
set_option linter.unusedSimpArgs false
open Go.RowKit Ev

def wrB (sv : Value) (rs : List Bool) (t : Nat) : AB := ⟨133, true, [sv, .int .u8 (restN rs : Int), .int .i64 (t : Int)]⟩
structure WrAt (h : H) (lo n w : Nat) (sv : Value) (s : List Nat × List Bool) (t : Nat) : Prop where
  get : h.get w = some (wrB sv s.2 t)
  lt : w < n
  ge : lo ≤ w
  own : Own h lo n 5 sv (u8V s.1)
  ne : ∀ b, InBlk sv b → b ≠ w
  len : s.2.length = t % 8
theorem WrAt.keep {h h' : H} {lo n n' w : Nat} {sv : Value} {s : List Nat × List Bool} {t : Nat} (x : WrAt h lo n w sv s t) (hn : n ≤ n') (hk : ∀ b, b < n → (b = w ∨ InBlk sv b) → h'.get b = h.get b) : WrAt h' lo n' w sv s t :=
  ⟨(hk w x.lt (.inl rfl)).trans x.get, Nat.lt_of_lt_of_le x.lt hn, x.ge, x.own.keep hn fun b hb => hk b (x.own.lt hb).2 (.inr hb), x.ne, x.len⟩
section
variable {lf d lo n w t : Nat} {h : H} {sv : Value} {s : List Nat × List Bool}
set_option maxRecDepth 4000 in
theorem s_bit (x : WrAt h lo n w sv s t) (ht : t < 4611686018427387904) (hs : s.1.length + 1 ≤ 1099511627776) (b : Bool) : Run (fun c => c = w ∨ InBlk sv c) n (evCall2 Tryz.prog gt lf (d + 1) 90 #[.pointer (some ⟨w, 0, none⟩), .int .u8 (bn b : Int)]) h n fun v h' n' => v = .tuple #[] ∧ ∃ sv', WrAt h' lo n' w sv' (pushB s b) (t + 1) ∧ ∀ c, InBlk sv' c → InBlk sv c ∨ n ≤ c := by
  obtain ⟨gw, hw, hge, ow, hne, hl⟩ := x
  obtain ⟨ws, rs⟩ := s
  simp only at gw ow hl hs
  have gw0 := gw
  unfold wrB at gw
  rw [shOf (fun _ => st_bits_Writer_bit) rfl]
  refine Run.inside_ ?_
  unfold b_bits_Writer_bit
  have e1 : ((t : Int)).tmod 8 = ((rs.length : Nat) : Int) := by rw [hl]; rfl
  have h8 : rs.length < 8 := by omega
  have e2 : IntKind.i64.wrap (7 - (rs.length : Int)) = ((7 - rs.length : Nat) : Int) := by rw [wrap_id (by omega) (by omega)]; omega
  have e3 := shl8 (bn_lt b) (show 7 - rs.length ≤ 7 by omega)
  rw [Int.toNat_natCast] at e3
  have e4 := or8 (restN_lt (r := rs) (by omega)) (show bn b * 2 ^ (7 - rs.length) < 256 by
    have h1 := bn_lt b
    have h2 : 2 ^ (7 - rs.length) ≤ 2 ^ 7 := Nat.pow_le_pow_right (by decide) (by omega)
    have : bn b * 2 ^ (7 - rs.length) ≤ 1 * 2 ^ 7 := Nat.mul_le_mul (by omega) h2
    omega)
  rw [restN_push h8 b] at e4
  have e5 : (0 : Int) ≤ ((7 - rs.length : Nat) : Int) := by omega
  by_cases h7 : rs.length = 7
  · have e6 : (((rs.length : Nat) : Int) == 7) = true := by rw [h7]; rfl
    try simp (disch := first | omega | assumption | exact Int.natCast_nonneg _) only [Nat.reduceAdd, Nat.reduceLT, RZ, Int.reduceBEq, Int.reduceBNe, Int.reduceLT, Int.reduceLE, Int.reduceEq, Int.reduceNe, Int.reduceAdd, Int.reduceSub, Int.reduceMul, Int.reduceNeg, gw, e1, e2, e3, e4, e5, e6]
    have o1 : Own ((h.set w (some ⟨133, true, [sv, .int .u8 (restN (rs ++ [b]) : Int), .int .i64 (t : Int)]⟩)).set w (some ⟨133, true, [sv, .int .u8 (restN (rs ++ [b]) : Int), .int .i64 ((t : Int) + 1)]⟩)) lo n 5 sv (u8V ws) := ow.keep (Nat.le_refl _) fun c hc => by rw [get_ne _ _ (hne c hc), get_ne _ _ (hne c hc)]
    refine run_pushW trivial (one_int _ _) o1 (by rw [u8V_len]; exact hs) (fun c hc => .inr (.inr hc)) _ fun h' hg hk => ?_
    have g1 : h'.get w = some ⟨133, true, [sv, .int .u8 (restN (rs ++ [b]) : Int), .int .i64 ((t : Int) + 1)]⟩ := by rw [hk w hw (fun q => hne w q rfl), get_eq]
    have hn1 : w ≠ n + 1 := by omega
    try simp (disch := first | omega | assumption | exact Int.natCast_nonneg _) only [Nat.reduceAdd, Nat.reduceLT, RZ, Int.reduceBEq, Int.reduceBNe, Int.reduceLT, Int.reduceLE, Int.reduceEq, Int.reduceNe, Int.reduceAdd, Int.reduceSub, Int.reduceMul, Int.reduceNeg, g1, true_or, or_true]
    have hp : pushB (ws, rs) b = (ws ++ [num (rs ++ [b]) 0], []) := by unfold pushB; rw [if_pos h7]
    have hr : restN (rs ++ [b]) = num (rs ++ [b]) 0 := by unfold restN; simp [h7]
    refine ⟨_, ⟨by rw [get_eq]; unfold wrB; rw [hp]; rfl, by omega, hge, ?_, fun c hc => by rw [hc.inj]; omega, ?_⟩, fun c hc => .inr (by rw [hc.inj]; omega)⟩
    · rw [hp]
      rw [u8V_len]
      refine .inr ⟨n + 1, by simp [u8V_len], ?_, by omega, by omega⟩
      rw [get_ne _ _ (by omega), get_ne _ _ (by omega), hg, hr, u8V_app]
      rfl
    · rw [hp]
      simp; omega
  · have e6 : (((rs.length : Nat) : Int) == 7) = false := by simpa using fun e : ((rs.length : Nat) : Int) = 7 => h7 (by omega)
    try simp (disch := first | omega | assumption | exact Int.natCast_nonneg _) only [Nat.reduceAdd, Nat.reduceLT, RZ, Int.reduceBEq, Int.reduceBNe, Int.reduceLT, Int.reduceLE, Int.reduceEq, Int.reduceNe, Int.reduceAdd, Int.reduceSub, Int.reduceMul, Int.reduceNeg, gw, e1, e2, e3, e4, e5, e6]
    have hp : pushB (ws, rs) b = (ws, rs ++ [b]) := by unfold pushB; rw [if_neg h7]
    refine ⟨sv, ⟨by rw [get_eq, hp]; rfl, hw, hge, ?_, hne, by rw [hp]; simp; omega⟩, fun c hc => .inl hc⟩
    rw [hp]
    exact ow.keep (Nat.le_refl _) fun c hc => by rw [get_ne _ _ (hne c hc), get_ne _ _ (hne c hc)]
end

theorem field_step (v n i : Nat) (h : i < n) : fieldB (v / 2 ^ (n - i)) i ++ [decide (v / 2 ^ (n - 1 - i) % 2 = 1)] = fieldB (v / 2 ^ (n - (i + 1))) (i + 1) := by
  show _ = fieldB (v / 2 ^ (n - (i + 1)) / 2) i ++ _
  rw [Nat.div_div_eq_div_mul, ← Nat.pow_succ, show (n - (i + 1)).succ = n - i by omega, show n - (i + 1) = n - 1 - i by omega]
section
variable {lf d lo n w t : Nat} {h : H} {sv : Value} {s : List Nat × List Bool}
theorem s_fits {v k : Nat} (hk : k ≤ 32) (hv : v < 2 ^ k) : Run (fun _ => False) n (evCall2 Tryz.prog gt lf (d + 1) 89 #[.int .u32 (v : Int), .int .i64 (k : Int)]) h n fun v' h' n' => v' = .bool true ∧ h' = h ∧ n' = n := by
  rw [shOf (fun _ => st_bits_fits) rfl]
  refine Run.inside_ ?_
  unfold b_bits_fits
  have e1 : (0 : Int) ≤ (k : Int) := by omega
  have e2 : (k : Int) ≤ 32 := by omega
  have hv32 : v < 4294967296 := Nat.lt_of_lt_of_le hv (Nat.pow_le_pow_right (by decide) hk)
  have e3 : IntKind.u64.wrap (v : Int) = (v : Int) := IntWalk.u64_in _ (by omega)
  have e4 := fdiv_pow v k (IntKind.u64).bits (by simp [IntKind.bits]; omega)
  rw [Int.toNat_natCast, Nat.div_eq_of_lt hv] at e4
  try simp (disch := first | omega | assumption | exact Int.natCast_nonneg _) only [Nat.reduceAdd, Nat.reduceLT, RZ, Int.reduceBEq, Int.reduceBNe, Int.reduceLT, Int.reduceLE, Int.reduceEq, Int.reduceNe, Int.reduceAdd, Int.reduceSub, Int.reduceMul, Int.reduceNeg, e1, e2, e3, e4]
  rfl
theorem put_loop {v k : Nat} (hk : k ≤ 32) (hv : v < 2 ^ k) {x6 x8 x11 : Value} (hlt : t + 32 < 4611686018427387904) (hs : s.1.length + 33 ≤ 1099511627776) {nn : Nat} (hs8 : s.2.length < 8) : ∀ (m i fu n : Nat) (h : H) (si : Value), i + m = k → m < fu → nn ≤ n → w < nn → WrAt h lo n w si (pushBs s (fieldB (v / 2 ^ (k - i)) i)) (t + i) → (∀ c, c < nn → InBlk si c → InBlk sv c) →
    Run (fun c => c = w ∨ InBlk sv c) nn (lpA_bits_Writer_Put lf (evCall2 Tryz.prog gt lf (d + 1)) fu (kcA_bits_Writer_Put lf (evCall2 Tryz.prog gt lf (d + 1))) (.pointer (some ⟨w, 0, none⟩)) (.int .u32 (v : Int)) (.int .i64 (k : Int)) x6 x8 x11 (.int .i64 (k : Int)) (.int .i64 (i : Int))) h n fun v' h' n' => v' = .int .i64 0 ∧ ∃ sv', WrAt h' lo n' w sv' (pushBs s (fieldB v k)) (t + k) ∧ ∀ c, c < nn → InBlk sv' c → InBlk sv c := by
  intro m
  induction m with
  | zero =>
    intro i fu n h si hi hf hn hw x hc
    obtain ⟨fu, rfl⟩ : ∃ f, fu = f + 1 := ⟨fu - 1, by omega⟩
    obtain rfl : i = k := by omega
    rw [lpA_bits_Writer_Put]
    have e0 : ¬ ((i : Int) < (i : Int)) := by omega
    try simp (disch := first | omega | assumption | exact Int.natCast_nonneg _) only [Nat.reduceAdd, Nat.reduceLT, RZ, Int.reduceBEq, Int.reduceBNe, Int.reduceLT, Int.reduceLE, Int.reduceEq, Int.reduceNe, Int.reduceAdd, Int.reduceSub, Int.reduceMul, Int.reduceNeg, e0]
    (try unfold kcA_bits_Writer_Put); (try dsimp only)
    try simp (disch := first | omega | assumption | exact Int.natCast_nonneg _) only [Nat.reduceAdd, Nat.reduceLT, RZ, Int.reduceBEq, Int.reduceBNe, Int.reduceLT, Int.reduceLE, Int.reduceEq, Int.reduceNe, Int.reduceAdd, Int.reduceSub, Int.reduceMul, Int.reduceNeg]
    rw [Nat.sub_self, Nat.pow_zero, Nat.div_one] at x
    exact ⟨si, x, hc⟩
  | succ m ih =>
    intro i fu n h si hi hf hn hw x hc
    obtain ⟨fu, rfl⟩ : ∃ f, fu = f + 1 := ⟨fu - 1, by omega⟩
    rw [lpA_bits_Writer_Put]
    have e0 : (i : Int) < (k : Int) := by omega
    have e1 : IntKind.i64.wrap ((k : Int) - 1 - (i : Int)) = ((k - 1 - i : Nat) : Int) := by rw [wrap_id (by omega) (by omega)]; omega
    have e2 : IntKind.i64.wrap ((k : Int) - 1) = (k : Int) - 1 := wrap_id (by omega) (by omega)
    have e3 : (0 : Int) ≤ ((k - 1 - i : Nat) : Int) := by omega
    have e4 := fdiv_pow v (k - 1 - i) (IntKind.u32).bits (by simp [IntKind.bits]; omega)
    rw [Int.toNat_natCast] at e4
    have hv32 : v < 4294967296 := Nat.lt_of_lt_of_le hv (Nat.pow_le_pow_right (by decide) hk)
    have e5 := and32_1 (Nat.lt_of_le_of_lt (Nat.div_le_self v (2 ^ (k - 1 - i))) hv32)
    have e6 : IntKind.u8.wrap ((v / 2 ^ (k - 1 - i) % 2 : Nat) : Int) = (bn (decide (v / 2 ^ (k - 1 - i) % 2 = 1)) : Int) := by rw [bn_mod]; exact w8 (by omega)
    try simp (disch := first | omega | assumption | exact Int.natCast_nonneg _) only [Nat.reduceAdd, Nat.reduceLT, RZ, Int.reduceBEq, Int.reduceBNe, Int.reduceLT, Int.reduceLE, Int.reduceEq, Int.reduceNe, Int.reduceAdd, Int.reduceSub, Int.reduceMul, Int.reduceNeg, e0, e1, e2, e3, e4, e5, e6]
    have hl : (pushBs s (fieldB (v / 2 ^ (k - i)) i)).1.length ≤ s.1.length + i := by
      have := pushBs_wlen (fieldB (v / 2 ^ (k - i)) i) s
      rw [fieldB_len] at this
      exact this
    refine run_call okd (s_bit x (by omega) (by omega) _) hn (fun c hc2 hq => ?_) ?_
    · rcases hq with rfl | hq
      · exact .inr (.inl rfl)
      · by_cases hcn : c < nn
        · exact .inr (.inr (hc c hcn hq))
        · exact .inl (by omega)
    · rintro _ h1 n1 hn1 fr ⟨rfl, sv', x', hc'⟩
      have e7 : IntKind.i64.wrap ((i : Int) + 1) = ((i + 1 : Nat) : Int) := wrap_succ (by omega)
      try simp (disch := first | omega | assumption | exact Int.natCast_nonneg _) only [Nat.reduceAdd, Nat.reduceLT, RZ, Int.reduceBEq, Int.reduceBNe, Int.reduceLT, Int.reduceLE, Int.reduceEq, Int.reduceNe, Int.reduceAdd, Int.reduceSub, Int.reduceMul, Int.reduceNeg, e7]
      rw [show pushB (pushBs s (fieldB (v / 2 ^ (k - i)) i)) (decide (v / 2 ^ (k - 1 - i) % 2 = 1)) = pushBs s (fieldB (v / 2 ^ (k - (i + 1))) (i + 1)) by rw [← field_step v k i (by omega), pushBs_app]; rfl] at x'
      refine ih (i + 1) fu n1 h1 sv' (by omega) (by omega) (by omega) hw x' fun c hcn hq => ?_
      rcases hc' c hq with q | q
      · exact hc c hcn q
      · omega
theorem s_Put (x : WrAt h lo n w sv s t) {v k : Nat} (hk : k ≤ 32) (hv : v < 2 ^ k) (ht : t + 32 < 4611686018427387904) (hs : s.1.length + 33 ≤ 1099511627776) (hlf : 33 ≤ lf) : Run (fun c => c = w ∨ InBlk sv c) n (evCall2 Tryz.prog gt lf (d + 2) 56 #[.pointer (some ⟨w, 0, none⟩), .int .u32 (v : Int), .int .i64 (k : Int)]) h n fun v' h' n' => v' = .int .i64 0 ∧ ∃ sv', WrAt h' lo n' w sv' (pushBs s (fieldB v k)) (t + k) ∧ ∀ c, c < n → InBlk sv' c → InBlk sv c := by
  rw [shOf (fun _ => st_bits_Writer_Put) rfl]
  refine Run.inside_ ?_
  unfold b_bits_Writer_Put
  try simp (disch := first | omega | assumption | exact Int.natCast_nonneg _) only [Nat.reduceAdd, Nat.reduceLT, RZ, Int.reduceBEq, Int.reduceBNe, Int.reduceLT, Int.reduceLE, Int.reduceEq, Int.reduceNe, Int.reduceAdd, Int.reduceSub, Int.reduceMul, Int.reduceNeg]
  refine run_same (s_fits hk hv) (Nat.le_refl _) (fun _ _ h => h.elim) ?_
  try simp (disch := first | omega | assumption | exact Int.natCast_nonneg _) only [Nat.reduceAdd, Nat.reduceLT, RZ, Int.reduceBEq, Int.reduceBNe, Int.reduceLT, Int.reduceLE, Int.reduceEq, Int.reduceNe, Int.reduceAdd, Int.reduceSub, Int.reduceMul, Int.reduceNeg]
  exact put_loop hk hv ht hs (by have := x.len; omega) k 0 lf n h sv (by omega) (by omega) (Nat.le_refl _) x.lt (by rw [Nat.sub_zero]; exact x) (fun c _ q => q)
theorem s_wNew : Run (fun _ => False) n (evCall2 Tryz.prog gt lf (d + 1) 55 #[]) h n fun v h' n' => v = .pointer (some ⟨n, 0, none⟩) ∧ n' = n + 1 ∧ WrAt h' n n' n (.slice none 0 0) ([], []) 0 := by
  rw [shOf (fun _ => st_bits_NewWriter) rfl]
  refine Run.inside_ ?_
  unfold b_bits_NewWriter
  try simp (disch := first | omega | assumption | exact Int.natCast_nonneg _) only [Nat.reduceAdd, Nat.reduceLT, RZ, Int.reduceBEq, Int.reduceBNe, Int.reduceLT, Int.reduceLE, Int.reduceEq, Int.reduceNe, Int.reduceAdd, Int.reduceSub, Int.reduceMul, Int.reduceNeg]
  refine run_box trivial _ _ ?_
  try simp (disch := first | omega | assumption | exact Int.natCast_nonneg _) only [Nat.reduceAdd, Nat.reduceLT, RZ, Int.reduceBEq, Int.reduceBNe, Int.reduceLT, Int.reduceLE, Int.reduceEq, Int.reduceNe, Int.reduceAdd, Int.reduceSub, Int.reduceMul, Int.reduceNeg]
  exact ⟨get_eq _ _ _, by omega, Nat.le_refl _, Own.nil _ _ _ _, fun b hb => hb.not_nil.elim, rfl⟩
theorem s_wTake (x : WrAt h lo n w sv s t) : Run (fun c => c = w) n (evCall2 Tryz.prog gt lf (d + 1) 58 #[.pointer (some ⟨w, 0, none⟩)]) h n fun v h' n' => v = .string ⟨(bS s.1).toArray⟩ ∧ n' = n ∧ WrAt h' lo n w (.slice none 0 0) ([], s.2) t := by
  obtain ⟨gw, hw, hge, ow, hne, hl⟩ := x
  have gw0 := gw
  unfold wrB at gw
  rw [shOf (fun _ => st_bits_Writer_Take) rfl]
  refine Run.inside_ ?_
  unfold b_bits_Writer_Take
  try simp (disch := first | omega | assumption | exact Int.natCast_nonneg _) only [Nat.reduceAdd, Nat.reduceLT, RZ, Int.reduceBEq, Int.reduceBNe, Int.reduceLT, Int.reduceLE, Int.reduceEq, Int.reduceNe, Int.reduceAdd, Int.reduceSub, Int.reduceMul, Int.reduceNeg, gw]
  refine run_toStrO ow _ ?_
  try simp (disch := first | omega | assumption | exact Int.natCast_nonneg _) only [Nat.reduceAdd, Nat.reduceLT, RZ, Int.reduceBEq, Int.reduceBNe, Int.reduceLT, Int.reduceLE, Int.reduceEq, Int.reduceNe, Int.reduceAdd, Int.reduceSub, Int.reduceMul, Int.reduceNeg, gw]
  exact ⟨get_eq _ _ _, hw, hge, Own.nil _ _ _ _, fun b hb => hb.not_nil.elim, hl⟩
end

end Go.Proofs.YtcehhgppfahbkaaGreatDoor
namespace Go.Proofs.YtcehhgppfahbkaaGreatDoor
set_option linter.unusedVariables false
set_option linter.unusedSimpArgs false
open Go.RowKit Ev

def WOn (h : H) (lo n w : Nat) (sv : Value) (l : List Bool) : Prop := WrAt h lo n w sv (pushBs ([], []) l) l.length
def bytesB (l : List Bool) : List Nat := (pushBs ([], []) l).1
theorem WOn.keep {h h' : H} {lo n n' w : Nat} {sv : Value} {l : List Bool} (x : WOn h lo n w sv l) (hn : n ≤ n') (hk : ∀ b, b < n → (b = w ∨ InBlk sv b) → h'.get b = h.get b) : WOn h' lo n' w sv l := WrAt.keep x hn hk
theorem push0_wlen (l : List Bool) : (pushBs ([], []) l).1.length ≤ l.length := by
  have := pushBs_wlen l ([], [])
  simpa using this
section
variable {lf d lo n w : Nat} {h : H} {sv : Value} {l : List Bool}
theorem s_wPut (x : WOn h lo n w sv l) {v k : Nat} (hk : k ≤ 32) (hv : v < 2 ^ k) (hl : l.length ≤ 1000000000) (hlf : 33 ≤ lf) : Run (fun c => c = w ∨ InBlk sv c) n (evCall2 Tryz.prog gt lf (d + 2) 56 #[.pointer (some ⟨w, 0, none⟩), .int .u32 (v : Int), .int .i64 (k : Int)]) h n fun v' h' n' => v' = .int .i64 0 ∧ ∃ sv', WOn h' lo n' w sv' (l ++ fieldB v k) ∧ ∀ c, c < n → InBlk sv' c → InBlk sv c := by
  have hw := push0_wlen l
  refine (s_Put (lf := lf) (d := d) x hk hv (by omega) (by omega) hlf).mono ?_
  rintro v' h' n' _ ⟨rfl, sv', x', hc⟩
  refine ⟨rfl, sv', ?_, hc⟩
  unfold WOn
  rw [pushBs_app, List.length_append, fieldB_len]
  exact x'
theorem s_wNew0 : Run (fun _ => False) n (evCall2 Tryz.prog gt lf (d + 1) 55 #[]) h n fun v h' n' => v = .pointer (some ⟨n, 0, none⟩) ∧ n' = n + 1 ∧ WOn h' n n' n (.slice none 0 0) [] := s_wNew
theorem s_wTake0 (x : WOn h lo n w sv l) : Run (fun c => c = w) n (evCall2 Tryz.prog gt lf (d + 1) 58 #[.pointer (some ⟨w, 0, none⟩)]) h n fun v h' n' => v = .string ⟨(bS (bytesB l)).toArray⟩ ∧ n' = n := (s_wTake (lf := lf) (d := d) x).mono fun _ _ _ _ q => ⟨q.1, q.2.1⟩

end
end Go.Proofs.YtcehhgppfahbkaaGreatDoor
namespace Go.Proofs.YtcehhgppfahbkaaGreatDoor
set_option linter.unusedVariables false
set_option linter.unusedSimpArgs false
open Go.RowKit Ev Sp Cn Ip

abbrev b3 : List UInt8 := [66, 90, 104]
def bits3 (i : Nat) : List Bool := (b3.take i).flatMap fun c => fieldB c.toNat 8
theorem bits3_next (i : Nat) (h : i < 3) : bits3 i ++ fieldB (b3.getD i 0).toNat 8 = bits3 (i + 1) := by
  match i, h with
  | 0, _ => decide
  | 1, _ => decide
  | 2, _ => decide
theorem bits3_len (i : Nat) : (bits3 i).length ≤ 24 := by
  match i with
  | 0 => decide
  | 1 => decide
  | 2 => decide
  | k + 3 => exact Nat.le_of_eq (by unfold bits3; rw [List.take_of_length_le (by show 3 ≤ k + 3; omega)]; rfl)
def hd4 (l : Nat) : List Nat := [66, 90, 104, 48 + l]
theorem hd4_bits {l : Nat} (h1 : 1 ≤ l) (h2 : l ≤ 9) : bytesB (bits3 3 ++ fieldB (48 + l) 8) = hd4 l := by
  obtain rfl | rfl | rfl | rfl | rfl | rfl | rfl | rfl | rfl : l = 1 ∨ l = 2 ∨ l = 3 ∨ l = 4 ∨ l = 5 ∨ l = 6 ∨ l = 7 ∨ l = 8 ∨ l = 9 := by omega
  all_goals decide
def stwB (w : Nat) : AB := ⟨93, true, [.pointer (some ⟨w, 0, none⟩), .int .u32 0, .bool false]⟩
def sNewQ (n l : Nat) (v : Value) (h' : H) (n' : Nat) : Prop := ∃ p w sv, v = .tuple #[.pointer (some ⟨p, 0, none⟩), .int .i64 0] ∧ n ≤ p ∧ n ≤ w ∧ p < n' ∧ p ≠ w ∧ h'.get p = some (stwB w) ∧ WOn h' n n' w sv (bits3 3 ++ fieldB (48 + l) 8)
section
variable {lf d n : Nat} {h : H}
theorem s_stNew (hlf : 100 ≤ lf) {l : Nat} (h1 : 1 ≤ l) (h2 : l ≤ 9) : Run (fun _ => False) n (evCall2 Tryz.prog gt lf (d + 3) 18 #[.int .i64 (l : Int)]) h n (sNewQ n l) := by
  rw [shOf (fun _ => st_stream_New) rfl]
  refine Run.inside_ ?_
  unfold b_stream_New
  have e1 : ¬ (l : Int) < 1 := by omega
  have e2 : ¬ (9 : Int) < (l : Int) := by omega
  try simp (disch := first | omega | assumption | exact Int.natCast_nonneg _) only [Nat.reduceAdd, Nat.reduceLT, RZ, e1, e2]
  refine run_call okd (s_wNew0 (h := h)) (Nat.le_refl _) (fun _ _ h => h.elim) ?_
  rintro _ hh1 _ _ _ ⟨rfl, rfl, x0⟩
  try simp (disch := first | omega | assumption | exact Int.natCast_nonneg _) only [Nat.reduceAdd, Nat.reduceLT, RZ]
  refine run_box trivial _ _ ?_
  obtain ⟨h2', hh2⟩ : ∃ h2', hh1.set (n + 1) (some ⟨93, true, [.pointer (some ⟨n, 0, none⟩), .int .u32 0, .bool false]⟩) = h2' := ⟨_, rfl⟩
  have x1 : WOn h2' n (n + 1 + 1) n (.slice none 0 0) (bits3 0) := x0.keep (by omega) fun b hb _ => by rw [← hh2]; exact get_ne _ _ (by omega)
  have gp : h2'.get (n + 1) = some (stwB n) := by rw [← hh2]; exact get_eq _ _ _
  have x1n : ∀ c, InBlk (.slice none 0 0) c → c ≠ n + 1 := fun c hc => hc.not_nil.elim
  have x1l : ∀ c, InBlk (.slice none 0 0) c → n ≤ c := fun c hc => hc.not_nil.elim
  show Run _ _ _ (hh1.set (n + 1) (some ⟨93, true, [.pointer (some ⟨n, 0, none⟩), .int .u32 0, .bool false]⟩)) _ _
  rw [hh2]
  clear hh2
  try simp (disch := first | omega | assumption | exact Int.natCast_nonneg _) only [Nat.reduceAdd, Nat.reduceLT, RZ]
  have loop : ∀ (m i fu n1 : Nat) (g : H) (sv : Value), i + m = 3 → m < fu → n + 2 ≤ n1 → g.get (n + 1) = some (stwB n) → WOn g n n1 n sv (bits3 i) → (∀ c, InBlk sv c → c ≠ n + 1) → (∀ c, InBlk sv c → n ≤ c) → Run (fun _ => False) n (lpA_stream_New lf (evCall2 Tryz.prog gt lf (d + 2)) fu (kcA_stream_New lf (evCall2 Tryz.prog gt lf (d + 2))) (.int .i64 (l : Int)) (.pointer none) (.int .i64 0) (.pointer (some ⟨n + 1, 0, none⟩)) (.bool false) (.int .i64 (i : Int))) g n1 (sNewQ n l) := by
    intro m
    induction m with
    | zero =>
      intro i fu n1 g sv hi hf hn1 gg xx xn xl
      obtain ⟨fu, rfl⟩ : ∃ f, fu = f + 1 := ⟨fu - 1, by omega⟩
      obtain rfl : i = 3 := by omega
      rw [lpA_stream_New]
      have z : ¬ ((3 : Nat) : Int) < 3 := by decide
      have e4 : IntKind.i64.wrap (48 + (l : Int)) = ((48 + l : Nat) : Int) := by rw [wrap_id (by omega) (by omega)]; rfl
      have e5 : IntKind.u32.wrap ((48 + l : Nat) : Int) = ((48 + l : Nat) : Int) := IntWalk.u32_in _ (by omega)
      have l1 : n + 1 < n1 := by omega
      have gg0 := gg
      unfold stwB at gg
      try simp (disch := first | omega | assumption | exact Int.natCast_nonneg _) only [Nat.reduceAdd, Nat.reduceLT, RZ, z]
      unfold kcA_stream_New
      try simp (disch := first | omega | assumption | exact Int.natCast_nonneg _) only [Nat.reduceAdd, Nat.reduceLT, RZ, gg, e4, e5]
      have b3l : (bits3 3).length ≤ 24 := bits3_len 3
      have sp := s_wPut (lf := lf) (d := d) xx (v := 48 + l) (k := 8) (by decide) (by show 48 + l < 256; omega) (by omega) (by omega)
      have e8 : ((8 : Nat) : Int) = 8 := rfl
      rw [e8] at sp
      refine run_call okd sp (by omega) (fun b hb hq => .inl ?_) ?_
      · rcases hq with rfl | hq
        · exact Nat.le_refl _
        · exact xl b hq
      · rintro _ g4 m4 hm4 fr ⟨rfl, s4, x4, hc4⟩
        try simp (disch := first | omega | assumption | exact Int.natCast_nonneg _) only [Nat.reduceAdd, Nat.reduceLT, RZ]
        refine ⟨n + 1, n, s4, rfl, by omega, Nat.le_refl _, by omega, by omega, ?_, x4⟩
        rw [fr (n + 1) (by omega) (fun q => q.elim (fun q => by omega) fun q => xn _ q rfl)]
        exact gg0
    | succ m ih =>
      intro i fu n1 g sv hi hf hn1 gg xx xn xl
      obtain ⟨fu, rfl⟩ : ∃ f, fu = f + 1 := ⟨fu - 1, by omega⟩
      have z : ((i : Nat) : Int) < 3 := by omega
      have l1 : n + 1 < n1 := by omega
      have bl := bits3_len i
      rw [lpA_stream_New]
      try simp (disch := first | omega | assumption | exact Int.natCast_nonneg _) only [Nat.reduceAdd, Nat.reduceLT, RZ, z]
      refine timed_ldB (m := n1) trivial (n + 1) 0 _ gg l1 (Nat.le_refl _) rfl fun T0 r0 => ?_
      have es : (ByteArray.mk #[66, 90, 104]) = ⟨b3.toArray⟩ := rfl
      have zl : ((i : Nat) : Int) < ((b3.length : Nat) : Int) := z
      have hlt : (b3.getD i 0).toNat < 256 := (b3.getD i 0).toNat_lt
      have e4 : IntKind.u32.wrap (((b3.getD i 0).toNat : Nat) : Int) = ((b3.getD i 0).toNat : Int) := IntWalk.u32_in _ (by omega)
      try simp (disch := first | omega | assumption | exact Int.natCast_nonneg _) only [Nat.reduceAdd, Nat.reduceLT, RZ, es, zl, e4]
      refine timed_retB (m := n1) _ _ (Nat.le_refl _) fun T1 r1 => ?_
      try simp (disch := first | omega | assumption | exact Int.natCast_nonneg _) only [Nat.reduceAdd, Nat.reduceLT, RZ]
      have sp := s_wPut (lf := lf) (d := d) xx (v := (b3.getD i 0).toNat) (k := 8) (by decide) hlt (by omega) (by omega)
      have e8 : ((8 : Nat) : Int) = 8 := rfl
      rw [e8] at sp
      refine timed_call' okd sp (by omega) (fun b hb hq => .inl ?_) ?_
      · rcases hq with rfl | hq
        · exact Nat.le_refl _
        · exact xl b hq
      · rintro _ g1 m1 T2 hm1 fr ⟨rfl, sv', x', hc'⟩
        have e5 : IntKind.i64.wrap ((i : Int) + 1) = ((i + 1 : Nat) : Int) := wrap_succ (by omega)
        try simp (disch := first | omega | assumption | exact Int.natCast_nonneg _) only [Nat.reduceAdd, Nat.reduceLT, RZ, r0.clash r1, Bool.not_false, chk_true]
        have xl' : ∀ c, InBlk sv' c → n ≤ c ∧ c ≠ n + 1 := fun c hq => by
          by_cases hcm : c < n1
          · exact ⟨xl c (hc' c hcm hq), xn c (hc' c hcm hq)⟩
          · omega
        rw [bits3_next i (by omega)] at x'
        exact ih (i + 1) fu m1 g1 sv' (by omega) (by omega) (by omega) ((fr (n + 1) (by omega) (fun q => q.elim (fun q => by omega) fun q => xn _ q rfl)).trans gg) x' (fun c hq => (xl' c hq).2) fun c hq => (xl' c hq).1
  have := loop 3 0 lf (n + 1 + 1) h2' _ rfl (by omega) (by omega) gp x1 x1n x1l
  exact this
end
end Go.Proofs.YtcehhgppfahbkaaGreatDoor
namespace Go.Proofs.YtcehhgppfahbkaaGreatDoor
set_option linter.unusedVariables false
set_option linter.unusedSimpArgs false
open Go.RowKit Ev Sp Cn Ip

def mayP (l u w : Int) : Bool := decide (1 ≤ l) && decide (l ≤ 9) && (decide (24 ≤ u) && decide (u ≤ 100000)) && (decide (64 ≤ w) && decide (w ≤ 1048576))
theorem mayP_of {l u w : Int} (h : mayP l u w = true) : 1 ≤ l ∧ l ≤ 9 ∧ 24 ≤ u ∧ u ≤ 100000 ∧ 64 ≤ w ∧ w ≤ 1048576 := by
  unfold mayP at h
  simp only [Bool.and_eq_true, decide_eq_true_eq] at h
  omega
def sS (w : Int) : PS := ⟨[], [], (0, 0), [], false, 0, false, 0⟩
section
variable {lf d n : Nat} {h : H}
theorem s_rLevel (l : Int) : Run (fun _ => False) n (evCall2 Tryz.prog gt lf (d + 1) 12 #[.int .i64 l]) h n fun v h' n' => v = .bool (decide (1 ≤ l) && decide (l ≤ 9)) ∧ h' = h ∧ n' = n := by
  rw [shOf (fun _ => st_balerref21_Level) rfl]
  refine Run.inside_ ?_
  unfold b_balerref21_Level
  by_cases e1 : (1 : Int) ≤ l
  · rw [decide_eq_true e1]
    try simp (disch := first | omega | assumption | exact Int.natCast_nonneg _) only [Nat.reduceAdd, Nat.reduceLT, RZ, e1]
  · rw [decide_eq_false e1]
    try simp (disch := first | omega | assumption | exact Int.natCast_nonneg _) only [Nat.reduceAdd, Nat.reduceLT, RZ, e1]
theorem s_rUnit (l : Int) : Run (fun _ => False) n (evCall2 Tryz.prog gt lf (d + 1) 13 #[.int .i64 l]) h n fun v h' n' => v = .bool (decide (24 ≤ l) && decide (l ≤ 100000)) ∧ h' = h ∧ n' = n := by
  rw [shOf (fun _ => st_balerref21_Unit) rfl]
  refine Run.inside_ ?_
  unfold b_balerref21_Unit
  by_cases e1 : (24 : Int) ≤ l
  · rw [decide_eq_true e1]
    try simp (disch := first | omega | assumption | exact Int.natCast_nonneg _) only [Nat.reduceAdd, Nat.reduceLT, RZ, e1]
  · rw [decide_eq_false e1]
    try simp (disch := first | omega | assumption | exact Int.natCast_nonneg _) only [Nat.reduceAdd, Nat.reduceLT, RZ, e1]
theorem s_windowed (l : Int) : Run (fun _ => False) n (evCall2 Tryz.prog gt lf (d + 1) 69 #[.int .i64 l]) h n fun v h' n' => v = .bool (decide (64 ≤ l) && decide (l ≤ 1048576)) ∧ h' = h ∧ n' = n := by
  rw [shOf (fun _ => st_press_windowed) rfl]
  refine Run.inside_ ?_
  unfold b_press_windowed
  by_cases e1 : (64 : Int) ≤ l
  · rw [decide_eq_true e1]
    try simp (disch := first | omega | assumption | exact Int.natCast_nonneg _) only [Nat.reduceAdd, Nat.reduceLT, RZ, e1]
  · rw [decide_eq_false e1]
    try simp (disch := first | omega | assumption | exact Int.natCast_nonneg _) only [Nat.reduceAdd, Nat.reduceLT, RZ, e1]
theorem s_rMay (l u w : Int) : Run (fun _ => False) n (evCall2 Tryz.prog gt lf (d + 2) 68 #[.int .i64 l, .int .i64 u, .int .i64 w]) h n fun v h' n' => v = .bool (mayP l u w) ∧ h' = h ∧ n' = n := by
  rw [shOf (fun _ => st_balerref23_May) rfl]
  refine Run.inside_ ?_
  unfold b_balerref23_May
  refine run_same (s_rLevel (lf := lf) (d := d) l) (Nat.le_refl _) (fun _ _ h => h.elim) ?_
  by_cases c1 : (decide (1 ≤ l) && decide (l ≤ 9)) = true
  · rw [c1]
    try simp (disch := first | omega | assumption | exact Int.natCast_nonneg _) only [Nat.reduceAdd, Nat.reduceLT, RZ]
    refine run_same (s_rUnit (lf := lf) (d := d) u) (Nat.le_refl _) (fun _ _ h => h.elim) ?_
    by_cases c2 : (decide (24 ≤ u) && decide (u ≤ 100000)) = true
    · have e : mayP l u w = (decide (64 ≤ w) && decide (w ≤ 1048576)) := by unfold mayP; rw [c1, c2]; rfl
      rw [c2, e]
      by_cases e1 : (64 : Int) ≤ w
      · rw [decide_eq_true e1]
        try simp (disch := first | omega | assumption | exact Int.natCast_nonneg _) only [Nat.reduceAdd, Nat.reduceLT, RZ, e1]
      · rw [decide_eq_false e1]
        try simp (disch := first | omega | assumption | exact Int.natCast_nonneg _) only [Nat.reduceAdd, Nat.reduceLT, RZ, e1]
    · have c2 := Bool.eq_false_iff.2 c2
      have e : mayP l u w = false := by unfold mayP; rw [c1, c2]; rfl
      rw [c2, e]
      try simp (disch := first | omega | assumption | exact Int.natCast_nonneg _) only [Nat.reduceAdd, Nat.reduceLT, RZ]
  · have c1 := Bool.eq_false_iff.2 c1
    have e : mayP l u w = false := by unfold mayP; rw [c1]; rfl
    rw [c1, e]
    try simp (disch := first | omega | assumption | exact Int.natCast_nonneg _) only [Nat.reduceAdd, Nat.reduceLT, RZ]
theorem s_setMay (l u w : Int) : Run (fun _ => False) n (evCall2 Tryz.prog gt lf (d + 3) 31 #[.agg #[.int .i64 l, .int .i64 u, .int .i64 w]]) h n fun v h' n' => v = .bool (mayP l u w) := by
  rw [shOf (fun _ => st_balerlaw23_Setup_may) rfl]
  refine Run.inside_ ?_
  unfold b_balerlaw23_Setup_may
  refine run_box trivial _ _ ?_
  obtain ⟨h2', hh2⟩ : ∃ h2, h.set n (some ⟨61, true, (Value.agg #[.int .i64 l, .int .i64 u, .int .i64 w]).cells.toList⟩) = h2 := ⟨_, rfl⟩
  have g2 : h2'.get n = some ⟨61, true, [.int .i64 l, .int .i64 u, .int .i64 w]⟩ := by rw [← hh2, get_eq]; rfl
  rw [hh2]
  have nn : n < n + 1 := Nat.lt_succ_self n
  try simp (disch := first | omega | assumption | exact Int.natCast_nonneg _) only [Nat.reduceAdd, Nat.reduceLT, RZ, g2]
  refine run_same (s_rMay (lf := lf) (d := d) l u w) (by omega) (fun _ _ h => h.elim) ?_
  try simp (disch := first | omega | assumption | exact Int.natCast_nonneg _) only [Nat.reduceAdd, Nat.reduceLT, RZ]
theorem s_rNeed {l u w : Int} (h0 : mayP l u w = true) : Run (fun _ => False) n (evCall2 Tryz.prog gt lf (d + 1) 39 #[.int .i64 l, .int .i64 u, .int .i64 w]) h n fun v h' n' => ∃ N : Int, v = .int .i64 N ∧ w + 2000 ≤ N ∧ h' = h ∧ n' = n := by
  obtain ⟨h1, h2, h3, h4, h5, h6⟩ := mayP_of h0
  have q1 : l * u ≤ 9 * u := Int.mul_le_mul_of_nonneg_right h2 (by omega)
  have q2 : 1 * u ≤ l * u := Int.mul_le_mul_of_nonneg_right h1 (by omega)
  rw [shOf (fun _ => st_balerref23_Need) rfl]
  refine Run.inside_ ?_
  unfold b_balerref23_Need
  have e5 : IntKind.i64.wrap (l * u) = l * u := wrap_id (by omega) (by omega)
  obtain ⟨r, hr⟩ : ∃ r, r = l * u := ⟨_, rfl⟩
  rw [← hr] at e5 q1 q2
  try simp (disch := first | omega | assumption | exact Int.natCast_nonneg _) only [Nat.reduceAdd, Nat.reduceLT, RZ, ← hr, e5]
  exact ⟨_, rfl, by omega⟩
theorem s_room {l u : Int} (h1 : 1 ≤ l) (h2 : l ≤ 9) (h3 : 24 ≤ u) (h4 : u ≤ 100000) : Run (fun _ => False) n (evCall2 Tryz.prog gt lf (d + 1) 16 #[.int .i64 l, .int .i64 u]) h n fun v h' n' => ∃ room : Nat, v = .tuple #[.int .i64 (room : Int), .int .i64 0] ∧ 5 ≤ room ∧ room ≤ 900000 ∧ h' = h ∧ n' = n := by
  have q1 : l * u ≤ 9 * u := Int.mul_le_mul_of_nonneg_right h2 (by omega)
  have q2 : 1 * u ≤ l * u := Int.mul_le_mul_of_nonneg_right h1 (by omega)
  obtain ⟨room, hr⟩ : ∃ room : Nat, (room : Int) = l * u - 19 := ⟨(l * u - 19).toNat, by omega⟩
  rw [shOf (fun _ => st_split_Room) rfl]
  refine Run.inside_ ?_
  unfold b_split_Room
  have e1 : ¬ l < 1 := by omega
  have e2 : ¬ (9 : Int) < l := by omega
  have e3 : ¬ u < 24 := by omega
  have e4 : ¬ (100000 : Int) < u := by omega
  have e5 : IntKind.i64.wrap (l * u) = l * u := wrap_id (by omega) (by omega)
  have e6 : IntKind.i64.wrap (l * u - 19) = l * u - 19 := wrap_id (by omega) (by omega)
  try simp (disch := first | omega | assumption | exact Int.natCast_nonneg _) only [Nat.reduceAdd, Nat.reduceLT, RZ, e1, e2, e3, e4, e5, e6, ← hr]
  exact ⟨room, rfl, by omega, by omega⟩
theorem s_stTake {l p w n0 : Nat} {sv : Value} {bs : List Bool} (gp : h.get p = some (stwB w)) (hp : p < n) (x : WOn h n0 n w sv bs) : Run (fun c => c = w) n (evCall2 Tryz.prog gt lf (d + 2) 20 #[.pointer (some ⟨p, 0, none⟩)]) h n fun v h' n' => v = .string ⟨(bS (bytesB bs)).toArray⟩ ∧ n' = n := by
  rw [shOf (fun _ => st_stream_Writer_Take) rfl]
  refine Run.inside_ ?_
  unfold b_stream_Writer_Take
  unfold stwB at gp
  try simp (disch := first | omega | assumption | exact Int.natCast_nonneg _) only [Nat.reduceAdd, Nat.reduceLT, RZ, gp]
  refine run_call okd (s_wTake0 (lf := lf) (d := d) x) (Nat.le_refl _) (fun b _ hb => .inr hb) fun v1 h1 n1 hn1 fr1 hq1 => ?_
  obtain ⟨rfl, rfl⟩ := hq1
  try simp (disch := first | omega | assumption | exact Int.natCast_nonneg _) only [Nat.reduceAdd, Nat.reduceLT, RZ]
theorem s_prNew {l : Nat} {u w : Int} (hlf : 300 ≤ lf) (h0 : mayP (l : Int) u w = true) : Run (fun _ => False) n (evCall2 Tryz.prog gt lf (d + 4) 33 #[.int .i64 (l : Int), .int .i64 u, .int .i64 w]) h n fun v h' n' => ∃ q room, v = .tuple #[.pointer (some ⟨q.p, 0, none⟩), .int .i64 0] ∧ n ≤ q.p ∧ 5 ≤ room ∧ ∃ L : Nat → Nat, (∀ c, c < n → L c = 0) ∧ PrAt h' n' L w room (bS (hd4 l)) (sS w) q := by
  obtain ⟨h1, h2, h3, h4, h5, h6⟩ := mayP_of h0
  rw [shOf (fun _ => st_press_New) rfl]
  refine Run.inside_ ?_
  unfold b_press_New
  refine run_call okd (s_room (lf := lf) (d := d + 2) h1 h2 h3 h4) (Nat.le_refl _) (fun _ _ h => h.elim) fun v1 h1' n1 hn1 fr1 hq1 => ?_
  obtain ⟨room, rfl, r1, r2, rfl, rfl⟩ := hq1
  try simp (disch := first | omega | assumption | exact Int.natCast_nonneg _) only [Nat.reduceAdd, Nat.reduceLT, RZ, ext0, ext1]
  refine run_call okd (s_windowed (lf := lf) (d := d + 2) w) (Nat.le_refl _) (fun _ _ h => h.elim) fun v2 h2' n2 hn2 fr2 hq2 => ?_
  obtain ⟨rfl, rfl, rfl⟩ := hq2
  have ew : (decide (64 ≤ w) && decide (w ≤ 1048576)) = true := by rw [decide_eq_true h5, decide_eq_true h6]; rfl
  rw [ew]
  try simp (disch := first | omega | assumption | exact Int.natCast_nonneg _) only [Nat.reduceAdd, Nat.reduceLT, RZ]
  refine run_call okd (s_spNew (lf := lf) (d := d) r1 r2 hlf) (Nat.le_refl _) (fun _ _ h => h.elim) fun v3 h3' n3 hn3 fr3 hq3 => ?_
  obtain ⟨a, q, rfl, a1, a2, rfl, y3⟩ := hq3
  try simp (disch := first | omega | assumption | exact Int.natCast_nonneg _) only [Nat.reduceAdd, Nat.reduceLT, RZ, ext0, ext1]
  refine run_call okd (s_stNew (lf := lf) (d := d) (by omega) (l := l) (by omega) (by omega)) (by omega) (fun _ _ h => h.elim) fun v4 h4' n4 hn4 fr4 hq4 => ?_
  obtain ⟨p, wr, sv, rfl, p1, p2, p3, p4, gp, x4⟩ := hq4
  try simp (disch := first | omega | assumption | exact Int.natCast_nonneg _) only [Nat.reduceAdd, Nat.reduceLT, RZ, ext0, ext1]
  refine run_call okd (s_stTake (l := l) (lf := lf) (d := d + 1) gp p3 x4) (by omega) (fun b hb hq => .inl (by have hq : b = wr := hq; omega)) fun v5 h5' n5 hn5 fr5 hq5 => ?_
  obtain ⟨rfl, rfl⟩ := hq5
  rw [hd4_bits (by omega) (by omega)]
  try simp (disch := first | omega | assumption | exact Int.natCast_nonneg _) only [Nat.reduceAdd, Nat.reduceLT, RZ]
  refine run_box trivial _ _ ?_
  try simp (disch := first | omega | assumption | exact Int.natCast_nonneg _) only [Nat.reduceAdd, Nat.reduceLT, RZ]
  obtain ⟨L, hL⟩ : ∃ L : Nat → Nat, L = fun c => if c = q + 1 then 30 else if c = a then 32 else if c = q then 33 else if c = n5 then 40 else 0 := ⟨_, rfl⟩
  have L1 : L (q + 1) = 30 := by rw [hL]; exact if_pos rfl
  have L2 : L a = 32 := by rw [hL]; simp only [if_neg (show ¬ a = q + 1 by omega), if_pos]
  have L3 : L q = 33 := by rw [hL]; simp only [if_neg (show ¬ q = q + 1 by omega), if_neg (show ¬ q = a by omega), if_pos]
  have L4 : L n5 = 40 := by rw [hL]; simp only [if_neg (show ¬ n5 = q + 1 by omega), if_neg (show ¬ n5 = a by omega), if_neg (show ¬ n5 = q by omega), if_pos]
  have L5 : ∀ c, c < n2 → L c = 0 := fun c hc => by rw [hL]; simp only [if_neg (show ¬ c = q + 1 by omega), if_neg (show ¬ c = a by omega), if_neg (show ¬ c = q by omega), if_neg (show ¬ c = n5 by omega)]
  clear hL
  refine ⟨⟨n5, ⟨q + 1, a, q, .slice none 0 0⟩, ⟨0, ⟨0, 0, 0, 0, 0, 0⟩, nS, nS⟩, nS, .pointer (some ⟨p, 0, none⟩), 0⟩, room, rfl, by show n2 ≤ n5; omega, r1, L, L5, (get_eq _ _ _).trans rfl, Nat.lt_succ_self n5, L4, (y3 L L1 L2 L3).keep (by omega) (fun _ _ => rfl) fun c hc _ _ => ?_, OwnS.nil _ _ _ _, fun b hb => hb.not_nil.elim, fun e => (by cases e), fun e => (by cases e)⟩
  rw [get_ne _ _ (by omega), fr5 c (by omega) (by omega), fr4 c (by omega) id]
end
end Go.Proofs.YtcehhgppfahbkaaGreatDoor
namespace Go.Proofs.YtcehhgppfahbkaaGreatDoor
set_option linter.unusedVariables false
set_option linter.unusedSimpArgs false
open Go.RowKit Ev Sp Cn Ip

def seB (l : Nat) (u w : Int) : AB := ⟨61, true, [.int .i64 (l : Int), .int .i64 u, .int .i64 w]⟩
structure LInv (l : Nat) (u w : Int) (room sb nb : Nat) (h : H) (n : Nat) (L : Nat → Nat) (s : PS) (q : Pr) : Prop where
  y : PrAt h n L w room (bS (hd4 l)) s q
  L0 : ∀ c, c < nb → L c = 0
  hn : nb ≤ n
  gs : h.get sb = some (seB l u w)
  sl : sb < nb
  gd : h.get 1 = some ⟨3, false, gV⟩
  gl : 1 < nb
theorem LInv.nw {l : Nat} {u w : Int} {room sb nb : Nat} {h : H} {n : Nat} {L : Nat → Nat} {s : PS} {q : Pr} (x : LInv l u w room sb nb h n L s q) (b : Nat) (hb : WPr L b) : nb ≤ b := by
  by_cases c : b < nb
  · have := x.L0 b c
    unfold WPr at hb
    omega
  · omega
theorem LInv.next {l : Nat} {u w : Int} {room sb nb : Nat} {h h' : H} {n n' : Nat} {L : Nat → Nat} {s s' : PS} {q q0 : Pr} (x : LInv l u w room sb nb h n L s q) (hn : n ≤ n') (fr : ∀ b, b < n → ¬ WPr L b → h'.get b = h.get b) (hp : q0.p = q.p) (y : PrPost L n w room (bS (hd4 l)) s' q0 h' n') : ∃ L' q', q'.p = q.p ∧ LInv l u w room sb nb h' n' L' s' q' := by
  obtain ⟨L', q', hL, hq, y'⟩ := y
  have hnb := x.hn
  have f : ∀ b, b < nb → h'.get b = h.get b := fun b hb => fr b (by omega) fun hw => by have := x.nw b hw; omega
  exact ⟨L', q', hq.trans hp, y', fun c hc => (hL c (by omega)).trans (x.L0 c hc), by omega, (f _ x.sl).trans x.gs, x.sl, (f _ x.gl).trans x.gd, x.gl⟩
theorem LInv.keep {l : Nat} {u w : Int} {room sb nb : Nat} {h h' : H} {n n' : Nat} {L : Nat → Nat} {s : PS} {q : Pr} (x : LInv l u w room sb nb h n L s q) (hn : n ≤ n') (fr : ∀ b, b < n → h'.get b = h.get b) : LInv l u w room sb nb h' n' L s q := by
  have hnb := x.hn
  exact ⟨x.y.keep hn (fun _ _ => rfl) fun c hc _ _ => fr c hc, x.L0, by omega, (fr _ (by have := x.sl; omega)).trans x.gs, x.sl, (fr _ (by have := x.gl; omega)).trans x.gd, x.gl⟩
theorem clash_w {a b : Tk} {m : Nat} {W' : Nat → Prop} (ha : ∀ e ∈ a.log, e.b < a.n) (hw : ∀ e ∈ a.log, e.wr = true → W' e.b) (hb : ∀ e ∈ b.log, e.wr = false ∧ e.b < m) (hm : ∀ c, c < m → ¬ W' c) (h1 : m ≤ a.n) (h2 : a.n ≤ b.n) : clash3 a b = false := by
  rw [clash3_eq]
  unfold Tk.clash
  simp only [Bool.or_eq_false_iff, List.any_eq_false, Bool.and_eq_true, decide_eq_true_eq, not_and]
  refine ⟨⟨⟨fun x hx hx2 => ?_, fun x hx hx2 => ?_⟩, fun x hx hle => ?_⟩, fun x hx hle => ?_⟩
  · rw [Bool.not_eq_true, List.any_eq_false]
    intro y hy
    unfold En.meets
    have : x.b ≠ y.b := fun e => hm _ (hb y hy).2 (e ▸ hw x hx hx2)
    simp [this]
  · rw [(hb x hx).1] at hx2
    cases hx2
  · have := ha x hx
    omega
  · have := (hb x hx).2
    omega
abbrev dg : List UInt8 := [48, 49, 50, 51, 52, 53, 54, 55, 56, 57]
theorem hd4_dg {l : Nat} (h1 : 1 ≤ l) (h2 : l ≤ 9) : bS (hd4 l) = b3 ++ (dg.drop l).take (l + 1 - l) := by
  obtain rfl | rfl | rfl | rfl | rfl | rfl | rfl | rfl | rfl : l = 1 ∨ l = 2 ∨ l = 3 ∨ l = 4 ∨ l = 5 ∨ l = 6 ∨ l = 7 ∨ l = 8 ∨ l = 9 := by omega
  all_goals decide
section
variable {lf d : Nat}
theorem ps_loop {l : Nat} {u w : Int} {room sb nb n0 : Nat} {tx : List UInt8} {x1 x2 x3 x4 x5 : Value} (h0 : mayP (l : Int) u w = true) (h5 : 5 ≤ room) (ht : tx.length ≤ 120) (hlf : 2000000 ≤ lf) (hnb : n0 ≤ nb) (p : Nat) :
    ∀ (m i fu N n : Nat) (h : H) (L : Nat → Nat) (s : PS) (q : Pr), i + m = 10 → m < fu → LInv l u w room sb nb h n L s q → q.p = p → PrInv N s → N ≤ tx.length → (s.inn.length : Int) ≤ w → (1 ≤ i → stS s = true) → Run (fun _ => False) n0 (lpA_balerlaw23_PressStops lf (evCall2 Tryz.prog gt lf (d + 9)) fu (kcA_balerlaw23_PressStops lf (evCall2 Tryz.prog gt lf (d + 9))) x1 (.string ⟨tx.toArray⟩) (.pointer (some ⟨sb, 0, none⟩)) x2 (.pointer (some ⟨p, 0, none⟩)) x3 (.int .i64 (N : Int)) x4 x5 (.int .i64 (i : Int))) h n fun v _ _ => v = .bool true := by
  obtain ⟨m1, m2, m3, m4, m5, m6⟩ := mayP_of h0
  have ol : (bS (hd4 l)).length = 4 := by rw [bS_len]; rfl
  have one : bS (hd4 l) ≠ [] := fun e => by rw [e] at ol; cases ol
  intro m
  induction m with
  | zero =>
    intro i fu N n h L s q hi hf x hq o hN hw hst
    obtain ⟨fu, rfl⟩ : ∃ f, fu = f + 1 := ⟨fu - 1, by omega⟩
    obtain rfl : i = 10 := by omega
    have hst := hst (by omega)
    subst hq
    have hnn := x.hn
    rw [lpA_balerlaw23_PressStops]
    have z : ¬ ((10 : Nat) : Int) < 10 := by decide
    try simp (disch := first | omega | assumption | exact Int.natCast_nonneg _) only [Nat.reduceAdd, Nat.reduceLT, RZ, z]
    unfold kcA_balerlaw23_PressStops
    dsimp only
    refine timed_call' okd (s_prStep (lf := lf) (d := d) x.y o h5 one hlf (bud := 5) (by decide) (by decide) fun e => (by rw [hst] at e; cases e)) (by omega) (fun b hb hw => .inl (Nat.le_trans hnb (x.nw b hw))) fun v1 h1 n1 T1 hn1 fr1 hq1 => ?_
    obtain ⟨s', G, q', e1, rfl, e3, e4, e5, e6, e7⟩ := hq1
    obtain ⟨L1, q1, hq1, x1⟩ := x.next hn1 fr1 e1 e7
    have hG := e3 hst
    subst hG
    rw [← hq1]
    have hnn1 := x1.hn
    have z0 : ((((0 : Nat) : Int)) == 0) = true := rfl
    try simp (disch := first | omega | assumption | exact Int.natCast_nonneg _) only [Nat.reduceAdd, Nat.reduceLT, RZ, z0]
    refine timed_callW okd (s_prTakeOut (lf := lf) (d := d + 8) x1.y (by omega)) (by omega) (fun b hb hw => .inl (Nat.le_trans hnb (x1.nw b hw))) fun v2 h2 n2 T2 hn2 fr2 hq2 tn2 tl2 tw2 => ?_
    subst hq2
    have f2 : ∀ b, b < nb → h2.get b = h1.get b := fun b hb => fr2 b (by omega) fun hw => by have := x1.nw b hw; omega
    have gs2 := (f2 sb x1.sl).trans x1.gs
    have gd2 := (f2 _ x1.gl).trans x1.gd
    have sl := x1.sl
    have gl := x1.gl
    try simp (disch := first | omega | assumption | exact Int.natCast_nonneg _) only [Nat.reduceAdd, Nat.reduceLT, RZ]
    refine timed_ld_call trivial sb 0 _ gs2 (by omega) rfl fun T3 n3 _ l3 => ?_
    try simp (disch := first | omega | assumption | exact Int.natCast_nonneg _) only [Nat.reduceAdd, Nat.reduceLT, RZ]
    refine timed_ld_call trivial sb 0 _ gs2 (by omega) rfl fun T4 n4 _ l4 => ?_
    have es : (ByteArray.mk #[48, 49, 50, 51, 52, 53, 54, 55, 56, 57]) = ⟨dg.toArray⟩ := rfl
    have es3 : (ByteArray.mk #[66, 90, 104]) = ⟨b3.toArray⟩ := rfl
    have w1 : IntKind.i64.wrap ((l : Int) + 1) = ((l + 1 : Nat) : Int) := by rw [wrap_id (by omega) (by omega)]; rfl
    have b1 : ((l : Nat) : Int) ≤ ((l + 1 : Nat) : Int) := by omega
    have b2 : ((l + 1 : Nat) : Int) ≤ ((dg.length : Nat) : Int) := by show ((l + 1 : Nat) : Int) ≤ 10; omega
    try simp (disch := first | omega | assumption | exact Int.natCast_nonneg _) only [Nat.reduceAdd, Nat.reduceLT, RZ, es, w1, b1, b2, Int.toNat_natCast]
    refine timed_step (L := []) rfl (Nat.le_refl _) (fun e he => by cases he) ?_
    obtain ⟨T5, n5, l5, e5⟩ : ∃ T5 : Tk, T5.n = n2 ∧ T5.log = [] ∧ (⟨n2, n2, []⟩ : Tk) = T5 := ⟨_, rfl, rfl, rfl⟩
    rw [e5]
    have ad := fun (K : Value → M Value) => s_addS (k := K) b3 ((dg.drop l).take (l + 1 - l)) (by rw [List.length_take]; show 3 + _ ≤ _; omega)
    have zE : (bS (hd4 l) = b3 ++ (dg.drop l).take (l + 1 - l)) = True := eq_true (hd4_dg (by omega) (by omega))
    try simp (disch := first | omega | assumption | exact Int.natCast_nonneg _) only [Nat.reduceAdd, Nat.reduceLT, RZ, es3, ad, zE]
    refine timed_callB okd (k_letter lf (d + 8) n2 h2 ⟨gd2, by omega⟩) (by omega) fun v6 h6 n6 T6 hn6 fr6 hq6 t6 => ?_
    obtain ⟨rfl, rfl, rfl⟩ := hq6
    have nwb : ∀ c, c < nb → ¬ WPr L1 c := fun c hc hw => by have := x1.nw c hw; omega
    have c1 : clash3 T2 T3 = false := clash_w (fun e he => by have := tl2 e he; omega) tw2 (fun e he => by rw [l3] at he; rw [List.mem_singleton.1 he]; exact ⟨rfl, sl⟩) nwb (by omega) (by omega)
    have c2 : clash3 T2 T4 = false := clash_w (fun e he => by have := tl2 e he; omega) tw2 (fun e he => by rw [l4] at he; rw [List.mem_singleton.1 he]; exact ⟨rfl, sl⟩) nwb (by omega) (by omega)
    have c3 : clash3 T2 T5 = false := clash_w (fun e he => by have := tl2 e he; omega) tw2 (fun e he => by rw [l5] at he; cases he) nwb (by omega) (by omega)
    try simp (disch := first | omega | assumption | exact Int.natCast_nonneg _) only [Nat.reduceAdd, Nat.reduceLT, RZ, c1, c2, c3, Bool.not_false, Bool.and_self, chk_true]
  | succ m ih =>
    intro i fu N n h L s q hi hf x hq o hN hw hst
    obtain ⟨fu, rfl⟩ : ∃ f, fu = f + 1 := ⟨fu - 1, by omega⟩
    subst hq
    have hnn := x.hn
    rw [lpA_balerlaw23_PressStops]
    have z : ((i : Nat) : Int) < 10 := by omega
    have zN : ((N : Nat) : Int) ≤ ((tx.length : Nat) : Int) := by omega
    try simp (disch := first | omega | assumption | exact Int.natCast_nonneg _) only [Nat.reduceAdd, Nat.reduceLT, RZ, z, zN, Int.toNat_natCast]
    refine run_call okd (s_prFeed (lf := lf) (d := d + 8) x.y (l := tx.drop N) (by rw [List.length_drop]; omega) hw m6) (by omega) (fun b hb hw => .inl (Nat.le_trans hnb (x.nw b hw))) fun v1 h1 n1 hn1 fr1 hq1 => ?_
    obtain ⟨k, k1, k2, rfl, y1⟩ := hq1
    obtain ⟨L1, q1, hq1, x1⟩ := x.next hn1 fr1 rfl y1
    rw [List.length_drop] at k1
    have o1 := o.feed (k := k) (l := tx.drop N) (by rw [List.length_drop]; exact k1) (by omega)
    have il : (feedS s (tx.drop N) k).inn.length = s.inn.length + k := by
      show (s.inn ++ (tx.drop N).take k).length = _
      rw [List.length_append, List.length_take, List.length_drop]
      omega
    rw [← hq1]
    have hnn1 := x1.hn
    have wN : IntKind.i64.wrap ((N : Int) + (k : Int)) = ((N + k : Nat) : Int) := by rw [wrap_id (by omega) (by omega)]; rfl
    try simp (disch := first | omega | assumption | exact Int.natCast_nonneg _) only [Nat.reduceAdd, Nat.reduceLT, RZ, wN]
    refine run_call okd (s_prStep (lf := lf) (d := d) x1.y o1 h5 one hlf (bud := 100000) (by decide) (by decide) fun _ => (by have := o1.pot; omega)) (by omega) (fun b hb hw => .inl (Nat.le_trans hnb (x1.nw b hw))) fun v2 h2 n2 hn2 fr2 hq2 => ?_
    obtain ⟨s', G, q', e1, rfl, e3, e4, e5, e6, e7⟩ := hq2
    obtain ⟨L2, q2, hq2, x2⟩ := x1.next hn2 fr2 e1 e7
    rw [← hq2]
    have hnn2 := x2.hn
    have ih2 := e5.blk
    try simp (disch := first | omega | assumption | exact Int.natCast_nonneg _) only [Nat.reduceAdd, Nat.reduceLT, RZ]
    refine timed_callB okd (s_prStopped (lf := lf) (d := d + 6) x2.y (by omega) ih2.2.2.2.1 one) (by omega) fun v3 h3 n3 T3 hn3 fr3 hq3 t3 => ?_
    obtain ⟨rfl, rfl, rfl⟩ := hq3
    rw [e4]
    try simp (disch := first | omega | assumption | exact Int.natCast_nonneg _) only [Nat.reduceAdd, Nat.reduceLT, RZ]
    refine timed_callB okd (s_prWaiting (lf := lf) (d := d + 8) x2.y) (by omega) fun v4 h4 n4 T4 hn4 fr4 hq4 t4 => ?_
    obtain ⟨rfl, rfl, rfl⟩ := hq4
    rw [ol]
    have z4 : ((((4 : Nat) : Int)) != 4) = false := rfl
    try simp (disch := first | omega | assumption | exact Int.natCast_nonneg _) only [Nat.reduceAdd, Nat.reduceLT, RZ, z4]
    refine timed_callB okd (s_prHeld (lf := lf) (d := d + 6) x2.y e5 (by omega) m6 (by omega) (by omega)) (by omega) fun v5 h5' n5 T5 hn5 fr5 hq5 t5 => ?_
    obtain ⟨H, rfl, H0, H1⟩ := hq5
    have x5 := x2.keep hn5 fr5
    have gs := x5.gs
    have gs4 := x2.gs
    have sl := x5.sl
    have hnn5 := x5.hn
    try simp (disch := first | omega | assumption | exact Int.natCast_nonneg _) only [Nat.reduceAdd, Nat.reduceLT, RZ]
    refine timed_ldB (m := n4) trivial sb 0 _ gs (by omega) (by omega) rfl fun T6 t6 => ?_
    try simp (disch := first | omega | assumption | exact Int.natCast_nonneg _) only [Nat.reduceAdd, Nat.reduceLT, RZ]
    refine timed_ldB (m := n4) trivial sb 1 _ gs (by omega) (by omega) rfl fun T7 t7 => ?_
    try simp (disch := first | omega | assumption | exact Int.natCast_nonneg _) only [Nat.reduceAdd, Nat.reduceLT, RZ]
    refine timed_ldB (m := n4) trivial sb 2 _ gs (by omega) (by omega) rfl fun T8 t8 => ?_
    try simp (disch := first | omega | assumption | exact Int.natCast_nonneg _) only [Nat.reduceAdd, Nat.reduceLT, RZ]
    refine timed_callB okd (s_rNeed (lf := lf) (d := d + 8) h0) (by omega) fun v9 h9 n9 T9 hn9 fr9 hq9 t9 => ?_
    obtain ⟨NN, rfl, N1, rfl, rfl⟩ := hq9
    have zH : ¬ NN < H := by omega
    try simp (disch := first | omega | assumption | exact Int.natCast_nonneg _) only [Nat.reduceAdd, Nat.reduceLT, RZ, t5.clash t6, t5.clash t7, t5.clash t8, Bool.not_false, Bool.and_self, chk_true, zH]
    rw [hq2, hq1]
    exact ih (i + 1) fu (N + k) n9 h9 L2 s' q2 (by omega) (by omega) x5 (hq2.trans hq1) e5 (by omega) (by omega) fun _ => e4
end
end Go.Proofs.YtcehhgppfahbkaaGreatDoor
namespace Go.Proofs.YtcehhgppfahbkaaGreatDoor
set_option linter.unusedVariables false
set_option linter.unusedSimpArgs false
open Go.RowKit Ev Sp Cn Ip

section
variable {lf d n : Nat} {h : H}
theorem law_PStops (hlf : 2000000 ≤ lf) (l u w : Int) (tx : List UInt8) (hn : Tryz.prog.globals.size ≤ n) (hg : h.get 1 = some ⟨3, false, gV⟩) : Run (fun _ => False) n (evCall2 Tryz.prog gt lf (d + 10) 8 #[.agg #[.int .i64 l, .int .i64 u, .int .i64 w], .string ⟨tx.toArray⟩]) h n fun v _ _ => v = .bool true := by
  have gd := Gd.of hn hg
  rw [shOf (fun _ => st_balerlaw23_PressStops) rfl]
  refine Run.inside_ ?_
  unfold b_balerlaw23_PressStops
  refine run_box trivial _ _ ?_
  obtain ⟨h1', hh1⟩ : ∃ h1, h.set n (some ⟨61, true, (Value.agg #[.int .i64 l, .int .i64 u, .int .i64 w]).cells.toList⟩) = h1 := ⟨_, rfl⟩
  have g1 : h1'.get n = some ⟨61, true, [.int .i64 l, .int .i64 u, .int .i64 w]⟩ := by rw [← hh1, get_eq]; rfl
  have gd1 : Gd h1' (n + 1) := gd.keep (Nat.le_succ n) fun b hb => by rw [← hh1, get_ne _ _ (by omega)]
  rw [hh1]
  clear hh1
  refine run_klg n 0 _ g1 (Nat.lt_succ_self n) (Nat.le_refl 3) ?_
  refine run_call okd (s_setMay (lf := lf) (d := d + 6) l u w) (Nat.le_succ n) (fun _ _ h => h.elim) fun v2 h2 n2 hn2 fr2 hq2 => ?_
  subst hq2
  have gd2 := gd1.keep hn2 fun b hb => fr2 b hb id
  have g2 := (fr2 n (Nat.lt_succ_self n) id).trans g1
  have l2 : n < n2 := by omega
  by_cases c0 : mayP l u w = true
  · rw [c0]
    try simp (disch := first | omega | assumption | exact Int.natCast_nonneg _) only [Nat.reduceAdd, Nat.reduceLT, RZ]
    by_cases c1 : tx.length ≤ 120
    · have z : ¬ (120 : Int) < ((tx.length : Nat) : Int) := by omega
      obtain ⟨m1, m2, m3, m4, m5, m6⟩ := mayP_of c0
      obtain ⟨k, rfl⟩ : ∃ k : Nat, l = (k : Int) := ⟨l.toNat, by omega⟩
      try simp (disch := first | omega | assumption | exact Int.natCast_nonneg _) only [Nat.reduceAdd, Nat.reduceLT, RZ, z, g2]
      refine run_call okd (s_prNew (lf := lf) (d := d + 5) (by omega) c0) (by omega) (fun _ _ h => h.elim) fun v3 h3 n3 hn3 fr3 hq3 => ?_
      obtain ⟨q, room, rfl, q1, r1, L, L0, y⟩ := hq3
      have gd3 := gd2.keep hn3 fun b hb => fr3 b hb id
      try simp (disch := first | omega | assumption | exact Int.natCast_nonneg _) only [Nat.reduceAdd, Nat.reduceLT, RZ, ext0, ext1]
      exact ps_loop (d := d) c0 r1 c1 hlf (nb := n2) (by omega) q.p 10 0 lf 0 n3 h3 L (sS w) q rfl (by omega) ⟨y, L0, hn3, (fr3 n l2 id).trans g2, l2, gd3.1, gd2.2⟩ rfl ⟨by show (0 : Nat) < 256; decide, Nat.zero_le _, fun p hp => (by cases hp), fun p hp => (by cases hp), Nat.le_refl _, Nat.zero_le _, fun e => (by cases e), fun e => (by cases e), fun e => (by cases e), fun _ => rfl⟩ (Nat.zero_le _) (by show ((0 : Nat) : Int) ≤ w; omega) fun e => (Nat.not_succ_le_zero 0 e).elim
    · have z : (120 : Int) < ((tx.length : Nat) : Int) := by omega
      try simp (disch := first | omega | assumption | exact Int.natCast_nonneg _) only [Nat.reduceAdd, Nat.reduceLT, RZ, z]
      exact run_letter (by omega) gd2
  · have c0 := Bool.eq_false_iff.2 c0
    rw [c0]
    try simp (disch := first | omega | assumption | exact Int.natCast_nonneg _) only [Nat.reduceAdd, Nat.reduceLT, RZ]
    exact run_letter (by omega) gd2
end
theorem ce9 : cellTs Tryz.prog 8 9 = some [9] := by kernel_rfl
theorem ag9' : isAggT Tryz.prog 9 = false := by kernel_rfl
theorem ceS : cellTs Tryz.prog 8 61 = some [3, 3, 3] := by kernel_rfl
theorem agS : isAggT Tryz.prog 61 = true := by kernel_rfl
set_option maxRecDepth 4000 in
theorem a_set {h : H} {n : Nat} {v : Value} (x : ArgH Tryz.prog h n 61 v) : ∃ a b c : Int, v = .agg #[.int .i64 a, .int .i64 b, .int .i64 c] := by
  obtain ⟨cs, rfl, q0⟩ := argH_agg ceS agS x
  obtain ⟨a, b, c, rfl, q1, q2, q3⟩ := all2_3 q0
  obtain ⟨i, rfl, _⟩ := rep_int (f := 7) Tryz.underlying3 q1
  obtain ⟨j, rfl, _⟩ := rep_int (f := 7) Tryz.underlying3 q2
  obtain ⟨k, rfl, _⟩ := rep_int (f := 7) Tryz.underlying3 q3
  exact ⟨i, j, k, rfl⟩
set_option maxRecDepth 4000 in
theorem call_PStops {w : World} (hw : Ev.GlobAt w) {vs : List Value} (ha : All2 (ArgR Tryz.prog w) [61, 9] vs) : Calls Tryz.prog 8 vs.toArray w fun e w' => e = .returned (.bool true) ∧ Below w.heap.size w w' := by
  refine the_law hw ha fun n h vs0 hn hg q => ?_
  obtain ⟨a, b, rfl, h1, h2⟩ := Ev.all2_2 q
  obtain ⟨i, j, k, rfl⟩ := a_set h1
  obtain ⟨t, rfl, _⟩ := rep_str (f := 7) Tryz.underlying9 (argH_cell ce9 ag9' h2)
  exact law_PStops (lf := 3000000) (d := 990) (Nat.le_of_ble_eq_true rfl) i j k t hn hg
end Go.Proofs.YtcehhgppfahbkaaGreatDoor

/- Layer 1: a writer of bits: a bit, a field, taking. -/
import Derived.Test.YthhhkplbjcknkaaGreatDoorShP
import Derived.Test.YthhhkplbjcknkaaGreatDoorEvYc
import Derived.Test.YthhhkplbjcknkaaGreatDoorPbc
namespace Go.Proofs.YthhhkplbjcknkaaGreatDoor
set_option linter.unusedVariables false
set_option linter.unusedSimpArgs false
open Go.RowKit Ev

theorem wrap_succ {x : Nat} (h : x < 9223372036854775807) : IntKind.i64.wrap ((x : Int) + 1) = ((x + 1 : Nat) : Int) := by rw [wrap_id (by omega) (by omega)]; rfl
theorem wrap_pred {x : Nat} (h : x < 9223372036854775807) : IntKind.i64.wrap (((x + 1 : Nat) : Int) - 1) = ((x : Nat) : Int) := by rw [wrap_id (by omega) (by omega)]; omega
theorem ext0 (a b : Value) : evExtract (.tuple #[a, b]) 0 = some a := rfl
theorem ext1 (a b : Value) : evExtract (.tuple #[a, b]) 1 = some b := rfl
theorem run_same {β : Type} {W : Nat → Prop} {n0 : Nat} {h : H} {n : Nat} {Q : β → H → Nat → Prop} {lf d : Nat} {f : FuncId} {args : Array Value} {v : Value} {W' : Nat → Prop} (s : Run W' n (evCall2 Tryz.prog gt lf d f args) h n fun v' h' n' => v' = v ∧ h' = h ∧ n' = n) (hn : n0 ≤ n) (hW : ∀ b, b < n → W' b → n0 ≤ b ∨ W b) {k : Value → M β} (x : Run W n0 (k v) h n Q) : Run W n0 ((inside (evCall2 Tryz.prog gt lf d f args)).bind k) h n Q := by
  refine run_call okd s hn hW fun v' h' n' _ _ hq => ?_
  obtain ⟨rfl, rfl, rfl⟩ := hq
  exact x

/-- a writer at w: bytes that are whole, the bits behind them, how many bits there were -/
def wrB (sv : Value) (rs : List Bool) (t : Nat) : AB := ⟨135, true, [sv, .int .u8 (restN rs : Int), .int .i64 (t : Int)]⟩
structure WrAt (h : H) (n w : Nat) (sv : Value) (s : List Nat × List Bool) (t : Nat) : Prop where
  get : h.get w = some (wrB sv s.2 t)
  lt : w < n
  own : Own h 0 n 5 sv (u8V s.1)
  ne : ∀ b, InBlk sv b → b ≠ w
  len : s.2.length = t % 8
theorem WrAt.keep {h h' : H} {n n' w : Nat} {sv : Value} {s : List Nat × List Bool} {t : Nat} (x : WrAt h n w sv s t) (hn : n ≤ n') (hk : ∀ b, b < n → (b = w ∨ InBlk sv b) → h'.get b = h.get b) : WrAt h' n' w sv s t :=
  ⟨(hk w x.lt (.inl rfl)).trans x.get, Nat.lt_of_lt_of_le x.lt hn, x.own.keep hn fun b hb => hk b (x.own.lt hb).2 (.inr hb), x.ne, x.len⟩
section
variable {lf d n w t : Nat} {h : H} {sv : Value} {s : List Nat × List Bool}
set_option maxRecDepth 4000 in
theorem s_bit (x : WrAt h n w sv s t) (ht : t < 4611686018427387904) (hs : s.1.length + 1 ≤ 1099511627776) (b : Bool) : Run (fun c => c = w ∨ InBlk sv c) n (evCall2 Tryz.prog gt lf (d + 1) 100 #[.pointer (some ⟨w, 0, none⟩), .int .u8 (bn b : Int)]) h n fun v h' n' => v = .tuple #[] ∧ ∃ sv', WrAt h' n' w sv' (pushB s b) (t + 1) ∧ ∀ c, InBlk sv' c → InBlk sv c ∨ n ≤ c := by
  obtain ⟨gw, hw, ow, hne, hl⟩ := x
  obtain ⟨ws, rs⟩ := s
  simp only at gw ow hl hs
  have gw0 := gw
  unfold wrB at gw
  rw [sh_bits_Writer_bit]
  refine Run.inside_ ?_
  unfold b_bits_Writer_bit
  have e1 : ((t : Int)).tmod 8 = ((rs.length : Nat) : Int) := by rw [hl]; rfl
  have h8 : rs.length < 8 := by omega
  have e2 : IntKind.i64.wrap (7 - (rs.length : Int)) = ((7 - rs.length : Nat) : Int) := by rw [wrap_id (by omega) (by omega)]; omega
  have e3 := shl8 (bn_lt b) (show 7 - rs.length ≤ 7 by omega)
  rw [Int.toNat_natCast] at e3
  have e4 := or8 (restN_lt (r := rs) (by omega)) (show bn b * 2 ^ (7 - rs.length) < 256 by
    have h1 := bn_lt b
    have h2 : 2 ^ (7 - rs.length) ≤ 2 ^ 7 := Nat.pow_le_pow_right (by decide) (by omega)
    have : bn b * 2 ^ (7 - rs.length) ≤ 1 * 2 ^ 7 := Nat.mul_le_mul (by omega) h2
    omega)
  rw [restN_push h8 b] at e4
  have e5 : (0 : Int) ≤ ((7 - rs.length : Nat) : Int) := by omega
  by_cases h7 : rs.length = 7
  · have e6 : (((rs.length : Nat) : Int) == 7) = true := by rw [h7]; rfl
    try simp (disch := first | omega | assumption | exact one_int _ _ | exact one_slice _ _ _ | exact one_ptr _ | exact one_bool _ | exact one_string _) only [RXA, RXB, Nat.reduceAdd, Nat.reduceLT, wrap_id, wrap_succ, wrap_pred, FX1, FX2, FX3, Int.reduceBEq, Int.reduceBNe, Int.reduceLT, Int.reduceLE, Int.reduceEq, Int.reduceNe, Int.reduceAdd, Int.reduceSub, Int.reduceMul, Int.reduceNeg, gw, e1, e2, e3, e4, e5, e6]
    have o1 : Own ((h.set w (some ⟨135, true, [sv, .int .u8 (restN (rs ++ [b]) : Int), .int .i64 (t : Int)]⟩)).set w (some ⟨135, true, [sv, .int .u8 (restN (rs ++ [b]) : Int), .int .i64 ((t : Int) + 1)]⟩)) 0 n 5 sv (u8V ws) := ow.keep (Nat.le_refl _) fun c hc => by rw [get_ne _ _ (hne c hc), get_ne _ _ (hne c hc)]
    refine run_pushW c1x133 (one_int _ _) o1 (by rw [u8V_len]; exact hs) (fun c hc => .inr (.inr hc)) _ fun h' hg hk => ?_
    have g1 : h'.get w = some ⟨135, true, [sv, .int .u8 (restN (rs ++ [b]) : Int), .int .i64 ((t : Int) + 1)]⟩ := by rw [hk w hw (fun q => hne w q rfl), get_eq]
    have hn1 : w ≠ n + 1 := by omega
    try simp (disch := first | omega | assumption | exact one_int _ _ | exact one_slice _ _ _ | exact one_ptr _ | exact one_bool _ | exact one_string _) only [RXA, RXB, Nat.reduceAdd, Nat.reduceLT, wrap_id, wrap_succ, wrap_pred, FX1, FX2, FX3, Int.reduceBEq, Int.reduceBNe, Int.reduceLT, Int.reduceLE, Int.reduceEq, Int.reduceNe, Int.reduceAdd, Int.reduceSub, Int.reduceMul, Int.reduceNeg, g1, true_or, or_true]
    have hp : pushB (ws, rs) b = (ws ++ [num (rs ++ [b]) 0], []) := by unfold pushB; rw [if_pos h7]
    have hr : restN (rs ++ [b]) = num (rs ++ [b]) 0 := by unfold restN; simp [h7]
    refine ⟨_, ⟨by rw [get_eq]; unfold wrB; rw [hp]; rfl, by omega, ?_, fun c hc => by rw [hc.inj]; omega, ?_⟩, fun c hc => .inr (by rw [hc.inj]; omega)⟩
    · rw [hp]
      rw [u8V_len]
      refine .inr ⟨n + 1, by simp [u8V_len], ?_, by omega, by omega⟩
      rw [get_ne _ _ (by omega), get_ne _ _ (by omega), hg, hr, u8V_app]
      rfl
    · rw [hp]
      simp; omega
  · have e6 : (((rs.length : Nat) : Int) == 7) = false := by simpa using fun e : ((rs.length : Nat) : Int) = 7 => h7 (by omega)
    try simp (disch := first | omega | assumption | exact one_int _ _ | exact one_slice _ _ _ | exact one_ptr _ | exact one_bool _ | exact one_string _) only [RXA, RXB, Nat.reduceAdd, Nat.reduceLT, wrap_id, wrap_succ, wrap_pred, FX1, FX2, FX3, Int.reduceBEq, Int.reduceBNe, Int.reduceLT, Int.reduceLE, Int.reduceEq, Int.reduceNe, Int.reduceAdd, Int.reduceSub, Int.reduceMul, Int.reduceNeg, gw, e1, e2, e3, e4, e5, e6]
    have hp : pushB (ws, rs) b = (ws, rs ++ [b]) := by unfold pushB; rw [if_neg h7]
    refine ⟨sv, ⟨by rw [get_eq, hp]; rfl, hw, ?_, hne, by rw [hp]; simp; omega⟩, fun c hc => .inl hc⟩
    rw [hp]
    exact ow.keep (Nat.le_refl _) fun c hc => by rw [get_ne _ _ (hne c hc), get_ne _ _ (hne c hc)]
end

end Go.Proofs.YthhhkplbjcknkaaGreatDoor

/- Layer 1: a writer of bits: a bit, a field, taking. -/
import Derived.Test.YthhhkplbjcknkaaGreatDoorShP
import Derived.Test.YthhhkplbjcknkaaGreatDoorEvYc
import Derived.Test.YthhhkplbjcknkaaGreatDoorPb
namespace Go.Proofs.YthhhkplbjcknkaaGreatDoor
set_option linter.unusedVariables false
set_option linter.unusedSimpArgs false
open Go.RowKit Ev

theorem wrap_succ {x : Nat} (h : x < 9223372036854775807) : IntKind.i64.wrap ((x : Int) + 1) = ((x + 1 : Nat) : Int) := by rw [wrap_id (by omega) (by omega)]; rfl
theorem wrap_pred {x : Nat} (h : x < 9223372036854775807) : IntKind.i64.wrap (((x + 1 : Nat) : Int) - 1) = ((x : Nat) : Int) := by rw [wrap_id (by omega) (by omega)]; omega
theorem run_same {β : Type} {W : Nat → Prop} {n0 : Nat} {h : H} {n : Nat} {Q : β → H → Nat → Prop} {lf d : Nat} {f : FuncId} {args : Array Value} {v : Value} {W' : Nat → Prop} (s : Run W' n (evCall2 Tryz.prog gt lf d f args) h n fun v' h' n' => v' = v ∧ h' = h ∧ n' = n) (hn : n0 ≤ n) (hW : ∀ b, b < n → W' b → n0 ≤ b ∨ W b) {k : Value → M β} (x : Run W n0 (k v) h n Q) : Run W n0 ((inside (evCall2 Tryz.prog gt lf d f args)).bind k) h n Q := by
  refine run_call okd s hn hW fun v' h' n' _ _ hq => ?_
  obtain ⟨rfl, rfl, rfl⟩ := hq
  exact x

/-- a writer at w: bytes that are whole, the bits behind them, how many bits there were -/
def wrB (sv : Value) (rs : List Bool) (t : Nat) : AB := ⟨135, true, [sv, .int .u8 (restN rs : Int), .int .i64 (t : Int)]⟩
structure WrAt (h : H) (n w : Nat) (sv : Value) (s : List Nat × List Bool) (t : Nat) : Prop where
  get : h.get w = some (wrB sv s.2 t)
  lt : w < n
  own : Own h 0 n 5 sv (u8V s.1)
  ne : ∀ b, InBlk sv b → b ≠ w
  len : s.2.length = t % 8
theorem WrAt.keep {h h' : H} {n n' w : Nat} {sv : Value} {s : List Nat × List Bool} {t : Nat} (x : WrAt h n w sv s t) (hn : n ≤ n') (hk : ∀ b, b < n → (b = w ∨ InBlk sv b) → h'.get b = h.get b) : WrAt h' n' w sv s t :=
  ⟨(hk w x.lt (.inl rfl)).trans x.get, Nat.lt_of_lt_of_le x.lt hn, x.own.keep hn fun b hb => hk b (x.own.lt hb).2 (.inr hb), x.ne, x.len⟩
section
variable {lf d n w t : Nat} {h : H} {sv : Value} {s : List Nat × List Bool}
end

end Go.Proofs.YthhhkplbjcknkaaGreatDoor

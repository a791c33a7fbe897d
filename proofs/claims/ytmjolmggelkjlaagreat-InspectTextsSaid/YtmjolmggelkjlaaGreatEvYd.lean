/- Structs that begin with an array; arrays that are filled place by place; steps whose order may matter. No program in sight. -/
import Derived.Test.YtmjolmggelkjlaaGreatEvYc
namespace Go.Proofs.YtmjolmggelkjlaaGreat.Ev
set_option linter.unusedVariables false
set_option linter.unusedSimpArgs false
open Go Go.RowKit
/-- an array's cells when the first of them are filled -/
def rc (f : Nat → Value) (z : Value) (N i : Nat) : List Value := (List.range N).map fun j => if j < i then f j else z
theorem rc_len (f : Nat → Value) (z : Value) (N i : Nat) : (rc f z N i).length = N := by unfold rc; simp
theorem rc_zero (f : Nat → Value) (z : Value) (N : Nat) : rc f z N 0 = List.replicate N z := by
  unfold rc
  apply List.ext_getElem
  · simp
  · intro i h1 h2; simp
theorem rc_all (f : Nat → Value) (z : Value) (N : Nat) : rc f z N N = (List.range N).map f := by
  unfold rc
  apply List.map_congr_left
  intro j hj
  rw [if_pos (List.mem_range.1 hj)]
theorem rc_get {f : Nat → Value} {z : Value} {N i j : Nat} (h : j < (rc f z N i).length) : (rc f z N i)[j] = if j < i then f j else z := by simp [rc]
theorem rc_set {f : Nat → Value} {z : Value} {N i : Nat} (h : i < N) : (rc f z N i).set i (f i) = rc f z N (i + 1) := by
  apply List.ext_getElem
  · simp [rc_len]
  · intro j h1 h2
    rw [List.getElem_set, rc_get, rc_get]
    by_cases e : i = j
    · subst e; simp
    · rw [if_neg e]
      by_cases e2 : j < i
      · rw [if_pos e2, if_pos (by omega)]
      · rw [if_neg e2, if_neg (by omega)]
section
variable {β : Type} {W : Nat → Prop} {n0 : Nat} {h : H} {n : Nat} {Q : β → H → Nat → Prop} {P : Program}
theorem timed_ret' (v : Value) (k : Value × Tk → M β) (y : ∀ T, RO T n → Run W n0 (k (v, T)) h n Q) : Run W n0 ((timed (M.ret v)).bind k) h n Q :=
  timed_step (L := []) rfl (Nat.le_refl _) (by simp) (y _ ⟨by simp, by simp, rfl⟩)
theorem timed_call' (hd : okDsts P = true) {gt : Nat → Hint} {lf d : Nat} {f : FuncId} {vs : List Value} {W' : Nat → Prop} {Q' : Value → H → Nat → Prop} (s : Run W' n (evCall2 P gt lf d f ⟨vs⟩) h n Q') (hn : n0 ≤ n) (hW : ∀ b, b < n → W' b → n0 ≤ b ∨ W b) {k : Value × Tk → M β}
    (x : ∀ v h1 n1 T, n ≤ n1 → (∀ b, b < n → ¬ W' b → h1.get b = h.get b) → Q' v h1 n1 → Run W n0 (k (v, T)) h1 n1 Q) : Run W n0 ((timed (kcl (evCall2 P gt lf d) f vs M.ret)).bind k) h n Q :=
  timed_call hd s hn hW fun v h1 n1 L a b c _ _ => x v h1 n1 _ a b c
end

end Go.Proofs.YtmjolmggelkjlaaGreat.Ev

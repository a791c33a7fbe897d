/- Steps whose order may matter, that read only what was there ahead of a place. No program in sight. -/
import Derived.Test.YtmjolmggelkjlaaGreatEvYd
namespace Go.Proofs.YtmjolmggelkjlaaGreat.Ev
set_option linter.unusedVariables false
set_option linter.unusedSimpArgs false
open Go Go.RowKit
structure RB (t : Tk) (m : Nat) : Prop where
  wr : ∀ e ∈ t.log, e.wr = false
  lt : ∀ e ∈ t.log, e.b < m
  le : m ≤ t.n
theorem RB.clash {a b : Tk} {m : Nat} (x : RB a m) (y : RB b m) : clash3 a b = false := (clash3_eq a b).trans <| clash_ro x.wr y.wr (fun e he => Nat.lt_of_lt_of_le (x.lt e he) y.le) (fun e he => Nat.lt_of_lt_of_le (y.lt e he) x.le)
section
variable {β : Type} {W : Nat → Prop} {n0 : Nat} {h : H} {n m : Nat} {Q : β → H → Nat → Prop} {P : Program}
theorem timed_ldB {T : Prop} (ha : T) (b off : Nat) (k : Value × Tk → M β) {B : AB} (hg : h.get b = some B) (hb : b < m) (hm : m ≤ n) {v : Value} (hv : B.cells[off]? = some v) (x : ∀ T, RB T m → Run W n0 (k (v, T)) h n Q) : Run W n0 ((timed (kld (.pointer (some ⟨b, off, none⟩)) M.ret)).bind k) h n Q :=
  timed_ld ha b off k hg (by omega) hv (x _ ⟨by simp, by simpa using hb, hm⟩)
theorem timed_retB (v : Value) (k : Value × Tk → M β) (hm : m ≤ n) (y : ∀ T, RB T m → Run W n0 (k (v, T)) h n Q) : Run W n0 ((timed (M.ret v)).bind k) h n Q :=
  timed_step (L := []) rfl (Nat.le_refl _) (by simp) (y _ ⟨by simp, by simp, hm⟩)
theorem timed_callB (hd : okDsts P = true) {gt : Nat → Hint} {lf d : Nat} {f : FuncId} {vs : List Value} {Q' : Value → H → Nat → Prop} (s : Run (fun _ => False) n (evCall2 P gt lf d f ⟨vs⟩) h n Q') (hn : n0 ≤ n) {k : Value × Tk → M β}
    (x : ∀ v h1 n1 T, n ≤ n1 → (∀ b, b < n → h1.get b = h.get b) → Q' v h1 n1 → RB T n → Run W n0 (k (v, T)) h1 n1 Q) : Run W n0 ((timed (kcl (evCall2 P gt lf d) f vs M.ret)).bind k) h n Q := by
  refine timed_call hd s hn (fun _ _ h => h.elim) fun v h1 n1 L hn1 fr hq hL hw => x v h1 n1 _ hn1 (fun b hb => fr b hb id) hq ⟨fun e he => ?_, hL, Nat.le_refl _⟩
  cases hq : e.wr with
  | false => rfl
  | true => exact (hw e he hq).elim
/-- any part, told -/
theorem timed_any {m : M Value} {Q' : Value → H → Nat → Prop} (s : Run W n0 m h n Q') {k : Value × Tk → M β} (x : ∀ v h1 n1 T, n ≤ n1 → Q' v h1 n1 → Run W n0 (k (v, T)) h1 n1 Q) : Run W n0 ((timed m).bind k) h n Q := by
  obtain ⟨v, h1, n1, L, e1, e2, e3, e4⟩ := s
  exact timed_step e1 e2 e3 (x v h1 n1 _ e2 e4)
/-- a reading, and a call behind it that writes other blocks -/
theorem timed_ld_call {T : Prop} (ha : T) (b off : Nat) (k : Value × Tk → M β) {B : AB} (hg : h.get b = some B) (hb : b < n) {v : Value} (hv : B.cells[off]? = some v) (x : ∀ T, T.n = n → T.n1 = n → T.log = [⟨false, b, some off⟩] → Run W n0 (k (v, T)) h n Q) : Run W n0 ((timed (kld (.pointer (some ⟨b, off, none⟩)) M.ret)).bind k) h n Q :=
  timed_ld ha b off k hg hb hv (x _ rfl rfl rfl)
theorem timed_callW (hd : okDsts P = true) {gt : Nat → Hint} {lf d : Nat} {f : FuncId} {vs : List Value} {W' : Nat → Prop} {Q' : Value → H → Nat → Prop} (s : Run W' n (evCall2 P gt lf d f ⟨vs⟩) h n Q') (hn : n0 ≤ n) (hW : ∀ b, b < n → W' b → n0 ≤ b ∨ W b) {k : Value × Tk → M β}
    (x : ∀ v h1 n1 T, n ≤ n1 → (∀ b, b < n → ¬ W' b → h1.get b = h.get b) → Q' v h1 n1 → T.n = n → (∀ e ∈ T.log, e.b < n) → (∀ e ∈ T.log, e.wr = true → W' e.b) → Run W n0 (k (v, T)) h1 n1 Q) : Run W n0 ((timed (kcl (evCall2 P gt lf d) f vs M.ret)).bind k) h n Q :=
  timed_call hd s hn hW fun v h1 n1 L a b c e1 e2 => x v h1 n1 _ a b c rfl e1 e2
theorem clash_ld_wr {a b : Tk} {p off : Nat} {W' : Nat → Prop} (h1 : a.n = n) (h2 : a.n1 = n) (h3 : a.log = [⟨false, p, some off⟩]) (h4 : b.n = n) (h5 : ∀ e ∈ b.log, e.b < n) (h6 : ∀ e ∈ b.log, e.wr = true → W' e.b) (hp : p < n) (hW : ¬ W' p) : clash3 a b = false := by
  rw [clash3_eq]
  unfold Tk.clash
  simp only [Bool.or_eq_false_iff, List.any_eq_false, Bool.and_eq_true, decide_eq_true_eq, not_and, h3, List.mem_singleton]
  refine ⟨⟨⟨fun x hx hw => ?_, fun x hx hw => ?_⟩, fun x hx hle => ?_⟩, fun x hx hle => ?_⟩
  · subst hx; cases hw
  · simp only [List.any_cons, List.any_nil, Bool.or_false, Bool.not_eq_true]
    unfold En.meets
    have : x.b ≠ p := fun e => hW (e ▸ h6 x hx hw)
    simp [this]
  · subst hx
    simp only at hle ⊢
    omega
  · have := h5 x hx
    omega
end

end Go.Proofs.YtmjolmggelkjlaaGreat.Ev

/- A table of functions that have been printed: the evaluator by the table is the evaluator. No program in sight. -/
import Derived.Test.YtmjolmggelkjlaaGreatFe
namespace Go.Proofs.YtmjolmggelkjlaaGreat.Ev
set_option linter.unusedVariables false
set_option linter.unusedSimpArgs false
open Go Go.RowKit
/-! tables -/
noncomputable def ArT : Nat → Type
  | 0 => M Value
  | n + 1 => Value → ArT n
noncomputable def runAr : (n : Nat) → ArT n → (List Value → M Value) → List Value → M Value
  | 0, F, _, [] => F
  | n + 1, F, K, v :: s => runAr n (F v) (fun s => K (v :: s)) s
  | 0, _, K, x :: s => K (x :: s)
  | _ + 1, _, K, [] => K []
noncomputable def EqAr : (n : Nat) → ArT n → (List Value → M Value) → Prop
  | 0, F, K => F = K []
  | n + 1, F, K => ∀ v, EqAr n (F v) (fun s => K (v :: s))
theorem runAr_eq : ∀ (n : Nat) (F : ArT n) (K : List Value → M Value), EqAr n F K → runAr n F K = K := by
  intro n
  induction n with
  | zero =>
    intro F K h
    funext s
    cases s with
    | nil => exact h
    | cons x s => rfl
  | succ n ih =>
    intro F K h
    funext s
    cases s with
    | nil => rfl
    | cons v s =>
      show runAr n (F v) (fun s => K (v :: s)) s = _
      rw [ih (F v) (fun s => K (v :: s)) (h v)]
noncomputable def findT {α : Type} (f : Nat) : List (Nat × α) → Option α
  | [] => none
  | p :: r => match Nat.beq p.1 f with
    | true => some p.2
    | false => findT f r
abbrev Tab := List (Nat × (Nat → (FuncId → Array Value → M Value) → List Value → M Value))
noncomputable def OkTab (C : Nat → FuncId → Array Value → M Value) : Tab → Prop
  | [] => True
  | p :: r => (∀ d, p.2 d (C d) = fun l => C (d + 1) p.1 l.toArray) ∧ OkTab C r
theorem findT_ok {C : Nat → FuncId → Array Value → M Value} {f : Nat} {E : Nat → (FuncId → Array Value → M Value) → List Value → M Value} : ∀ {T : Tab}, OkTab C T → findT f T = some E → ∀ d, E d (C d) = fun l => C (d + 1) f l.toArray
  | [], _, h => by cases h
  | p :: r, ok, h => by
    unfold findT at h
    cases hq : Nat.beq p.1 f with
    | true =>
      rw [hq] at h
      cases h
      rw [← Nat.eq_of_beq_eq_true hq]
      exact ok.1
    | false =>
      rw [hq] at h
      exact findT_ok ok.2 h
noncomputable def fastT (C : Nat → FuncId → Array Value → M Value) (T : Tab) : Nat → FuncId → Array Value → M Value
  | 0, f, a => C 0 f a
  | d + 1, f, a => match findT f T with
    | some E => E d (fastT C T d) a.toList
    | none => C (d + 1) f a
theorem fastT_eq {C : Nat → FuncId → Array Value → M Value} {T : Tab} (ok : OkTab C T) : ∀ d, fastT C T d = C d
  | 0 => rfl
  | d + 1 => by
    have ih := fastT_eq ok d
    funext f a
    unfold fastT
    rw [ih]
    split
    · rename_i E hE
      rw [findT_ok ok hE d]
    · rfl

end Go.Proofs.YtmjolmggelkjlaaGreat.Ev

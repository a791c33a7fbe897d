/- Storing values of several cells; calls that are taken in; readings that do not touch one another. No program in sight. -/
import Derived.Test.YthhhkplbjcknkaaGreatDoorEvYa
namespace Go.Proofs.YthhhkplbjcknkaaGreatDoor.Ev
set_option linter.unusedVariables false
set_option linter.unusedSimpArgs false
open Go Go.RowKit
section
variable {β : Type} {W : Nat → Prop} {n0 : Nat} {h : H} {n : Nat} {Q : β → H → Nat → Prop} {P : Program}
/-- two that only read what was there ahead of them do not clash -/
theorem clash_ro {a b : Tk} (h1 : ∀ e ∈ a.log, e.wr = false) (h2 : ∀ e ∈ b.log, e.wr = false) (h3 : ∀ e ∈ a.log, e.b < b.n) (h4 : ∀ e ∈ b.log, e.b < a.n) : a.clash b = false := by
  unfold Tk.clash
  simp only [Bool.or_eq_false_iff, List.any_eq_false, Bool.and_eq_true, decide_eq_true_eq, not_and]
  refine ⟨⟨⟨fun x hx hw => ?_, fun x hx hw => ?_⟩, fun x hx hle => ?_⟩, fun x hx hle => ?_⟩
  · rw [h1 x hx] at hw; cases hw
  · rw [h2 x hx] at hw; cases hw
  · have := h3 x hx; omega
  · have := h4 x hx; omega
/-- of a step of which one may want the order: that it reads, and what was there -/
structure RO (t : Tk) (n : Nat) : Prop where
  wr : ∀ e ∈ t.log, e.wr = false
  lt : ∀ e ∈ t.log, e.b < n
  n : t.n = n
theorem RO.clash {a b : Tk} {m : Nat} (x : RO a m) (y : RO b m) : Tk.clash a b = false := clash_ro x.wr y.wr (fun e he => by rw [y.n]; exact x.lt e he) (fun e he => by rw [x.n]; exact y.lt e he)
end

end Go.Proofs.YthhhkplbjcknkaaGreatDoor.Ev

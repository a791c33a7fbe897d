/- A slice of texts as an argument. No program in sight. -/
import Derived.Test.YthhhkplbjcknkaaGreatDoorEvZ
namespace Go.Proofs.YthhhkplbjcknkaaGreatDoor.Ev
set_option linter.unusedVariables false
set_option linter.unusedSimpArgs false
open Go Go.RowKit

def SRow (h : H) (n : Nat) (v : Value) (ss : List (List UInt8)) : Prop := ∃ a c, v = .slice a ss.length c ∧ ∀ i (hi : i < ss.length), ∃ b B, a = some ⟨b, 0, none⟩ ∧ h.get b = some B ∧ b < n ∧ B.cells[i]? = some (.string ⟨(ss[i]).toArray⟩)
theorem SRow.keep {h h' : H} {n n' : Nat} {v : Value} {ss : List (List UInt8)} (r : SRow h n v ss) (hn : n ≤ n') (hk : ∀ b, b < n → h'.get b = h.get b) : SRow h' n' v ss := by
  obtain ⟨a, c, rfl, q⟩ := r
  refine ⟨a, c, rfl, fun i hi => ?_⟩
  obtain ⟨b, B, ha, hg, hb, hc⟩ := q i hi
  exact ⟨b, B, ha, (hk b hb).trans hg, by omega, hc⟩

end Go.Proofs.YthhhkplbjcknkaaGreatDoor.Ev

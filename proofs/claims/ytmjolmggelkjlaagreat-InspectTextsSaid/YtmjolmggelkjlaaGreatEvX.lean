/- Texts in the second form: a text is the list of its bytes. No program in sight. -/
import Derived.Test.YtmjolmggelkjlaaGreatEvW
namespace Go.Proofs.YtmjolmggelkjlaaGreat.Ev
set_option linter.unusedVariables false
set_option linter.unusedSimpArgs false
open Go Go.RowKit

theorem bound_int (k : IntKind) (i : Int) (d : Nat) (h : 0 ≤ i) : boundOf (some (.int k i)) d = some i.toNat := by unfold boundOf; simp [h]

end Go.Proofs.YtmjolmggelkjlaaGreat.Ev

/- The closed functions of this seat's statements that yield true in every world: what the evaluator need not walk. -/
import Derived.WalkKit
namespace Go.Proofs.YthhhkplbjcknkaaGreat.Ev
set_option linter.unusedVariables false
set_option linter.unusedSimpArgs false
open Go
def KN : List FuncId := [9, 34, 134]
/-- cells of package-level variables that these functions read: the variable's number, the cell, what it holds -/
def KG : List (Nat × Nat × Value) := []
end Go.Proofs.YthhhkplbjcknkaaGreat.Ev

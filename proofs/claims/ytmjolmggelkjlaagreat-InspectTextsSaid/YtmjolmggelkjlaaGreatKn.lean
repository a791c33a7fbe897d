/- The closed functions of this seat's statements that yield true in every world: what the evaluator need not walk; and functions that are known by what they yield. -/
import Derived.WalkKit
import Derived.Test.YtmjolmggelkjlaaGreatIK
namespace Go.Proofs.YtmjolmggelkjlaaGreat.Ev
set_option linter.unusedVariables false
set_option linter.unusedSimpArgs false
open Go
def KN : List FuncId := [12, 65, 68, 18]
/-- functions that are known by what they do -/
def NV : List (FuncId × Nat) := [(68, 3), (18, 4)]
/-- functions of numbers and texts, and of one row of plain cells, that are known by what they yield -/
def natP : FuncId → List Value → Option Value := fun _ => Ip.hexN
def natZ : FuncId → Nat := fun _ => 8
def natR : FuncId → Nat → List Value → Option Value := fun _ => Ip.textN
/-- cells of package-level variables that these functions read: the variable's number, the cell, what it holds -/
def KG : List (Nat × Nat × Value) := []
end Go.Proofs.YtmjolmggelkjlaaGreat.Ev

/- The closed functions of this seat's statements that yield true in every world: what the evaluator need not walk. -/
import Derived.WalkKit
namespace Go.Proofs.YthhhkplbjcknkaaGreatDoor.Ev
set_option linter.unusedVariables false
set_option linter.unusedSimpArgs false
open Go
def KN : List FuncId := [24, 267, 189, 258]
/-- functions of the library that are known by what they do -/
def NV : List (FuncId × Nat) := [(189, 1), (258, 2)]
/-- cells of package-level variables that these functions read: the variable's number, the cell, what it holds -/
def KG : List (Nat × Nat × Value) := [(0, 0, .int .i64 200), (0, 1, .int .i64 600), (0, 2, .int .i64 1200), (0, 3, .int .i64 2400)]
end Go.Proofs.YthhhkplbjcknkaaGreatDoor.Ev

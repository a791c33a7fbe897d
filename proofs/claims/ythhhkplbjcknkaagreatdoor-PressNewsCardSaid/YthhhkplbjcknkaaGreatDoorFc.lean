/- The functions that the evaluator leaves out. -/
import Derived.Test.YthhhkplbjcknkaaGreatDoorRows
import Derived.Test.YthhhkplbjcknkaaGreatDoorFb
namespace Go.Proofs.YthhhkplbjcknkaaGreatDoor.Fa
set_option linter.unusedVariables false
set_option linter.unusedSimpArgs false
open Go
def kn0 : List FuncId := [267, 189, 258]
end Go.Proofs.YthhhkplbjcknkaaGreatDoor.Fa

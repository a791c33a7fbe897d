/- The functions that the evaluator leaves out. -/
import Derived.Test.YthhhkplbjcknkaaGreatRows
import Derived.Test.YthhhkplbjcknkaaGreatFb
namespace Go.Proofs.YthhhkplbjcknkaaGreat.Fa
set_option linter.unusedVariables false
set_option linter.unusedSimpArgs false
open Go
def kn0 : List FuncId := [134]
end Go.Proofs.YthhhkplbjcknkaaGreat.Fa

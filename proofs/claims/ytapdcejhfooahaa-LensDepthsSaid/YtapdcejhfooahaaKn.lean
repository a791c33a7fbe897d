/- The closed functions of this seat's statements that yield true in every world: what the evaluator need not walk. -/
import Derived.WalkKit
namespace Go.Proofs.Ytapdcejhfooahaa.Ev
set_option linter.unusedVariables false
set_option linter.unusedSimpArgs false
open Go
def KN : List FuncId := [9]
end Go.Proofs.Ytapdcejhfooahaa.Ev

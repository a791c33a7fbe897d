/- The closed parts of the statements of layers 24 and 25, by the evaluator. -/
import Derived.Test.YthhhkplbjcknkaaGreatRows
import Derived.Test.YthhhkplbjcknkaaGreatEvJ
namespace Go.Proofs.YthhhkplbjcknkaaGreat
set_option linter.unusedVariables false
set_option linter.unusedSimpArgs false
open Go.RowKit

theorem ev_names : Ev.okNames Tryz.prog = true := by kernel_rfl
def bad0 : List FuncId := [134]
theorem ev_prog : Ev.okProg Tryz.prog bad0 = true := by kernel_rfl
theorem ev_mix : Tryz.prog.follows .mixedOrders = true := by kernel_rfl

end Go.Proofs.YthhhkplbjcknkaaGreat

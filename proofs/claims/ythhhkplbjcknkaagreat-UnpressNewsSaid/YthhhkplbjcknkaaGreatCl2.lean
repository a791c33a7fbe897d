/- A closed part of the statements of layers 24 and 25, by the evaluator. -/
import Derived.Test.YthhhkplbjcknkaaGreatCl
namespace Go.Proofs.YthhhkplbjcknkaaGreat
set_option linter.unusedVariables false
set_option linter.unusedSimpArgs false
open Go.RowKit

theorem ev_none : Ev.yieldsTrue (Ev.evCall Tryz.prog bad0 100000 9 #[] .nil Tryz.prog.globals.size) = true := by kernel_rfl

end Go.Proofs.YthhhkplbjcknkaaGreat

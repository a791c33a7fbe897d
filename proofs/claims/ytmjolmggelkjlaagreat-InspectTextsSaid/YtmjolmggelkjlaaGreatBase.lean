/- Closed facts on the program's types. -/
import Derived.Test.YtmjolmggelkjlaaGreatRows
import Derived.Test.YtmjolmggelkjlaaGreatMem2
namespace Go.Proofs.YtmjolmggelkjlaaGreat
set_option linter.unusedVariables false
set_option linter.unusedSimpArgs false
open Go.RowKit
theorem info_int : (Tryz.prog.info? 3).map (fun i => (i.zero, i.size, i.bytes)) = some (some (.int .i64 0), 1, 8) := by kernel_rfl
/-- what a function that makes a slice of ints leaves -/
def IntsOut (w : World) (xs : List Int) (e : Ending) (w' : World) : Prop := (∃ a cap, e = .returned (.slice a xs.length cap) ∧ NumsAt .i64 w' a xs) ∧ Below w.heap.size w w'
end Go.Proofs.YtmjolmggelkjlaaGreat

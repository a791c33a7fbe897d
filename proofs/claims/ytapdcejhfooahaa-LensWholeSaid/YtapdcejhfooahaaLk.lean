/- The statement LensWhole, as a call. -/
import Derived.Test.YtapdcejhfooahaaLj
import Derived.Test.YtapdcejhfooahaaLi
namespace Go.Proofs.Ytapdcejhfooahaa
set_option linter.unusedVariables false
set_option linter.unusedSimpArgs false
open Go.RowKit Ev
theorem call_Whole {v : Value} {xs : List Int} {w : World} (ha : ArgAt w v xs) (hL : xs.length ≤ 9223372036854775807) : Calls Try.prog 5 #[v] w fun e w' => e = .returned (.bool true) ∧ Below w.heap.size w w' :=
  one_law ha fun n h v0 hR => law_Whole n h v0 xs hR hL
end Go.Proofs.Ytapdcejhfooahaa

/- The closed part of layer 9's statements, by the evaluator. -/
import Derived.Test.YtapdcejhfooahaaBase
import Derived.Test.YtapdcejhfooahaaEvJ
namespace Go.Proofs.Ytapdcejhfooahaa
set_option linter.unusedVariables false
set_option linter.unusedSimpArgs false
open Go.RowKit

theorem ev_names : Ev.okNames Try.prog = true := by kernel_rfl
theorem ev_prog : Ev.okProg Try.prog [] = true := by kernel_rfl
theorem ev_mix : Try.prog.follows .mixedOrders = true := by kernel_rfl
theorem ev_three : Ev.yieldsTrue (Ev.evCall Try.prog [] 3000 9 #[] .nil Try.prog.globals.size) = true := by kernel_rfl
theorem l_three (w : World) : Calls Try.prog 9 #[] w fun e w' => e = .returned (.bool true) ∧ Below w.heap.size w w' := Ev.closed_call ev_names ev_prog ev_mix (Ev.known_nil _) ev_three w

end Go.Proofs.Ytapdcejhfooahaa

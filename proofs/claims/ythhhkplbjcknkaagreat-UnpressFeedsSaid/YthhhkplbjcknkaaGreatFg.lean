/- The closed test of layer 25, run quickly. -/
import Derived.Test.YthhhkplbjcknkaaGreatFf
namespace Go.Proofs.YthhhkplbjcknkaaGreat
set_option linter.unusedVariables false
set_option linter.unusedSimpArgs false
open Go.RowKit Ev

set_option maxRecDepth 100000 in
theorem q_three : Ev.yieldsTrue ((inside (Fa.F_balerlaw25_three 100000 1000 (Fa.fast 100000 1000))) .nil Tryz.prog.globals.size) = true := by kernel_rfl
theorem l_three (w : World) : Calls Tryz.prog 34 #[] w fun e w' => e = .returned (.bool true) ∧ Below w.heap.size w w' := by
  obtain ⟨m, x⟩ := laid_nil Tryz.prog w
  refine Ev.closedN (kn := Fa.kn0) ev_names ev_prog ev_mix bad_known okd0 x (gt := Fa.gtA) (lf := 100000) (d := 1001) ?_
  have := q_three
  rw [Fa.fast_eq, Fa.fsh_balerlaw25_three] at this
  exact this

end Go.Proofs.YthhhkplbjcknkaaGreat

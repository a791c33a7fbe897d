/- The closed test of layer 24, run quickly. -/
import Derived.Test.YthhhkplbjcknkaaGreatFd3
import Derived.Test.YthhhkplbjcknkaaGreatFe
import Derived.Test.YthhhkplbjcknkaaGreatCl
namespace Go.Proofs.YthhhkplbjcknkaaGreat
set_option linter.unusedVariables false
set_option linter.unusedSimpArgs false
open Go.RowKit Ev

theorem okd0 : okDsts Tryz.prog = true := by kernel_rfl
theorem bad_known : Ev.Known Tryz.prog Fa.kn0 := fun f hf hp => by
  have : f = 134 := by simpa [Fa.kn0] using hf
  subst this
  exact absurd hp (by decide +kernel)
set_option maxRecDepth 100000 in
theorem q_none : Ev.yieldsTrue ((inside (Fa.F_balerlaw24_none 100000 1000 (Fa.fast 100000 1000))) .nil Tryz.prog.globals.size) = true := by kernel_rfl
theorem l_none (w : World) : Calls Tryz.prog 9 #[] w fun e w' => e = .returned (.bool true) ∧ Below w.heap.size w w' := by
  obtain ⟨m, x⟩ := laid_nil Tryz.prog w
  refine Ev.closedN (kn := Fa.kn0) ev_names ev_prog ev_mix bad_known okd0 x (gt := Fa.gtA) (lf := 100000) (d := 1001) ?_
  have := q_none
  rw [Fa.fast_eq, Fa.fsh_balerlaw24_none] at this
  exact this
end Go.Proofs.YthhhkplbjcknkaaGreat

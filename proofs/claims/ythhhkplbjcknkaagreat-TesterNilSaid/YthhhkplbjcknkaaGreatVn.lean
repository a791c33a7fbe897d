/- Layer 25: what the statement TesterNil wants. -/
import Derived.Test.YthhhkplbjcknkaaGreatVa
import Derived.Test.YthhhkplbjcknkaaGreatUb
namespace Go.Proofs.YthhhkplbjcknkaaGreat
set_option linter.unusedVariables false
set_option linter.unusedSimpArgs false
open Go.RowKit Ev
theorem call_TNil {w : World} {vs : List Value} (ha : All2 (ArgR Tryz.prog w) [9, 3] vs) : Calls Tryz.prog 6 vs.toArray w fun e w' => e = .returned (.bool true) ∧ Below w.heap.size w w' := by
  refine the_law ha fun n h vs0 q => ?_
  obtain ⟨a, b, rfl, h1, h2⟩ := Ev.all2_2 q
  obtain ⟨s, rfl, _⟩ := a_str h1
  obtain ⟨x, rfl, _⟩ := a_int h2
  exact law_TNil 3000000 996 n h _ x

end Go.Proofs.YthhhkplbjcknkaaGreat

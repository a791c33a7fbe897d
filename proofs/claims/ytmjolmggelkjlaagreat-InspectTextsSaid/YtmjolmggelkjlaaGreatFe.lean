/- From the quick run of a closed test to its call in every world. -/
import Derived.Test.YtmjolmggelkjlaaGreatEvU
namespace Go.Proofs.YtmjolmggelkjlaaGreat.Ev
set_option linter.unusedVariables false
set_option linter.unusedSimpArgs false
open Go Go.RowKit
theorem closedN {P : Program} {kn : List FuncId} (hnm : okNames P = true) (hok : okProg P kn = true) (hmix : P.follows .mixedOrders = true) (hkn : Known P kn) (hd : okDsts P = true) {gt : Nat → Hint} {lf d : Nat} {f : FuncId} {w : World} {m : Mp} {h : H} (x : Laid P w m h P.globals.size) (hr : yieldsTrue (evCallN kn P gt lf d f #[] h P.globals.size) = true) :
    Calls P f #[] w fun e w' => e = .returned (.bool true) ∧ Below w.heap.size w w' := by
  cases ho : evCallN kn P gt lf d f #[] h P.globals.size with
  | none => rw [ho] at hr; cases hr
  | some o =>
    obtain ⟨v, h1, n1, L⟩ := o
    rw [ho] at hr
    obtain ⟨f0, hf0⟩ := callN_ok hd d f #[] h _ v h1 n1 L ho
    refine closed_laid hnm hok hmix hkn x (fuel := f0) ?_
    have e : evCall P kn f0 f #[] h P.globals.size = some ⟨v, h1, n1, L⟩ := hf0 f0 (Nat.le_refl _)
    rw [e]
    exact hr

end Go.Proofs.YtmjolmggelkjlaaGreat.Ev

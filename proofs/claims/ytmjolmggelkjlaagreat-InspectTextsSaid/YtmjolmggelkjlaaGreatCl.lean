/- The closed test of layer 47, run quickly. -/
import Derived.Test.YtmjolmggelkjlaaGreatRows
import Derived.Test.YtmjolmggelkjlaaGreatFu
import Derived.Test.YtmjolmggelkjlaaGreatFe
import Derived.Test.YtmjolmggelkjlaaGreatIE
namespace Go.Proofs.YtmjolmggelkjlaaGreat
set_option linter.unusedVariables false
set_option linter.unusedSimpArgs false
open Go.RowKit Ev

theorem ev_prog0 : Ev.okProg Tryz.prog kn0 = true := by kernel_rfl
theorem ev_progK : Ev.okProg Tryz.prog Ev.KN = true := by kernel_rfl
theorem bad_known : Ev.Known Tryz.prog kn0 := by
  refine ⟨fun f hf hn hp w _ => ?_, nat_all fun f k hb hf => ?_⟩
  · have hb : f = 65 ∨ f = 68 ∨ f = 18 := by simpa [kn0] using hf
    rcases hb with rfl | rfl | rfl
    · have e : Ev.noPar Tryz.prog 65 = false := by kernel_rfl
      exact absurd (e.symm.trans hp) (by decide)
    · exact absurd hn (by decide)
    · exact absurd hn (by decide)
  · have hb : f = 65 ∨ f = 68 ∨ f = 18 := by simpa [kn0] using hb
    rcases hb with rfl | rfl | rfl
    · cases hf
    · cases hf; exact .inl ⟨rfl, rfl⟩
    · cases hf; exact .inr ⟨rfl, rfl⟩
set_option maxRecDepth 100000 in
theorem q_nothing : Ev.yieldsTrue ((inside (b_balerlaw47_nothing 300000000 (fast 300000000 1000))) .nil Tryz.prog.globals.size) = true := by kernel_rfl
theorem l_nothing (w : World) : Calls Tryz.prog 12 #[] w fun e w' => e = .returned (.bool true) ∧ Below w.heap.size w w' := by
  obtain ⟨m, x⟩ := laid_nil Tryz.prog w
  refine Ev.closedN (kn := kn0) ev_names ev_prog0 ev_mix bad_known okd x (gt := gt) (lf := 300000000) (d := 1001) ?_
  have := q_nothing
  rw [fast_eq, shN st_balerlaw47_nothing] at this
  exact this
theorem known : Ev.Known Tryz.prog Ev.KN := by
  refine ⟨fun f hf hn hp w _ => ?_, nat_all fun f k hb hf => ?_⟩
  · have hb : f = 12 ∨ f = 65 ∨ f = 68 ∨ f = 18 := by simpa [Ev.KN] using hf
    rcases hb with rfl | rfl | rfl | rfl
    · exact l_nothing w
    · have e : Ev.noPar Tryz.prog 65 = false := by kernel_rfl
      exact absurd (e.symm.trans hp) (by decide)
    · exact absurd hn (by decide)
    · exact absurd hn (by decide)
  · have hb : f = 12 ∨ f = 65 ∨ f = 68 ∨ f = 18 := by simpa [Ev.KN] using hb
    rcases hb with rfl | rfl | rfl | rfl
    · cases hf
    · cases hf
    · cases hf; exact .inl ⟨rfl, rfl⟩
    · cases hf; exact .inr ⟨rfl, rfl⟩
end Go.Proofs.YtmjolmggelkjlaaGreat

/- The closed tests of layers 14 and 21, run quickly. -/
import Derived.Test.YthhhkplbjcknkaaGreatDoorRows
import Derived.Test.YthhhkplbjcknkaaGreatDoorFd3
import Derived.Test.YthhhkplbjcknkaaGreatDoorFe
import Derived.Test.YthhhkplbjcknkaaGreatDoorEvJ
namespace Go.Proofs.YthhhkplbjcknkaaGreatDoor
set_option linter.unusedVariables false
set_option linter.unusedSimpArgs false
open Go.RowKit Ev

theorem ev_names : Ev.okNames Tryz.prog = true := by kernel_rfl
theorem ev_prog0 : Ev.okProg Tryz.prog Fa.kn0 = true := by kernel_rfl
theorem ev_progK : Ev.okProg Tryz.prog Ev.KN = true := by kernel_rfl
theorem ev_mix : Tryz.prog.follows .mixedOrders = true := by kernel_rfl
theorem okd0 : okDsts Tryz.prog = true := by kernel_rfl
theorem bad_known : Ev.Known Tryz.prog Fa.kn0 := fun f hf hp => by
  have : f = 267 := by simpa [Fa.kn0] using hf
  subst this
  exact absurd hp (by decide +kernel)
/-- what the laid variable holds -/
def gV : List Value := [.int .i64 200, .int .i64 600, .int .i64 1200, .int .i64 2400]
def hG : H := H.set .nil 0 (some ⟨3, false, gV⟩)
theorem laid_hG {w : World} (x : Ev.GlobAt w) : ∃ m, Laid Tryz.prog w m hG Tryz.prog.globals.size := by
  refine laid_KG x (by decide +kernel) (sz := 1) (by kernel_rfl) (by decide) (fun k v hk => ?_) (by decide)
  match k, hk with
  | 0, hk => cases hk; simp [KG]
  | 1, hk => cases hk; simp [KG]
  | 2, hk => cases hk; simp [KG]
  | 3, hk => cases hk; simp [KG]
set_option maxRecDepth 100000 in
theorem q_two : Ev.yieldsTrue ((inside (Fa.F_balerlaw14_two 100000 1000 (Fa.fast 100000 1000))) hG Tryz.prog.globals.size) = true := by kernel_rfl
set_option maxRecDepth 100000 in
theorem q_none : Ev.yieldsTrue ((inside (Fa.F_balerlaw21_none 100000 1000 (Fa.fast 100000 1000))) hG Tryz.prog.globals.size) = true := by kernel_rfl
theorem l_two (w : World) (x : Ev.GlobAt w) : Calls Tryz.prog 16 #[] w fun e w' => e = .returned (.bool true) ∧ Below w.heap.size w w' := by
  obtain ⟨m, x⟩ := laid_hG x
  refine Ev.closedN (kn := Fa.kn0) ev_names ev_prog0 ev_mix bad_known okd0 x (gt := Fa.gtA) (lf := 100000) (d := 1001) ?_
  have := q_two
  rw [Fa.fast_eq, Fa.fsh_balerlaw14_two] at this
  exact this
theorem l_none (w : World) (x : Ev.GlobAt w) : Calls Tryz.prog 17 #[] w fun e w' => e = .returned (.bool true) ∧ Below w.heap.size w w' := by
  obtain ⟨m, x⟩ := laid_hG x
  refine Ev.closedN (kn := Fa.kn0) ev_names ev_prog0 ev_mix bad_known okd0 x (gt := Fa.gtA) (lf := 100000) (d := 1001) ?_
  have := q_none
  rw [Fa.fast_eq, Fa.fsh_balerlaw21_none] at this
  exact this
theorem known : Ev.Known Tryz.prog Ev.KN := by
  intro f hf hp w x
  have : f = 16 ∨ f = 17 ∨ f = 267 := by simpa [Ev.KN] using hf
  rcases this with rfl | rfl | rfl
  · exact l_two w x
  · exact l_none w x
  · exact absurd hp (by decide +kernel)

end Go.Proofs.YthhhkplbjcknkaaGreatDoor

/- The closed test of layer 23, run quickly; what the library's functions are known for. -/
import Derived.Test.YthhhkplbjcknkaaGreatDoorRows
import Derived.Test.YthhhkplbjcknkaaGreatDoorFd3
import Derived.Test.YthhhkplbjcknkaaGreatDoorFe
import Derived.Test.YthhhkplbjcknkaaGreatDoorSf
namespace Go.Proofs.YthhhkplbjcknkaaGreatDoor
set_option linter.unusedVariables false
set_option linter.unusedSimpArgs false
open Go.RowKit Ev

theorem ev_names : Ev.okNames Tryz.prog = true := by kernel_rfl
theorem ev_prog0 : Ev.okProg Tryz.prog Fa.kn0 = true := by kernel_rfl
theorem ev_progK : Ev.okProg Tryz.prog Ev.KN = true := by kernel_rfl
theorem ev_mix : Tryz.prog.follows .mixedOrders = true := by kernel_rfl
theorem okd0 : okDsts Tryz.prog = true := by kernel_rfl
theorem nat_known : Ev.NatKnown Tryz.prog := by
  intro f k hf
  have nn : ∀ g : FuncId, g ≠ 189 → g ≠ 258 → natOf g = none := fun g h1 h2 => by
    have e1 : Nat.beq 189 g = false := by rw [← Bool.not_eq_true, Nat.beq_eq]; exact fun e => h1 e.symm
    have e2 : Nat.beq 258 g = false := by rw [← Bool.not_eq_true, Nat.beq_eq]; exact fun e => h2 e.symm
    simp only [natOf, NV, natIn, e1, e2]
  by_cases h1 : f = 189
  · subst h1
    have hk : k = 1 := by simpa [natOf, NV, natIn] using hf.symm
    subst hk
    refine ⟨fun _ b o n c xs cv w hx hc => (Tryz.bytes_IndexByte b o n c xs cv w hx hc).mono ?_, fun h => by cases h⟩
    rintro e w' ⟨he, rfl⟩
    exact ⟨he, Below.refl _ _⟩
  · by_cases h2 : f = 258
    · subst h2
      have hk : k = 2 := by simpa [natOf, NV, natIn] using hf.symm
      subst hk
      refine ⟨fun h => (by cases h), fun _ s c w hc hs => Tryz.strings_Repeat s c w (by omega) (Nat.le_trans (Nat.mul_le_mul hs hc) (by decide))⟩
    · rw [nn f h1 h2] at hf; cases hf
theorem bad_known : Ev.Known Tryz.prog Fa.kn0 := ⟨fun f hf hn hp => by
  have : f = 267 ∨ f = 189 ∨ f = 258 := by simpa [Fa.kn0] using hf
  rcases this with rfl | rfl | rfl
  · exact absurd hp (by decide +kernel)
  · exact absurd hp (by decide +kernel)
  · exact absurd hp (by decide +kernel), nat_known⟩
/-- what the laid variable holds -/
def gV : List Value := [.int .i64 200, .int .i64 600, .int .i64 1200, .int .i64 2400]
def hG : H := H.set .nil 0 (some ⟨3, false, gV⟩)
theorem laid_hG {w : World} (x : Ev.GlobAt w) : ∃ m, Laid Tryz.prog w m hG Tryz.prog.globals.size := by
  refine laid_KG x (by decide +kernel) (sz := 1) (by kernel_rfl) (by decide) (fun k v hk => ?_) (by decide)
  match k, hk with
  | 0, hk => cases hk; simp [KG]
  | 1, hk => cases hk; simp [KG]
  | 2, hk => cases hk; simp [KG]
  | 3, hk => cases hk; simp [KG]
set_option maxRecDepth 100000 in
theorem q_letter : Ev.yieldsTrue ((inside (Fa.F_balerlaw23_letter 100000 1000 (Fa.fast 100000 1000))) hG Tryz.prog.globals.size) = true := by kernel_rfl
theorem l_letter (w : World) (x : Ev.GlobAt w) : Calls Tryz.prog 24 #[] w fun e w' => e = .returned (.bool true) ∧ Below w.heap.size w w' := by
  obtain ⟨m, x⟩ := laid_hG x
  refine Ev.closedN (kn := Fa.kn0) ev_names ev_prog0 ev_mix bad_known okd0 x (gt := Fa.gtA) (lf := 100000) (d := 1001) ?_
  have := q_letter
  rw [Fa.fast_eq, Fa.fsh_balerlaw23_letter] at this
  exact this
theorem known : Ev.Known Tryz.prog Ev.KN := ⟨fun f hf hn hp w x => by
  have : f = 24 ∨ f = 267 ∨ f = 189 ∨ f = 258 := by simpa [Ev.KN] using hf
  rcases this with rfl | rfl | rfl | rfl
  · exact l_letter w x
  · exact absurd hp (by decide +kernel)
  · exact absurd hp (by decide +kernel)
  · exact absurd hp (by decide +kernel), nat_known⟩

end Go.Proofs.YthhhkplbjcknkaaGreatDoor

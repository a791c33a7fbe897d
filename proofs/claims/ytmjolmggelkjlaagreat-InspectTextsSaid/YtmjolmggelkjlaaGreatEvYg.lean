/- Rows last where blocks of their elements do. No program in sight. -/
import Derived.Test.YtmjolmggelkjlaaGreatEvYf
namespace Go.Proofs.YtmjolmggelkjlaaGreat.Ev
set_option linter.unusedVariables false
set_option linter.unusedSimpArgs false
open Go Go.RowKit
section
variable {h h' : H} {n n' : Nat} {e es ei : TypeId} {v : Value} {cs : List Value} {xss : List (List Int)}
theorem VRow.elem (r : VRow h n e v cs) {b : Nat} (hb : InBlk v b) : ∃ B, h.get b = Option.some B ∧ B.elem = e := by
  rcases r with ⟨a, c, rfl, hne, _⟩ | ⟨c, off, cap, o, ks, rfl, hg, _⟩
  · obtain ⟨o, l, k, q⟩ := hb
    cases q
    exact absurd rfl (hne b o)
  · rw [hb.inj]; exact ⟨_, hg, rfl⟩
theorem Row.keepE {k : IntKind} {xs : List Int} (r : Row h n e k v xs) (hn : n ≤ n') (hk : ∀ b B, b < n → h.get b = Option.some B → B.elem = e → h'.get b = h.get b) : Row h' n' e k v xs :=
  r.keep' hn fun b hb => by
    obtain ⟨B, h1, h2⟩ := r.elem hb
    exact hk b B (r.lt hb) h1 h2
theorem VRow.keepE (r : VRow h n e v cs) (hn : n ≤ n') (hk : ∀ b B, b < n → h.get b = Option.some B → B.elem = e → h'.get b = h.get b) : VRow h' n' e v cs :=
  r.keep hn fun b hb => by
    obtain ⟨B, h1, h2⟩ := r.elem hb
    exact hk b B (r.lt hb) h1 h2
theorem RR.keepE (r : RR h n es ei v xss) (hn : n ≤ n') (hk : ∀ b B, b < n → h.get b = Option.some B → (B.elem = es ∨ B.elem = ei) → h'.get b = h.get b) : RR h' n' es ei v xss := by
  obtain ⟨cs, r, hl, hr⟩ := r
  exact ⟨cs, r.keepE hn fun b B hb hB he => hk b B hb hB (.inl he), hl, fun i hi => (hr i hi).keepE hn fun b B hb hB he => hk b B hb hB (.inr he)⟩
/-- a store into a block of other elements -/
theorem other_elem {p : Nat} {C : AB} (hp : h.get p = some C) (hk : ∀ b, b ≠ p → h'.get b = h.get b) {b : Nat} {B : AB} (hb : h.get b = some B) (he : B.elem ≠ C.elem) : h'.get b = h.get b := hk b fun q => by
  subst q
  rw [hp] at hb; cases hb
  exact he rfl
end
end Go.Proofs.YtmjolmggelkjlaaGreat.Ev

/- Arguments opened: numbers, texts, structs of them. No program in sight. -/
import Derived.Test.YtmjolmggelkjlaaGreatEvX
namespace Go.Proofs.YtmjolmggelkjlaaGreat.Ev
set_option linter.unusedVariables false
set_option linter.unusedSimpArgs false
open Go Go.RowKit

section
variable {P : Program} {h : H} {n f : Nat} {t : TypeId} {v : Value}
theorem rep_int {k : IntKind} (hu : P.underlying t = some (.int k)) (x : RepH1 P h n (f + 1) t v) : ∃ i, v = .int k i ∧ (Lit.int k i).wf = true := by
  unfold RepH1 at x
  rw [hu] at x
  exact x
theorem rep_bool (hu : P.underlying t = some .bool) (x : RepH1 P h n (f + 1) t v) : ∃ b, v = .bool b := by
  unfold RepH1 at x
  rw [hu] at x
  exact x
theorem rep_str (hu : P.underlying t = some .string) (x : RepH1 P h n (f + 1) t v) : ∃ l : List UInt8, v = .string ⟨l.toArray⟩ ∧ l.length ≤ maxLen := by
  unfold RepH1 at x
  rw [hu] at x
  obtain ⟨s, hv, hs⟩ := x
  exact ⟨s.data.toList, by rw [hv], by rw [← str_size, ← str_of]; exact hs⟩
theorem argH_cell (hc : cellTs P 8 t = some [t]) (hg : isAggT P t = false) (x : ArgH P h n t v) : RepH1 P h n 8 t v := by
  obtain ⟨ts, hts, q⟩ := x
  rw [hc] at hts
  cases hts
  rcases q with ⟨h1, _⟩ | ⟨_, h2⟩
  · rw [hg] at h1; cases h1
  · exact h2.1
theorem argH_agg {ts : List TypeId} (hc : cellTs P 8 t = some ts) (hg : isAggT P t = true) (x : ArgH P h n t v) : ∃ cs : List Value, v = .agg cs.toArray ∧ All2 (RepH1 P h n 8) ts cs := by
  obtain ⟨ts', hts, q⟩ := x
  rw [hc] at hts
  cases hts
  rcases q with ⟨_, cs, hv, h2⟩ | ⟨h1, _⟩
  · exact ⟨cs.toList, by rw [hv], h2⟩
  · rw [hg] at h1; cases h1
theorem all2_1 {α β : Type} {R : α → β → Prop} {a : α} {l : List β} (x : All2 R [a] l) : ∃ b, l = [b] ∧ R a b := by
  match l, x with
  | [b], x => exact ⟨b, rfl, x.1⟩
theorem all2_2 {α β : Type} {R : α → β → Prop} {a a' : α} {l : List β} (x : All2 R [a, a'] l) : ∃ b b', l = [b, b'] ∧ R a b ∧ R a' b' := by
  match l, x with
  | [b, b'], x => exact ⟨b, b', rfl, x.1, x.2.1⟩
theorem all2_3 {α β : Type} {R : α → β → Prop} {a a' a'' : α} {l : List β} (x : All2 R [a, a', a''] l) : ∃ b b' b'', l = [b, b', b''] ∧ R a b ∧ R a' b' ∧ R a'' b'' := by
  match l, x with
  | [b, b', b''], x => exact ⟨b, b', b'', rfl, x.1, x.2.1, x.2.2.1⟩
theorem wf64 {i : Int} (h : (Lit.int .i64 i).wf = true) : -9223372036854775808 ≤ i ∧ i ≤ 9223372036854775807 := by
  have e1 : IntKind.i64.min = -9223372036854775808 := by decide
  have e2 : IntKind.i64.max = 9223372036854775807 := by decide
  simp only [Lit.wf, e1, e2, Bool.and_eq_true, decide_eq_true_eq] at h
  exact h
end

end Go.Proofs.YtmjolmggelkjlaaGreat.Ev

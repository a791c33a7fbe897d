/- Arguments opened: rows of numbers, rows of rows. No program in sight. -/
import Derived.Test.YtdagfcflbphoiaaDoorMae
namespace Go.Proofs.YtdagfcflbphoiaaDoor.Ev
set_option linter.unusedVariables false
set_option linter.unusedSimpArgs false
open Go Go.RowKit
section
variable {P : Program} {h : H} {n f : Nat} {t e : TypeId} {v : Value}
theorem rep_cells1 (hu : P.underlying t = some (.slice e)) (hce : cellTs P 8 e = some [e]) (x : RepH1 P h n (f + 1) t v) : ∃ cs, VRow h n e v cs ∧ cs.length ≤ maxLen ∧ ∀ c ∈ cs, RepH1 P h n f e c := by
  unfold RepH1 at x
  rw [hu] at x
  rcases x with ⟨a, rfl, hne⟩ | ⟨b, len, ts, cs, rfl, ht, h0, hg, hb, hl, hm, hall⟩
  · exact ⟨[], .inl ⟨a, 0, rfl, hne, rfl⟩, Nat.zero_le _, fun c hc => by cases hc⟩
  · rw [hce] at ht
    cases ht
    have hl : cs.length = len := by simpa using hl
    refine ⟨cs, .inr ⟨b, 0, CAP + len, false, cs, by rw [hl], hg, hb, by omega, by rw [List.drop_zero, List.take_length], by omega⟩, by omega, fun c hc => ?_⟩
    obtain ⟨i, hi, rfl⟩ := List.mem_iff_getElem.1 hc
    have q := hall i (by omega)
    have e1 : (cs.drop (i * [e].length)).take [e].length = [cs[i]] := by
      simp only [List.length_cons, List.length_nil, Nat.zero_add, Nat.mul_one]
      rw [List.drop_eq_getElem_cons hi, List.take_succ_cons, List.take_zero]
    rw [e1] at q
    exact q.1
theorem VRow.row {k : IntKind} {xs : List Int} (r : VRow h n e v (intsV k xs)) : Row h n e k v xs := by
  rcases r with ⟨a, c, rfl, hne, hx⟩ | ⟨b, off, cap, o, ks, hv, hg, hb, hl, ht, hc⟩
  · exact .inl ⟨a, c, rfl, hne, by unfold intsV at hx; simpa using hx⟩
  · rw [intsV_len] at hv hl ht hc
    exact .inr ⟨b, off, cap, o, ks, hv, hg, hb, hl, ht, hc⟩
theorem list_choose {α β : Type} {R : α → β → Prop} (da : α) (d : β) : ∀ {l : List α}, (∀ a ∈ l, ∃ b, R a b) → ∃ m : List β, m.length = l.length ∧ ∀ i, i < l.length → R (l.getD i da) (m.getD i d)
  | [], _ => ⟨[], rfl, fun i hi => absurd hi (Nat.not_lt_zero i)⟩
  | a :: l, hl => by
    obtain ⟨b, hb⟩ := hl a List.mem_cons_self
    obtain ⟨m, h1, h2⟩ := list_choose da d (l := l) fun x hx => hl x (List.mem_cons_of_mem _ hx)
    refine ⟨b :: m, by simp [h1], fun i hi => ?_⟩
    cases i with
    | zero => exact hb
    | succ i => exact h2 i (by simpa using hi)
theorem rep_row {k : IntKind} (hu : P.underlying t = some (.slice e)) (hce : cellTs P 8 e = some [e]) (he : P.underlying e = some (.int k)) (x : RepH1 P h n (f + 2) t v) : ∃ xs, Row h n e k v xs ∧ xs.length ≤ maxLen ∧ ∀ y ∈ xs, (Lit.int k y).wf = true := by
  obtain ⟨cs, r, hm, hc⟩ := rep_cells1 hu hce x
  obtain ⟨xs, hl, hx⟩ := list_choose (R := fun c (y : Int) => c = .int k y ∧ (Lit.int k y).wf = true) undef 0 fun c q => rep_int he (hc c q)
  have e1 : cs = intsV k xs := by
    apply List.ext_getElem
    · rw [intsV_len, hl]
    · intro i h1 h2
      have := (hx i h1).1
      rw [List.getD_eq_getElem?_getD, List.getElem?_eq_getElem h1] at this
      have h3 := intsV_at (k := k) (xs := xs) (i := i) (by omega)
      rw [List.getElem?_eq_getElem h2] at h3
      rw [Option.some.inj h3]
      exact this
  rw [e1] at r
  refine ⟨xs, r.row, by omega, fun y hy => ?_⟩
  obtain ⟨i, hi, rfl⟩ := List.mem_iff_getElem.1 hy
  have := (hx i (by omega)).2
  rw [List.getD_eq_getElem?_getD, List.getElem?_eq_getElem hi] at this
  exact this
end
section
variable {β : Type} {W : Nat → Prop} {n0 : Nat} {h : H} {n m : Nat} {Q : β → H → Nat → Prop} {P : Program}
end
end Go.Proofs.YtdagfcflbphoiaaDoor.Ev

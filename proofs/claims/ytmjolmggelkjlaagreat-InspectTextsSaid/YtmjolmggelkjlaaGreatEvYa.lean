/- A slice of texts as an argument. No program in sight. -/
import Derived.Test.YtmjolmggelkjlaaGreatEvZ
namespace Go.Proofs.YtmjolmggelkjlaaGreat.Ev
set_option linter.unusedVariables false
set_option linter.unusedSimpArgs false
open Go Go.RowKit

def SRow (h : H) (n : Nat) (v : Value) (ss : List (List UInt8)) : Prop := ∃ a c, v = .slice a ss.length c ∧ ∀ i (hi : i < ss.length), ∃ b B, a = some ⟨b, 0, none⟩ ∧ h.get b = some B ∧ b < n ∧ B.cells[i]? = some (.string ⟨(ss[i]).toArray⟩)
theorem rep_strs {P : Program} {h : H} {n f : Nat} {t e : TypeId} {v : Value} (hu : P.underlying t = some (.slice e)) (he : P.underlying e = some .string) (hce : cellTs P 8 e = some [e]) (x : RepH1 P h n (f + 2) t v) : ∃ ss, SRow h n v ss ∧ (∀ s ∈ ss, s.length ≤ maxLen) ∧ ss.length ≤ maxLen := by
  unfold RepH1 at x
  rw [hu] at x
  rcases x with ⟨a, rfl, _⟩ | ⟨b, len, ts, cs, rfl, ht, h0, hg, hb, hl, hm, hall⟩
  · exact ⟨[], ⟨a, 0, rfl, fun i hi => absurd hi (by simp)⟩, by simp, Nat.zero_le _⟩
  · rw [hce] at ht
    cases ht
    have hl : cs.length = len := by simpa using hl
    have hat : ∀ i, i < len → ∃ l : List UInt8, cs[i]? = some (.string ⟨l.toArray⟩) ∧ l.length ≤ maxLen := by
      intro i hi
      have q := hall i hi
      have e1 : (cs.drop (i * [e].length)).take [e].length = [cs[i]] := by
        simp only [List.length_cons, List.length_nil, Nat.zero_add, Nat.mul_one]
        rw [List.drop_eq_getElem_cons (by omega), List.take_succ_cons, List.take_zero]
      rw [e1] at q
      obtain ⟨l, h1, h2⟩ := rep_str he q.1
      exact ⟨l, by rw [List.getElem?_eq_getElem (by omega), h1], h2⟩
    let g : Value → List UInt8 := fun v => match v with
      | .string s => s.data.toList
      | _ => []
    have hget : ∀ i (hi : i < (cs.map g).length), cs[i]? = some (.string ⟨((cs.map g)[i]).toArray⟩) ∧ ((cs.map g)[i]).length ≤ maxLen := by
      intro i hi
      rw [List.length_map] at hi
      obtain ⟨l, h1, h2⟩ := hat i (by omega)
      have h3 : cs[i] = .string ⟨l.toArray⟩ := by
        rw [List.getElem?_eq_getElem hi] at h1
        exact Option.some.inj h1
      have h4 : (cs.map g)[i] = l := by
        rw [List.getElem_map, h3]
      rw [h4]
      exact ⟨h1, h2⟩
    refine ⟨cs.map g, ⟨some ⟨b, 0, none⟩, CAP + len, by rw [List.length_map, hl], fun i hi => ⟨b, _, rfl, hg, hb, (hget i hi).1⟩⟩, fun s hs => ?_, by rw [List.length_map, hl]; exact hm⟩
    obtain ⟨i, hi, rfl⟩ := List.mem_iff_getElem.1 hs
    exact (hget i hi).2
theorem SRow.keep {h h' : H} {n n' : Nat} {v : Value} {ss : List (List UInt8)} (r : SRow h n v ss) (hn : n ≤ n') (hk : ∀ b, b < n → h'.get b = h.get b) : SRow h' n' v ss := by
  obtain ⟨a, c, rfl, q⟩ := r
  refine ⟨a, c, rfl, fun i hi => ?_⟩
  obtain ⟨b, B, ha, hg, hb, hc⟩ := q i hi
  exact ⟨b, B, ha, (hk b hb).trans hg, by omega, hc⟩

end Go.Proofs.YtmjolmggelkjlaaGreat.Ev

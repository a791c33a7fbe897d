/- The stack of a sorter; the walk of join. -/
import Derived.Test.YtbakfaihnecmoaaSD
namespace Go.Proofs.Ytbakfaihnecmoaa
set_option linter.unusedVariables false
set_option linter.unusedSimpArgs false
open Go.RowKit Sp

theorem stkCells_len (l : List (Nat × Nat × Nat)) : (stkCells l).length = l.length * 3 := by
  induction l with
  | nil => rfl
  | cons p r ih => simp only [stkCells, List.flatMap_cons, List.length_append, List.length_cons, List.length_nil] at *; omega
theorem stkCells_app (l r : List (Nat × Nat × Nat)) : stkCells (l ++ r) = stkCells l ++ stkCells r := by simp [stkCells]

section
variable {w : World} {g go gc ga : Nat} {sv : Value} {s : ByteArray} {x : SS}
theorem stk_top {p : Nat × Nat × Nat} {r : List (Nat × Nat × Nat)} (h : SAt w g go gc ga sv s x) (hs : x.stk = p :: r) : ∃ gk cap, sv = .slice (some ⟨gk, 0, none⟩) (r.length + 1) cap ∧ r.length + 1 ≤ cap ∧ cap ≤ 9223372036854775807 ∧ gk < w.heap.size ∧ gk ≠ g ∧
    w.cell? ⟨gk, r.length * 3, none⟩ = some (.int .i64 (p.1 : Nat)) ∧ w.cell? ⟨gk, r.length * 3 + 1, none⟩ = some (.int .i64 (p.2.1 : Nat)) ∧ w.cell? ⟨gk, r.length * 3 + 2, none⟩ = some (.int .i64 (p.2.2 : Nat)) ∧
    w.ownsRow 0 63 3 (.slice (some ⟨gk, 0, none⟩) r.length cap) r.length (stkCells r.reverse) := by
  have hst := h.stk
  rw [hs] at hst
  have hg := h.svg
  rcases hst.2 with ⟨_, h1⟩ | ⟨gk, cap, cur, rfl, hb, hgk, hc, hm, hcs, htake⟩
  · simp at h1
  · have hlen : (stkCells r.reverse).length = r.length * 3 := by rw [stkCells_len, List.length_reverse]
    have hcur : ∀ j, j < 3 → cur[r.length * 3 + j]? = (stkCells [p])[j]? := by
      intro j hj
      rw [← Array.getElem?_toList]
      have e1 : (cur.toList.take ((p :: r).length * 3))[r.length * 3 + j]? = cur.toList[r.length * 3 + j]? := by
        rw [List.getElem?_take]; rw [if_pos (by simp only [List.length_cons]; omega)]
      rw [← e1, htake, List.reverse_cons, stkCells_app, List.getElem?_append_right (by omega), hlen]
      congr 1
      omega
    have hcell : ∀ j, w.cell? ⟨gk, j, none⟩ = cur[j]? := fun j => cell_of_row w gk j cur _ (0, 0) hgk
    refine ⟨gk, cap, by simp, by simpa using hc, by unfold maxLen at hm; omega, (Array.getElem?_eq_some_iff.1 hgk).1, ?_, ?_, ?_, ?_, ?_⟩
    · intro e; subst e; exact hg rfl
    · have := hcur 0 (by omega); rw [hcell]; simpa [stkCells] using this
    · have := hcur 1 (by omega); rw [hcell, this]; rfl
    · have := hcur 2 (by omega); rw [hcell, this]; rfl
    · refine owns_pop (m := r.length) hst (by simp) ?_ (by simp)
      rw [List.reverse_cons, stkCells_app, List.take_append_of_le_length (by omega), List.take_of_length_le (by omega)]
theorem stk_nil (h : SAt w g go gc ga sv s x) (hs : x.stk = []) : ∃ a cap, sv = .slice a 0 cap := by
  have hst := h.stk
  rw [hs] at hst
  rcases hst.2 with ⟨rfl, _⟩ | ⟨gk, cap, cur, rfl, _⟩
  · exact ⟨_, _, rfl⟩
  · exact ⟨_, _, rfl⟩
end

variable {w : World} {F : Nat → Prop} {g : Nat} {s : ByteArray} {x : SS}
theorem spost_refl (h : SIn w F g s x) : SPost F g s w x w := by
  obtain ⟨go, gc, ga, sv, h, f1, f2, f3, f4, f5⟩ := h
  exact spost h f1 f2 f3 f4 f5 (Keeps.refl F w)

theorem s_join_no (h : SIn w F g s x) {n m : Nat} (ho : Ok n m x) (hn2 : n ≤ 900000) (h1 : x.stk = [] ∨ 0 < x.hi ∨ ∃ p r, x.stk = p :: r ∧ x.hi = 0 ∧ p.2.1 = 0) (hsl : x.stk.length ≤ 1099511627776) :
    Calls Try.prog 54 #[.pointer (some ⟨g, 0, none⟩)] w fun e w' => e = .returned (.tuple #[]) ∧ SPost F g s w (joinS x) w' := by
  have hsp := spost_refl h
  have hj : joinS x = x := by
    unfold joinS
    rcases h1 with h1 | h1 | ⟨p, r, h1, h2, h3⟩
    · rw [h1]
    · split
      · rfl
      · rw [if_neg (by omega)]
    · rw [h1]; simp only; rw [if_neg (by omega)]
  rw [hj]
  clear hj
  have hsp := Lib.hid hsp
  obtain ⟨go, gc, ga, sv, h, f1, f2, f3, f4, f5⟩ := h
  have c5 : w.cell? ⟨g, 5, none⟩ = some sv := h.main.at_ 5 rfl
  have c8 : w.cell? ⟨g, 8, none⟩ = some (.int .i64 (x.hi : Nat)) := h.main.at_ 8 rfl
  cases hs : x.stk with
  | nil =>
    obtain ⟨a, cap, rfl⟩ := stk_nil h hs
    go_enter Try.func54, Try.ntmps54
    go_wp2
    (refine bodyPost_ret (results_none rfl _ _ _) rfl ?_)
    exact ⟨rfl, hsp.out⟩
  | cons p r =>
    obtain ⟨gk, cap, rfl, k1, k2, k3, k4, k5, k6, k7, k8⟩ := stk_top h hs
    rw [hs] at hsl
    simp only [List.length_cons] at hsl
    rw [hs] at h1
    have hd1 : decide ((r.length : Int) + 1 - 1 < 0) = false := by simp
    by_cases h0 : 0 < x.hi
    · have hd : decide (0 < (x.hi : Int)) = true := by simp; omega
      go_enter Try.func54, Try.ntmps54
      go_wp2
      (refine bodyPost_ret (results_none rfl _ _ _) rfl ?_)
      exact ⟨rfl, hsp.out⟩
    · have hd : decide (0 < (x.hi : Int)) = false := by simp; omega
      have hp : p.2.1 = 0 := by
        rcases h1 with h1 | h1 | ⟨p', r', h1, h2, h3⟩
        · cases h1
        · exact absurd h1 h0
        · cases h1; exact h3
      rw [hp] at k6
      have q1 : (0 : Int) ≤ (r.length : Int) := by omega
      go_enter Try.func54, Try.ntmps54
      go_wp2
      (refine bodyPost_ret (results_none rfl _ _ _) rfl ?_)
      exact ⟨rfl, hsp.out⟩

theorem s_join_yes (h : SIn w F g s x) {n m : Nat} (ho : Ok n m x) (hn2 : n ≤ 900000) (hsl : x.stk.length ≤ 1099511627776) {p : Nat × Nat × Nat} {r : List (Nat × Nat × Nat)} (hs : x.stk = p :: r) (h0 : x.hi = 0) (hp : p.2.1 ≠ 0) :
    Calls Try.prog 54 #[.pointer (some ⟨g, 0, none⟩)] w fun e w' => e = .returned (.tuple #[]) ∧ SPost F g s w (joinS x) w' := by
  have hj : Hid (joinS x = { x with lo := p.1, mid := p.2.1, hi := p.2.2, stk := r, laid := 0, one := 0, two := p.2.1 }) := by
    unfold Hid joinS; rw [hs]; simp only; rw [if_pos ⟨h0, hp⟩]
  obtain ⟨go, gc, ga, sv, h, f1, f2, f3, f4, f5⟩ := h
  have c5 : w.cell? ⟨g, 5, none⟩ = some sv := h.main.at_ 5 rfl
  have c8 : w.cell? ⟨g, 8, none⟩ = some (.int .i64 (x.hi : Nat)) := h.main.at_ 8 rfl
  rw [h0] at c8
  have c6 : w.cell? ⟨g, 6, none⟩ = some (.int .i64 (x.lo : Nat)) := h.main.at_ 6 rfl
  have c7 : w.cell? ⟨g, 7, none⟩ = some (.int .i64 (x.mid : Nat)) := h.main.at_ 7 rfl
  have c9 : w.cell? ⟨g, 9, none⟩ = some (.int .i64 (x.laid : Nat)) := h.main.at_ 9 rfl
  have c10 : w.cell? ⟨g, 10, none⟩ = some (.int .i64 (x.one : Nat)) := h.main.at_ 10 rfl
  have c11 : w.cell? ⟨g, 11, none⟩ = some (.int .i64 (x.two : Nat)) := h.main.at_ 11 rfl
  have e5 := h.main.free 5
  have e6 := h.main.free 6
  have e7 := h.main.free 7
  have e8 := h.main.free 8
  have e9 := h.main.free 9
  have e10 := h.main.free 10
  have e11 := h.main.free 11
  obtain ⟨gk, cap, rfl, k1, k2, k3, k4, k5, k6, k7, k8⟩ := stk_top h hs
  rw [hs] at hsl
  simp only [List.length_cons] at hsl
  have hd1 : decide ((r.length : Int) + 1 - 1 < 0) = false := by simp
  have q1 : (0 : Int) ≤ (r.length : Int) := by omega
  have hd2 : ((p.2.1 : Int) == 0) = false := by simp; omega
  obtain ⟨p1, p2, p3⟩ := p
  dsimp only at *
  have hf : Hid (∀ b, (Value.slice (some ⟨gk, 0, none⟩) r.length cap).ownBlock = some b → F b) := fun b hb => f5 b hb
  go_enter Try.func54, Try.ntmps54
  go_wp2
  go_end0
  rw [hj.out]
  refine ⟨rfl, ?_⟩
  have hne : (Value.slice (some ⟨gk, 0, none⟩) r.length cap).ownBlock ≠ some g := by intro e; apply k4; simpa [Value.ownBlock] using e
  have a1 := ((h.put 6 (.int .i64 (p1 : Nat)) { x with lo := p1 } rfl rfl rfl rfl rfl).put 7 (.int .i64 (p2 : Nat)) { x with lo := p1, mid := p2 } rfl rfl rfl rfl rfl).put 8 (.int .i64 (p3 : Nat)) { x with lo := p1, mid := p2, hi := p3 } rfl rfl rfl rfl rfl
  have a2 := a1.putStk (.slice (some ⟨gk, 0, none⟩) r.length cap) r (owns_far (owns_far (owns_far k8 (p := ⟨g, 6, none⟩) hne _) (p := ⟨g, 7, none⟩) hne _) (p := ⟨g, 8, none⟩) hne _)
  have a3 := ((a2.put 9 (.int .i64 0) { x with lo := p1, mid := p2, hi := p3, stk := r, laid := 0 } rfl rfl rfl rfl rfl).put 10 (.int .i64 0) { x with lo := p1, mid := p2, hi := p3, stk := r, laid := 0, one := 0 } rfl rfl rfl rfl rfl).put 11 (.int .i64 (p2 : Nat)) { x with lo := p1, mid := p2, hi := p3, stk := r, laid := 0, one := 0, two := p2 } rfl rfl rfl rfl rfl
  exact spost a3 f1 f2 f3 f4 hf.out (((((((Keeps.refl F w).set (.inr f1) _).set (.inr f1) _).set (.inr f1) _).set (.inr f1) _).set (.inr f1) _).set (.inr f1) _ |>.set (.inr f1) _)

theorem s_join (h : SIn w F g s x) {n m : Nat} (ho : Ok n m x) (hn2 : n ≤ 900000) (hsl : x.stk.length ≤ 1099511627776) :
    Calls Try.prog 54 #[.pointer (some ⟨g, 0, none⟩)] w fun e w' => e = .returned (.tuple #[]) ∧ SPost F g s w (joinS x) w' := by
  cases hs : x.stk with
  | nil => exact s_join_no h ho hn2 (.inl hs) hsl
  | cons p r =>
    by_cases h0 : x.hi = 0
    · by_cases hp : p.2.1 = 0
      · exact s_join_no h ho hn2 (.inr (.inr ⟨p, r, hs, h0, hp⟩)) hsl
      · exact s_join_yes h ho hn2 hsl hs h0 hp
    · exact s_join_no h ho hn2 (.inr (.inl (by omega))) hsl

end Go.Proofs.Ytbakfaihnecmoaa

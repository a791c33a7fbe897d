/- A sorter, in plain Lean: all passes. No program in sight. -/
import Derived.Test.YtbakfaihnecmoaaSR
namespace Go.Proofs.Ytbakfaihnecmoaa
set_option linter.unusedVariables false
set_option linter.unusedSimpArgs false
open Go.RowKit
namespace Sp
open Pl

/-- are the first bytes of no two rotations the same? -/
def eqLB (s : ByteArray) (L a b : Nat) : Bool := (List.range L).all fun i => rnd s (a + i) == rnd s (b + i)
def unlikeB (s : ByteArray) (L : Nat) : Bool := (List.range s.size).all fun i => (List.range i).all fun k => !(eqLB s L i k)
theorem eqLB_iff (s : ByteArray) (L a b : Nat) : eqLB s L a b = true ↔ eqL s L a b := by
  unfold eqLB eqL
  rw [List.all_eq_true]
  simp
theorem unlikeB_iff (s : ByteArray) (L : Nat) : unlikeB s L = true ↔ distinctL s L := by
  unfold unlikeB distinctL
  rw [List.all_eq_true]
  constructor
  · intro h a b hab hb he
    have h1 := h b (by simpa using hb)
    rw [List.all_eq_true] at h1
    have h2 := h1 a (by simpa using hab)
    have h3 := (eqLB_iff s L b a).2 (eqL_symm he)
    rw [h3] at h2
    cases h2
  · intro h b hb
    rw [List.all_eq_true]
    intro a ha
    cases he : eqLB s L b a with
    | false => rfl
    | true => exact absurd (eqL_symm ((eqLB_iff s L b a).1 he)) (h a b (by simpa using ha) (by simpa using hb))
theorem distinct_min {s : ByteArray} (hn : 0 < s.size) (L : Nat) : distinctL s (min L s.size) ↔ distinctL s L := by
  by_cases h : L ≤ s.size
  · rw [Nat.min_eq_left h]
  · rw [Nat.min_eq_right (by omega)]
    unfold distinctL
    simp only [eqL_ge hn (show s.size ≤ L by omega)]

/-- the reference's own count of steps -/
def goR (s : ByteArray) (each : Nat) : Nat → Nat → Nat
  | 0, _ => 0
  | f + 1, r => if s.size ≤ r || unlikeB s (min (2 * r) s.size) then each else each + goR s each f (2 * r)
def stepsR (s : ByteArray) : Nat := if s.size < 2 then 0 else if unlikeB s 1 then costT s.size + s.size else costT s.size + s.size + goR s (costT s.size + s.size) 30 1

structure Fin (s : ByteArray) (x : SS) (T : Nat) : Prop where
  before : ∀ j, j < T → (iterS s j x).done = false
  after : (iterS s T x).done = true
  perm : (iterS s T x).ord.Perm (List.range s.size)
  sorted : (iterS s T x).ord.Pairwise (RL s s.size)

theorem RL_ge {s : ByteArray} (hn : 0 < s.size) {L a b : Nat} (ha : a < s.size) (hb : b < s.size) (h : RL s L a b) (hL : distinctL s L ∨ s.size ≤ L) : RL s s.size a b := by
  rcases h with h | h
  · exact .inl (ltL_ge hn h)
  · rcases hL with hL | hL
    · exact absurd h.1 (hL a b h.2 hb)
    · exact .inr ⟨(eqL_ge hn hL).1 h.1, h.2⟩

theorem Fin.of_pass {s : ByteArray} {x : SS} (h : PassAt s x) (hd : distinctL s (nextL x) ∨ s.size ≤ x.reach) : Fin s x (costT s.size + s.size) := by
  obtain ⟨p1, p2, _⟩ := pass_run h
  obtain ⟨q1, q2, q3⟩ := p2 hd
  have n2 := h.n2
  refine ⟨p1, q1, q2, pw_imp q2 q3 fun a b ha hb h1 => RL_ge (by omega) ha hb h1 (hd.imp id fun h => ?_)⟩
  unfold nextL; omega
theorem Fin.then {s : ByteArray} {x : SS} {c T : Nat} (h : Fin s (iterS s c x) T) (hb : ∀ j, j < c → (iterS s j x).done = false) : Fin s x (c + T) := by
  refine ⟨fun j hj => ?_, by rw [iter_add]; exact h.after, by rw [iter_add]; exact h.perm, by rw [iter_add]; exact h.sorted⟩
  by_cases h1 : j < c
  · exact hb j h1
  · rw [show j = c + (j - c) by omega, iter_add]
    exact h.before _ (by omega)

theorem passes {s : ByteArray} : ∀ (f : Nat) (x : SS), PassAt s x → 1 ≤ x.reach → s.size ≤ x.reach * 2 ^ f → Fin s x (goR s (costT s.size + s.size) (f + 1) x.reach)
  | f, x, h, hr, hf => by
    have n2 := h.n2
    have hL : nextL x = 2 * x.reach := by unfold nextL; omega
    have hB : (decide (s.size ≤ x.reach) || unlikeB s (min (2 * x.reach) s.size)) = true ↔ (distinctL s (nextL x) ∨ s.size ≤ x.reach) := by
      rw [Bool.or_eq_true, decide_eq_true_iff, unlikeB_iff, distinct_min (by omega), hL]
      exact Or.comm
    by_cases hd : distinctL s (nextL x) ∨ s.size ≤ x.reach
    · rw [goR, if_pos (hB.2 hd)]
      exact Fin.of_pass h hd
    · rw [goR, if_neg (fun e => hd (hB.1 e))]
      obtain ⟨p1, _, p3⟩ := pass_run h
      obtain ⟨q1, q2⟩ := p3 hd
      match f with
      | 0 => simp at hf; exact absurd (.inr hf) hd
      | f + 1 =>
        have := passes f _ q1 (by rw [q2, hL]; omega) (by rw [q2, hL]; rw [Nat.pow_succ] at hf; rw [Nat.mul_comm 2 x.reach, Nat.mul_assoc, Nat.mul_comm 2]; exact hf)
        rw [q2, hL] at this
        exact this.then p1

theorem range_old (n : Nat) (R : Nat → Nat → Prop) : (List.range n).Pairwise (fun a b => R a b → a < b) := by
  rw [List.pairwise_iff_getElem]
  intro i j hi hj hij _
  simpa using hij
theorem start_pass (s : ByteArray) (h : 2 ≤ s.size) : PassAt s (startS s.size) :=
  ⟨h, rfl, rfl, rfl, by show decide (s.size < 2) = false; simp; omega, List.Perm.refl _, by simp [startS], by simp [startS], fun h => absurd rfl h, range_old _ _⟩

theorem whole (s : ByteArray) (h : 2 ≤ s.size) (h2 : s.size ≤ 536870912) : Fin s (startS s.size) (stepsR s) := by
  have hs := start_pass s h
  have hL : nextL (startS s.size) = 1 := rfl
  unfold stepsR
  rw [if_neg (by omega)]
  by_cases hd : unlikeB s 1 = true
  · rw [if_pos hd]
    exact Fin.of_pass hs (.inl (by rw [hL]; exact (unlikeB_iff s 1).1 hd))
  · rw [if_neg hd]
    have hd2 : ¬ (distinctL s (nextL (startS s.size)) ∨ s.size ≤ (startS s.size).reach) := by
      rintro (h1 | h1)
      · rw [hL, ← unlikeB_iff] at h1; exact hd h1
      · have h1 : s.size ≤ 0 := h1; omega
    obtain ⟨p1, _, p3⟩ := pass_run hs
    obtain ⟨q1, q2⟩ := p3 hd2
    rw [hL] at q2
    have := passes 29 _ q1 (by rw [q2]; exact Nat.le_refl _) (by rw [q2]; omega)
    rw [q2] at this
    exact this.then p1

/-! the sorted places -/
theorem cmpL_lt_of : ∀ (j : Nat) (u v : List UInt8), j < u.length → j < v.length → (∀ i, i < j → u.getD i 0 = v.getD i 0) → u.getD j 0 < v.getD j 0 → cmpL u v < 0
  | _, [], _, h, _, _, _ => by simp at h
  | _, _ :: _, [], _, h, _, _ => by simp at h
  | 0, x :: xs, y :: ys, _, _, _, h => by
    simp only [List.getD_cons_zero] at h
    simp [cmpL, h]
  | j + 1, x :: xs, y :: ys, h1, h2, h3, h => by
    have h0 := h3 0 (by omega)
    simp only [List.getD_cons_zero] at h0
    subst h0
    have ih := cmpL_lt_of j xs ys (by simpa using h1) (by simpa using h2) (fun i hi => by simpa using h3 (i + 1) (by omega)) (by simpa using h)
    simp only [cmpL, if_neg (UInt8.lt_irrefl x)]
    exact ih
theorem ahd_of (s : ByteArray) (a b : Nat) (ha : a < s.size) (hb : b < s.size) (h : RL s s.size a b) : Ahd s a b := by
  have hl := size_list' s
  have hg : ∀ c j, c < s.size → j < s.size → (rotL s.data.toList c).getD j 0 = rnd s (c + j) := fun c j hc hj => by
    rw [getD_rotL _ _ _ (by omega) (by omega), hl]; rfl
  unfold Ahd
  rw [aheadS_iff]
  refine ⟨isB_of (by omega) (by omega), isB_of (by omega) (by omega), ?_⟩
  rcases h with ⟨j, h1, h2, h3⟩ | ⟨h1, h2⟩
  · left
    unfold cmpS
    simp only [Int.toNat_natCast]
    refine cmpL_lt_of j _ _ (by rw [length_rotL]; omega) (by rw [length_rotL]; omega) (fun i hi => ?_) ?_
    · rw [hg a i ha (by omega), hg b i hb (by omega)]; exact h2 i hi
    · rw [hg a j ha h1, hg b j hb h1]; exact h3
  · right
    refine ⟨?_, by omega⟩
    unfold cmpS
    simp only [Int.toNat_natCast]
    rw [cmpL_zero _ _ (by simp [length_rotL]), rotL_ext s a b ha hb]
    exact h1

theorem sorted_fin {s : ByteArray} {l : List Nat} (hp : l.Perm (List.range s.size)) (hs : l.Pairwise (RL s s.size)) : l.map (fun (v : Nat) => (v : Int)) = sortTo s s.size := by
  have hb : ∀ a ∈ l, a < s.size := fun a ha => by simpa using hp.mem_iff.1 ha
  have h1 : (l.map (fun (v : Nat) => (v : Int))).Pairwise (Ahd s) := by
    rw [List.pairwise_map]
    exact pw_imp hp hs fun a b ha hb h => ahd_of s a b ha hb h
  have h2 : ∀ x ∈ l.map (fun (v : Nat) => (v : Int)), isB s x = true := by
    intro x hx
    rw [List.mem_map] at hx
    obtain ⟨a, ha, rfl⟩ := hx
    have := hb a ha
    exact isB_of (by omega) (by omega)
  have h3 := sorted_unique s (l.map (fun (v : Nat) => (v : Int)))
  rw [sortedS_yes s _ (ok_of_pairwise s _ h1 h2)] at h3
  have h4 : ((l.map (fun (v : Nat) => (v : Int))).length == s.size) = true := by
    rw [List.length_map, hp.length_eq, List.length_range]; simp
  rw [h4] at h3
  exact beq_iff_eq.1 h3.symm

theorem small_sorted (s : ByteArray) (h : s.size < 2) : (List.range s.size).map (fun (v : Nat) => (v : Int)) = sortTo s s.size := by
  refine sorted_fin (List.Perm.refl _) ?_
  obtain h | h : s.size = 0 ∨ s.size = 1 := by omega
  · rw [h]; exact List.Pairwise.nil
  · rw [h]; exact List.pairwise_singleton _ _

/-- after so many steps it is done, and not sooner; then the order is the sorted one -/
theorem all_done (s : ByteArray) (h2 : s.size ≤ 536870912) : (∀ j, j < stepsR s → (iterS s j (startS s.size)).done = false) ∧ (iterS s (stepsR s) (startS s.size)).done = true ∧ (iterS s (stepsR s) (startS s.size)).ord.map (fun (v : Nat) => (v : Int)) = sortTo s s.size := by
  by_cases h : s.size < 2
  · have : stepsR s = 0 := by unfold stepsR; rw [if_pos h]
    rw [this]
    exact ⟨fun j hj => absurd hj (Nat.not_lt_zero _), by show decide (s.size < 2) = true; simpa using h, small_sorted s h⟩
  · have := whole s (by omega) h2
    exact ⟨this.before, this.after, sorted_fin this.perm this.sorted⟩
theorem steps_iter (s : ByteArray) : ∀ j (x : SS), (iterS s j x).steps = x.steps + j
  | 0, _ => rfl
  | j + 1, x => by show (iterS s j (stepS s x)).steps = _; rw [steps_iter s j]; simp only [stepS]; omega

end Sp
end Go.Proofs.Ytbakfaihnecmoaa

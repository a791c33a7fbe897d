/- A sorter, in plain Lean: the states that it comes through, and how many steps there are at most. No program in sight. -/
import Derived.Test.YtbakfaihnecmoaaST
namespace Go.Proofs.Ytbakfaihnecmoaa
set_option linter.unusedVariables false
set_option linter.unusedSimpArgs false
open Go.RowKit
namespace Sp
open Pl

/-- the state after so many steps -/
def AtS (s : ByteArray) (j : Nat) : SS := iterS s j (startS s.size)
theorem AtS_succ (s : ByteArray) (j : Nat) : AtS s (j + 1) = stepS s (AtS s j) := by unfold AtS; rw [iter_add]; rfl
theorem AtS_steps (s : ByteArray) (j : Nat) : (AtS s j).steps = j := by unfold AtS; rw [steps_iter]; exact Nat.zero_add j

theorem Ok.start (n b : Nat) (h : n ≤ 2 ^ b) : Ok n (b + 1) (startS n) := by
  refine ⟨by simp [startS], by simp [startS], by simp [startS], fun i hi => by simp [startS, hi], .inl ⟨rfl, by omega, h⟩, by simp [startS], fun p hp => ?_, .inl rfl, fun h => ?_, fun h => absurd h (Nat.lt_irrefl 0), by simp [startS], .inl rfl⟩
  · simp only [startS, List.mem_singleton] at hp
    subst hp
    exact ⟨Nat.zero_le _, Nat.le_refl _, .inl rfl⟩
  · have : ¬ n < 2 := by simpa [startS] using h
    show 0 < n
    omega
theorem total_start (n b : Nat) (h1 : 1 ≤ n) (h : n ≤ 2 ^ b) : total n (b + 1) (startS n) ≤ n * ((4 + 3 * b) * (b + 2)) := by
  have hc := costT_most b n h1 h
  have e : total n (b + 1) (startS n) = (b + 2) * (costT n + n) := by
    unfold total restP restM startS costP
    simp only [List.map_cons, List.map_nil, List.sum_cons, List.sum_nil, if_true, Nat.sub_zero, Nat.add_zero]
    rw [show b + 2 = (b + 1) + 1 from rfl, Nat.add_mul (b + 1) 1, Nat.one_mul, Nat.add_comm]
  rw [e]
  have h2 : costT n + n ≤ (4 + 3 * b) * n := by
    have : (4 + 3 * b) * n = (3 + 3 * b) * n + n := by rw [show 4 + 3 * b = (3 + 3 * b) + 1 by omega, Nat.add_mul, Nat.one_mul]
    omega
  calc (b + 2) * (costT n + n) ≤ (b + 2) * ((4 + 3 * b) * n) := Nat.mul_le_mul_left _ h2
    _ = n * ((4 + 3 * b) * (b + 2)) := by rw [← Nat.mul_assoc, Nat.mul_comm (b + 2), Nat.mul_comm]

theorem reach_at (s : ByteArray) (m0 : Nat) (h : Ok s.size m0 (startS s.size)) : ∀ j, (∀ i, i < j → (AtS s i).done = false) → ∃ m, Ok s.size m (AtS s j) ∧ ((AtS s j).done = false → total s.size m (AtS s j) + j = total s.size m0 (startS s.size))
  | 0, _ => ⟨m0, h, fun _ => rfl⟩
  | j + 1, hb => by
    obtain ⟨m, h1, h2⟩ := reach_at s m0 h j (fun i hi => hb i (by omega))
    have hd := hb j (by omega)
    obtain ⟨m', q1, q2⟩ := h1.step s hd
    refine ⟨m', by rw [AtS_succ]; exact q1, fun hd2 => ?_⟩
    rw [AtS_succ] at hd2 ⊢
    have := q2 hd2
    have := h2 hd
    omega
theorem stk_le {n m : Nat} {x : SS} (h : Ok n m x) : x.stk.length ≤ total n m x := by
  have hc : ∀ l : List (Nat × Nat × Nat), (∀ p ∈ l, PartOk n p) → l.length ≤ (l.map costP).sum := by
    intro l
    induction l with
    | nil => intro _; simp
    | cons p r ih =>
      intro hp
      have h1 := ih (fun q hq => hp q (by simp [hq]))
      have h2 : 1 ≤ costP p := by
        unfold costP
        split
        · exact costT_pos _
        · rename_i h0
          have := (hp p (by simp)).2.2.resolve_left h0
          omega
      simp only [List.length_cons, List.map_cons, List.sum_cons]
      omega
  have := hc x.stk h.stk
  unfold total restP
  omega

theorem bits20 (n : Nat) (h : n ≤ 900000) : n ≤ 2 ^ 20 := by have : (2 : Nat) ^ 20 = 1048576 := rfl; omega

structure Reach (s : ByteArray) (j : Nat) : Prop where
  ok : ∃ m, Ok s.size m (AtS s j)
  stk : (AtS s j).stk.length ≤ 1099511627776
  jle : j ≤ 1099511627776

theorem steps_most (s : ByteArray) (b : Nat) (h2 : s.size ≤ 536870912) (hb : s.size ≤ 2 ^ b) : stepsR s ≤ s.size * ((4 + 3 * b) * (b + 2)) := by
  by_cases h : s.size < 2
  · have : stepsR s = 0 := by unfold stepsR; rw [if_pos h]
    omega
  · obtain ⟨a1, a2, _⟩ := all_done s h2
    have h0 := Ok.start s.size b hb
    cases hT : stepsR s with
    | zero => omega
    | succ T =>
      rw [hT] at a1 a2
      obtain ⟨m, q1, q2⟩ := reach_at s _ h0 T (fun i hi => a1 i (by omega))
      have hd := a1 T (by omega)
      have e := q2 hd
      have hr := q1.rnk hd
      have : 1 ≤ total s.size m (AtS s T) := by unfold total restP; omega
      have := total_start s.size b (by omega) hb
      omega

theorem reach_all (s : ByteArray) (h : s.size ≤ 900000) (j : Nat) (hj : j < stepsR s) : Reach s j := by
  have hb := bits20 s.size h
  have h0 := Ok.start s.size 20 hb
  obtain ⟨a1, a2, _⟩ := all_done s (by omega)
  have hs : ¬ s.size < 2 := by
    intro h3
    have : stepsR s = 0 := by unfold stepsR; rw [if_pos h3]
    omega
  obtain ⟨m, q1, q2⟩ := reach_at s _ h0 j (fun i hi => a1 i (by omega))
  have e := q2 (a1 j hj)
  have ht := total_start s.size 20 (by omega) hb
  have h4 : s.size * ((4 + 3 * 20) * (20 + 2)) ≤ 900000 * ((4 + 3 * 20) * (20 + 2)) := Nat.mul_le_mul_right _ h
  have h5 := stk_le q1
  refine ⟨⟨m, q1⟩, ?_, ?_⟩ <;> omega
theorem not_done (s : ByteArray) (h : s.size ≤ 900000) (j : Nat) (hj : j < stepsR s) : (AtS s j).done = false := (all_done s (by omega)).1 j hj
theorem is_done (s : ByteArray) (h : s.size ≤ 900000) : (AtS s (stepsR s)).done = true := (all_done s (by omega)).2.1
theorem is_sorted (s : ByteArray) (h : s.size ≤ 900000) : (AtS s (stepsR s)).ord.map (fun (v : Nat) => (v : Int)) = sortTo s s.size := (all_done s (by omega)).2.2
theorem steps_le (s : ByteArray) (h : s.size ≤ 900000) : stepsR s ≤ 1267200000 := by
  have h1 := steps_most s 20 (by omega) (bits20 s.size h)
  have h4 : s.size * ((4 + 3 * 20) * (20 + 2)) ≤ 900000 * ((4 + 3 * 20) * (20 + 2)) := Nat.mul_le_mul_right _ h
  omega
theorem ord_len (s : ByteArray) (h : s.size ≤ 900000) : (AtS s (stepsR s)).ord.length = s.size := by
  have := congrArg List.length (is_sorted s h)
  rwa [List.length_map, sortTo_length] at this
end Sp
end Go.Proofs.Ytbakfaihnecmoaa

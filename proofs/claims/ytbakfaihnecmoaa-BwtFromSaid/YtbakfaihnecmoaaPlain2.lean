/- Plain facts: the order of rotations, the first one, the period. No program in sight. -/
import Derived.Test.YtbakfaihnecmoaaPlain
namespace Go.Proofs.Ytbakfaihnecmoaa.Pl
set_option linter.unusedVariables false
set_option linter.unusedSimpArgs false

theorem cmpL_self : ∀ a : List UInt8, cmpL a a = 0
  | [] => rfl
  | x :: xs => by simp [cmpL, UInt8.lt_irrefl, cmpL_self xs]
theorem cmpL_neg : ∀ a b : List UInt8, cmpL b a = - cmpL a b
  | [], [] => rfl
  | [], _ :: _ => rfl
  | _ :: _, [] => rfl
  | x :: xs, y :: ys => by
    have ih := cmpL_neg xs ys
    simp only [cmpL, UInt8.lt_iff_toNat_lt]
    by_cases h1 : x.toNat < y.toNat
    · have : ¬ y.toNat < x.toNat := by omega
      simp [h1, this]
    · by_cases h2 : y.toNat < x.toNat
      · simp [h1, h2]
      · simp [h1, h2, ih]
theorem cmpL_trans : ∀ a b c : List UInt8, a.length = b.length → b.length = c.length → cmpL a b ≤ 0 → cmpL b c ≤ 0 → cmpL a c ≤ 0 ∧ (cmpL a c = 0 → cmpL a b = 0 ∧ cmpL b c = 0)
  | [], [], [], _, _, _, _ => by simp [cmpL]
  | x :: xs, y :: ys, z :: zs, h, h', h1, h2 => by
    have ih := cmpL_trans xs ys zs (by simpa using h) (by simpa using h')
    simp only [cmpL, UInt8.lt_iff_toNat_lt] at *
    by_cases a1 : x.toNat < y.toNat
    · by_cases b1 : y.toNat < z.toNat
      · have : x.toNat < z.toNat := by omega
        simp [a1, b1, this]
      · by_cases b2 : z.toNat < y.toNat
        · simp [b1, b2] at h2
        · have : x.toNat < z.toNat := by omega
          simp [this]
    · by_cases a2 : y.toNat < x.toNat
      · simp [a1, a2] at h1
      · by_cases b1 : y.toNat < z.toNat
        · have : x.toNat < z.toNat := by omega
          simp [this]
        · by_cases b2 : z.toNat < y.toNat
          · simp [b1, b2] at h2
          · have c1 : ¬ x.toNat < z.toNat := by omega
            have c2 : ¬ z.toNat < x.toNat := by omega
            simp only [a1, a2, b1, b2, c1, c2, if_false] at *
            exact ih h1 h2
  | [], _ :: _, _, h, _, _, _ => by simp at h
  | _ :: _, [], _, h, _, _, _ => by simp at h
  | _, [], _ :: _, _, h, _, _ => by simp at h
  | _, _ :: _, [], _, h, _, _ => by simp at h

theorem cmpS_self (s : ByteArray) (i : Int) : cmpS s i i = 0 := cmpL_self _
theorem cmpS_neg (s : ByteArray) (i k : Int) : cmpS s k i = - cmpS s i k := cmpL_neg _ _
theorem cmpS_trans (s : ByteArray) (i k m : Int) : cmpS s i k ≤ 0 → cmpS s k m ≤ 0 → cmpS s i m ≤ 0 ∧ (cmpS s i m = 0 → cmpS s i k = 0 ∧ cmpS s k m = 0) :=
  cmpL_trans _ _ _ (by simp [length_rotL]) (by simp [length_rotL])

theorem aheadS_iff (s : ByteArray) (i k : Int) : aheadS s i k = true ↔ isB s i = true ∧ isB s k = true ∧ (cmpS s i k < 0 ∨ cmpS s i k = 0 ∧ i < k) := by
  unfold aheadS
  simp [and_assoc]

theorem ahead_asymm (s : ByteArray) (i k : Int) (h : aheadS s i k = true) : aheadS s k i = false := by
  rw [Bool.eq_false_iff]
  intro h2
  rw [aheadS_iff] at *
  have := cmpS_neg s i k
  omega
theorem ahead_total (s : ByteArray) (i k : Int) (hi : isB s i = true) (hk : isB s k = true) (hne : i ≠ k) : aheadS s i k = true ∨ aheadS s k i = true := by
  rw [aheadS_iff, aheadS_iff]
  have := cmpS_neg s i k
  by_cases h : cmpS s i k < 0
  · exact .inl ⟨hi, hk, .inl h⟩
  · by_cases h2 : cmpS s i k = 0
    · by_cases h3 : i < k
      · exact .inl ⟨hi, hk, .inr ⟨h2, h3⟩⟩
      · exact .inr ⟨hk, hi, .inr ⟨by omega, by omega⟩⟩
    · exact .inr ⟨hk, hi, .inl (by omega)⟩
theorem ahead_irrefl (s : ByteArray) (i : Int) : aheadS s i i = false := by
  rw [Bool.eq_false_iff]
  intro h2
  rw [aheadS_iff, cmpS_self] at h2
  omega
theorem ahead_trans (s : ByteArray) (i k m : Int) (h : aheadS s i k = true) (h2 : aheadS s k m = true) : aheadS s i m = true := by
  rw [aheadS_iff] at *
  obtain ⟨a1, a2, a3⟩ := h
  obtain ⟨b1, b2, b3⟩ := h2
  have t := cmpS_trans s i k m (by omega) (by omega)
  refine ⟨a1, b2, ?_⟩
  by_cases h0 : cmpS s i m = 0
  · have := t.2 h0
    exact .inr ⟨h0, by omega⟩
  · exact .inl (by omega)

theorem leastTo_min (s : ByteArray) : ∀ k, 0 < k → ∀ i, i < k → cmpS s (leastTo s k) i < 0 ∨ cmpS s (leastTo s k) i = 0 ∧ leastTo s k ≤ i
  | 0, h, _, _ => absurd h (Nat.lt_irrefl _)
  | k + 1, _, i, hi => by
    have ih := leastTo_min s k
    simp only [leastTo]
    split
    · rename_i h
      by_cases hk : i = k
      · subst hk; right; exact ⟨cmpS_self _ _, Nat.le_refl _⟩
      · left
        have hm := ih (by omega) i (by omega)
        have t := cmpS_trans s k (leastTo s k) i (by omega) (by omega)
        have : cmpS s k i ≠ 0 := fun h0 => by have := t.2 h0; omega
        omega
    · rename_i h
      by_cases hk : i = k
      · subst hk
        have := cmpS_neg s i (leastTo s i)
        have hle : leastTo s i ≤ i := by
          by_cases h0 : i = 0
          · subst h0; simp [leastTo]
          · exact Nat.le_of_lt (leastTo_lt s i (by omega))
        by_cases h0 : cmpS s (leastTo s i) i = 0
        · exact .inr ⟨h0, hle⟩
        · exact .inl (by omega)
      · exact ih (by omega) i (by omega)

theorem least_first (s : ByteArray) (h : 1 ≤ s.size) (i : Nat) (hi : i < s.size) : aheadS s i (leastS s) = false := by
  rw [Bool.eq_false_iff]
  intro h2
  rw [aheadS_iff] at h2
  have e : leastS s = leastTo s s.size := by unfold leastS; rw [if_neg (by omega)]
  rw [e] at h2
  have := leastTo_min s s.size (by omega) i hi
  have := cmpS_neg s i (leastTo s s.size)
  omega
theorem least_place (s : ByteArray) (h : 1 ≤ s.size) : isB s (leastS s) = true := by
  have e : leastS s = leastTo s s.size := by unfold leastS; rw [if_neg (by omega)]
  rw [e]
  have := leastTo_lt s s.size (by omega)
  exact isB_of (by omega) (by omega)

end Go.Proofs.Ytbakfaihnecmoaa.Pl

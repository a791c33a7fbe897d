/- Plain facts: two rotations are the same just if their places differ by a multiple of the period. No program in sight. -/
import Derived.Test.YtbakfaihnecmoaaPlain2
namespace Go.Proofs.Ytbakfaihnecmoaa.Pl
set_option linter.unusedVariables false
set_option linter.unusedSimpArgs false

/-- the text's byte at a place, going round -/
def rnd (s : ByteArray) (m : Nat) : UInt8 := s.data.toList.getD (m % s.size) 0
def IsPer (s : ByteArray) (d : Nat) : Prop := ∀ m, rnd s (m + d) = rnd s m

theorem rotL_ext (s : ByteArray) (i k : Nat) (hi : i < s.size) (hk : k < s.size) : rotL s.data.toList i = rotL s.data.toList k ↔ ∀ m, m < s.size → rnd s (i + m) = rnd s (k + m) := by
  have hl := size_list' s
  constructor
  · intro h m hm
    have h1 := getD_rotL s.data.toList i m (by omega) (by omega)
    have h2 := getD_rotL s.data.toList k m (by omega) (by omega)
    rw [hl] at h1 h2
    unfold rnd
    rw [← h1, ← h2, h]
  · intro h
    apply List.ext_getElem (by simp [length_rotL])
    intro m h1 h2
    rw [length_rotL] at h1
    have e1 := getD_rotL s.data.toList i m (by omega) (by omega)
    have e2 := getD_rotL s.data.toList k m (by omega) (by omega)
    rw [hl] at e1 e2
    have := h m (by omega)
    unfold rnd at this
    rw [← e1, ← e2] at this
    rw [List.getD_eq_getElem?_getD, List.getD_eq_getElem?_getD, List.getElem?_eq_getElem (by rw [length_rotL]; omega), List.getElem?_eq_getElem (by rw [length_rotL]; omega)] at this
    simpa using this

theorem rnd_size (s : ByteArray) (m : Nat) : rnd s (m + s.size) = rnd s m := by unfold rnd; rw [Nat.add_mod_right]
theorem rnd_mod (s : ByteArray) (m : Nat) : rnd s (m % s.size) = rnd s m := by unfold rnd; rw [Nat.mod_mod]
theorem per_size (s : ByteArray) : IsPer s s.size := rnd_size s
theorem per_add {s : ByteArray} {a b : Nat} (h : IsPer s a) (k : IsPer s b) : IsPer s (a + b) := fun m => by rw [← Nat.add_assoc, k, h]
theorem per_sub {s : ByteArray} {a b : Nat} (h : IsPer s (a + b)) (k : IsPer s a) : IsPer s b := fun m => by
  rw [← k (m + b), show m + b + a = m + (a + b) by omega, h]
theorem per_mul {s : ByteArray} {a : Nat} (h : IsPer s a) : ∀ q, IsPer s (a * q)
  | 0 => fun m => by simp
  | q + 1 => by rw [Nat.mul_succ]; exact per_add (per_mul h q) h
theorem per_mod {s : ByteArray} {a d : Nat} (h : IsPer s a) (k : IsPer s d) : IsPer s (d % a) := by
  have e := Nat.div_add_mod d a
  rw [← e] at k
  exact per_sub k (per_mul h (d / a))

/-- two places: the same rotation just if their distance is a period -/
theorem same_iff (s : ByteArray) (i k : Nat) (hik : i ≤ k) (hk : k < s.size) : rotL s.data.toList i = rotL s.data.toList k ↔ IsPer s (k - i) := by
  rw [rotL_ext s i k (by omega) hk]
  constructor
  · intro h m
    -- every number is i and a number, going round
    have hm : ∀ m, rnd s (i + m) = rnd s (k + m) := by
      intro m
      have h1 := h (m % s.size) (Nat.mod_lt _ (by omega))
      have a1 : rnd s (i + m % s.size) = rnd s (i + m) := by
        rw [← rnd_mod s (i + m % s.size), ← rnd_mod s (i + m)]; simp
      have a2 : rnd s (k + m % s.size) = rnd s (k + m) := by
        rw [← rnd_mod s (k + m % s.size), ← rnd_mod s (k + m)]; simp
      rw [a1, a2] at h1
      exact h1
    have h2 := hm (m + (s.size - i))
    rw [show i + (m + (s.size - i)) = m + s.size by omega, rnd_size, show k + (m + (s.size - i)) = m + (k - i) + s.size by omega, rnd_size] at h2
    exact h2.symm
  · intro h m hm
    have := h (i + m)
    rw [show i + m + (k - i) = k + m by omega] at this
    exact this.symm

theorem cmpS_per (s : ByteArray) (p : Nat) (hp : p < s.size) : cmpS s 0 p = 0 ↔ IsPer s p := by
  rw [cmpS_zero, show (0 : Int).toNat = 0 from rfl, show (p : Int).toNat = p from rfl]
  have := same_iff s 0 p (by omega) hp
  rw [Nat.sub_zero] at this
  rw [← this, ← rotS_data, ← rotS_data]
  exact ⟨fun h => by rw [h], fun h => list_inj h⟩

/-- from p on: the first number that divides the length and is a period -/
theorem perFrom_spec (s : ByteArray) : ∀ f p, 1 ≤ p → p + f = s.size → (∀ q, 1 ≤ q → q < p → ¬ (s.size % q = 0 ∧ IsPer s q)) →
    1 ≤ perFrom s p f ∧ perFrom s p f ≤ s.size ∧ IsPer s (perFrom s p f) ∧ ∀ q, 1 ≤ q → q < perFrom s p f → ¬ (s.size % q = 0 ∧ IsPer s q)
  | 0, p, h1, h2, h3 => by
    simp only [perFrom]
    have : p = s.size := by omega
    subst this
    exact ⟨h1, Nat.le_refl _, per_size s, h3⟩
  | f + 1, p, h1, h2, h3 => by
    simp only [perFrom]
    split
    · rename_i h
      exact ⟨h1, by omega, (cmpS_per s p (by omega)).1 h.2, h3⟩
    · rename_i h
      refine perFrom_spec s f (p + 1) (by omega) (by omega) fun q hq1 hq2 hh => ?_
      by_cases hqp : q = p
      · subst hqp; exact h ⟨hh.1, (cmpS_per s q (by omega)).2 hh.2⟩
      · exact h3 q hq1 (by omega) hh

theorem exists_least (P : Nat → Prop) (n : Nat) (h : P n) : ∃ m, P m ∧ ∀ q, q < m → ¬ P q := by
  induction n using Nat.strongRecOn with
  | _ n ih =>
    by_cases hq : ∃ q, q < n ∧ P q
    · obtain ⟨q, hq, hp⟩ := hq; exact ih q hq hp
    · exact ⟨n, h, fun q hq' hp => hq ⟨q, hq', hp⟩⟩

theorem perS_least (s : ByteArray) (h : 1 ≤ s.size) : 1 ≤ perS s ∧ perS s ≤ s.size ∧ IsPer s (perS s) ∧ ∀ d, 1 ≤ d → d < perS s → ¬ IsPer s d := by
  have e : perS s = perFrom s 1 (s.size - 1) := by unfold perS; rw [if_neg (by omega)]
  have t := perFrom_spec s (s.size - 1) 1 (by omega) (by omega) (fun q h1 h2 => by omega)
  rw [← e] at t
  refine ⟨t.1, t.2.1, t.2.2.1, fun d hd1 hd2 hd => ?_⟩
  -- the least period of all divides the length
  obtain ⟨m, ⟨hm1, hm2⟩, hm3⟩ := exists_least (fun d => 1 ≤ d ∧ IsPer s d) d ⟨hd1, hd⟩
  have hmd : m ≤ d := by
    refine Nat.le_of_not_lt fun hlt => ?_
    exact hm3 d hlt ⟨hd1, hd⟩
  have hdiv : s.size % m = 0 := by
    refine Nat.eq_zero_of_not_pos fun hpos => ?_
    exact hm3 (s.size % m) (Nat.mod_lt _ hm1) ⟨hpos, per_mod hm2 (per_size s)⟩
  exact t.2.2.2 m hm1 (by omega) ⟨hdiv, hm2⟩

theorem per_iff (s : ByteArray) (h : 1 ≤ s.size) (d : Nat) : IsPer s d ↔ d % perS s = 0 := by
  have t := perS_least s h
  constructor
  · intro hd
    refine Nat.eq_zero_of_not_pos fun hpos => ?_
    exact t.2.2.2 (d % perS s) hpos (Nat.mod_lt _ (by omega)) (per_mod t.2.2.1 hd)
  · intro hd
    have e := Nat.div_add_mod d (perS s)
    rw [hd, Nat.add_zero] at e
    rw [← e]
    exact per_mul t.2.2.1 _

theorem alike (s : ByteArray) (i k : Int) (hi : isB s i = true) (hk : isB s k = true) : (cmpS s i k == 0) = ((i - k).tmod (perS s) == 0) := by
  have hi' := isB_true hi
  have hk' := isB_true hk
  obtain ⟨i, rfl⟩ := Int.eq_ofNat_of_zero_le hi'.1
  obtain ⟨k, rfl⟩ := Int.eq_ofNat_of_zero_le hk'.1
  have h1 : 1 ≤ s.size := by omega
  have t := (perS_least s h1).1
  rw [Bool.eq_iff_iff]
  simp only [beq_iff_eq]
  rw [cmpS_zero]
  simp only [Int.toNat_natCast]
  have hr : rotS s i = rotS s k ↔ rotL s.data.toList i = rotL s.data.toList k := by
    rw [← rotS_data, ← rotS_data]; exact ⟨fun h => by rw [h], fun h => list_inj h⟩
  rw [hr]
  by_cases hle : i ≤ k
  · rw [same_iff s i k hle (by omega), per_iff s h1]
    rw [show (i : Int) - k = -((k - i : Nat) : Int) by omega, Int.neg_tmod, Int.tmod_eq_emod_of_nonneg (by omega)]
    omega
  · have hs : rotL s.data.toList i = rotL s.data.toList k ↔ rotL s.data.toList k = rotL s.data.toList i := ⟨Eq.symm, Eq.symm⟩
    rw [hs, same_iff s k i (by omega) (by omega), per_iff s h1]
    rw [show (i : Int) - k = ((i - k : Nat) : Int) by omega, Int.tmod_eq_emod_of_nonneg (by omega)]
    omega

theorem cmpL_range : ∀ a b : List UInt8, cmpL a b = -1 ∨ cmpL a b = 0 ∨ cmpL a b = 1
  | [], [] => .inr (.inl rfl)
  | [], _ :: _ => .inr (.inl rfl)
  | _ :: _, [] => .inr (.inl rfl)
  | x :: xs, y :: ys => by
    simp only [cmpL]
    split
    · exact .inl rfl
    · split
      · exact .inr (.inr rfl)
      · exact cmpL_range xs ys

end Go.Proofs.Ytbakfaihnecmoaa.Pl

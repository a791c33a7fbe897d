/- The walks of Most: how many steps there are at most. -/
import Derived.Test.YtbakfaihnecmoaaSN
namespace Go.Proofs.Ytbakfaihnecmoaa
set_option linter.unusedVariables false
set_option linter.unusedSimpArgs false
open Go.RowKit Sp Pl

def IsBit (M k : Nat) : Prop := (k = 0 ∨ 2 ^ (k - 1) < M) ∧ M ≤ 2 ^ k
theorem isBit_one {M a b : Nat} (h1 : IsBit M a) (h2 : IsBit M b) : a = b := by
  have key : ∀ a b, IsBit M a → IsBit M b → ¬ a < b := by
    intro a b h1 h2 h
    rcases h2.1 with h0 | h0
    · omega
    · have h3 : 2 ^ a ≤ 2 ^ (b - 1) := Nat.pow_le_pow_right (by omega) (by omega)
      have := h1.2
      omega
  have := key a b h1 h2
  have := key b a h2 h1
  omega
def eachM (k : Nat) : Nat := (4 + 3 * k) * (k + 2)
theorem eachM_le (k : Nat) (h : k ≤ 40) : eachM k ≤ 5208 := by
  unfold eachM
  calc (4 + 3 * k) * (k + 2) ≤ 124 * (k + 2) := Nat.mul_le_mul_right _ (by omega)
    _ ≤ 124 * 42 := Nat.mul_le_mul_left _ (by omega)
theorem eachM_pos (k : Nat) : 8 ≤ eachM k := by
  unfold eachM
  calc 8 = 4 * 2 := rfl
    _ ≤ (4 + 3 * k) * (k + 2) := Nat.mul_le_mul (by omega) (by omega)
theorem pow_le40 (k : Nat) (h : k ≤ 40) : 2 ^ k ≤ 1099511627776 := by
  have : (2 : Nat) ^ k ≤ 2 ^ 40 := Nat.pow_le_pow_right (by omega) h
  exact this
/-- how many steps there are at most, by how many bits a number has -/
def mostK (n k : Nat) : Nat := min (n * eachM k) 1099511627776
def MostIs (n : Nat) (v : Int) : Prop := ∃ k, IsBit (min n 1099511627776) k ∧ v = (mostK n k : Nat)
theorem mostIs_one {n : Nat} {u v : Int} (h1 : MostIs n u) (h2 : MostIs n v) : u = v := by
  obtain ⟨a, a1, rfl⟩ := h1
  obtain ⟨b, b1, rfl⟩ := h2
  rw [isBit_one a1 b1]

theorem quo_big {n E D C : Nat} (hE : 0 < E) (hD : C / E = D) (h : D < n) : C < n * E := by
  subst hD
  exact (Nat.div_lt_iff_lt_mul hE).1 h
theorem quo_small {n E D C : Nat} (hE : 0 < E) (hD : C / E = D) (h : ¬ D < n) : n * E ≤ C := by
  subst hD
  exact (Nat.le_div_iff_mul_le hE).1 (Nat.le_of_not_lt h)
theorem mostK_big {n k E C : Nat} (hE : eachM k = E) (hC : C = 1099511627776) (h : C < n * E) : mostK n k = C := by
  subst hC hE
  unfold mostK
  rw [Nat.min_eq_right (Nat.le_of_lt h)]
theorem mostK_small {n k E R : Nat} (hE : eachM k = E) (hR : n * E = R) (h : R ≤ 1099511627776) : mostK n k = R := by
  subst hE hR
  unfold mostK
  rw [Nat.min_eq_left h]
theorem s_Most_small (n : Int) (w : World) (h2 : n < 2) : Calls Try.prog 26 #[.int .i64 n] w fun e w' => e = .returned (.int .i64 0) ∧ w = w' := by
  have hd : decide (n < 2) = true := by simpa using h2
  go_enter Try.func26, Try.ntmps26
  go_wp2
  go_ret
  exact ⟨rfl, rfl⟩

theorem s_Most (n : Nat) (w : World) (h2 : 2 ≤ n) (hm : n ≤ 9223372036854775807) : Calls Try.prog 26 #[.int .i64 (n : Nat)] w fun e w' => (∃ v, MostIs n v ∧ e = .returned (.int .i64 v)) ∧ w = w' := by
  have hd : decide ((n : Int) < 2) = false := by simp; omega
  obtain ⟨M, hM⟩ : ∃ M : Nat, min n 1099511627776 = M := ⟨_, rfl⟩
  have hM3 : M ≤ 1099511627776 := by omega
  have HM := Lib.hid hM
  have hIf : (if 1099511627776 < (n : Int) then 1099511627776 else (n : Int)) = (M : Nat) := by split <;> omega
  clear hM
  have HIF := Lib.hid hIf
  clear hIf
  go_enter Try.func26, Try.ntmps26
  go_wp2_with fail
  go_loop [3] (fun b => ∃ k : Nat, k ≤ 40 ∧ b = .int .i64 (k : Nat) ∧ Hid (k = 0 ∨ 2 ^ (k - 1) < M)) (fun b => 40 - (intOf b).toNat)
  case atStart => exact ⟨0, by omega, rfl, .inl rfl⟩
  case round =>
    obtain ⟨k, hk, rfl, hp⟩ := hrel
    obtain ⟨P, hP⟩ : ∃ P : Nat, 2 ^ k = P := ⟨_, rfl⟩
    have hPl : P ≤ 1099511627776 := hP ▸ pow_le40 k hk
    have hw : wrap64 ((2 : Int) ^ k) = (P : Nat) := by
      have : ((2 : Int) ^ k) = ((2 ^ k : Nat) : Int) := by simp
      rw [this, hP]
      unfold wrap64; omega
    have HPK := Lib.hid hP
    clear hP
    have hIf := HIF.out
    by_cases hlt : P < M
    · have d1 : decide ((P : Int) < (M : Int)) = true := by simpa using hlt
      have hne : k ≠ 40 := by
        rintro rfl
        have := HPK.out
        have e : (2 : Nat) ^ 40 = 1099511627776 := rfl
        omega
      go_wp2_with fail
      all_goals
        refine ⟨⟨k + 1, by omega, by go_num, ?_⟩, by simp [intOf]; omega⟩
        unfold Hid
        right
        rw [Nat.add_sub_cancel, HPK.out]
        exact hlt
    · have d1 : decide ((P : Int) < (M : Int)) = false := by simp; omega
      obtain ⟨E, hE⟩ : ∃ E, eachM k = E := ⟨_, rfl⟩
      have hE1 : E ≤ 5208 := hE ▸ eachM_le k hk
      have hE2 : 8 ≤ E := hE ▸ eachM_pos k
      have hEw : wrap64 ((4 + 3 * (k : Int)) * ((k : Int) + 2)) = (E : Nat) := by
        have : (4 + 3 * (k : Int)) * ((k : Int) + 2) = ((eachM k : Nat) : Int) := by unfold eachM; push_cast; rfl
        rw [this, hE]
        unfold wrap64; omega
      obtain ⟨D, hD⟩ : ∃ D, 1099511627776 / E = D := ⟨_, rfl⟩
      have hDl : D ≤ 1099511627776 := hD ▸ Nat.div_le_self _ _
      have hDw : Int.tdiv 1099511627776 (E : Int) = (D : Nat) := by rw [← hD]; rfl
      have hDw2 : (1099511627776 : Int) / (E : Int) = (D : Nat) := by rw [← hD]; rfl
      have hres : Hid (IsBit (min n 1099511627776) k) := by
        unfold Hid
        rw [HM.out]
        exact ⟨hp.out, by rw [HPK.out]; omega⟩
      have HE := Lib.hid hE
      have HD := Lib.hid hD
      clear hE hD hp
      by_cases hnd : D < n
      · have d2 : decide ((D : Int) < (n : Int)) = true := by simpa using hnd
        have hbig := mostK_big HE.out rfl (quo_big (by omega) HD.out hnd)
        have HB := Lib.hid hbig
        clear hbig
        go_wp2_with fail
        go_ret
        refine ⟨⟨_, ⟨k, hres.out, ?_⟩, rfl⟩, rfl⟩
        rw [HB.out]
        rfl
      · have d2 : decide ((D : Int) < (n : Int)) = false := by simp; omega
        have hsm := quo_small (by omega) HD.out hnd
        obtain ⟨R, hR⟩ : ∃ R, n * E = R := ⟨_, rfl⟩
        rw [hR] at hsm
        have hRw : wrap64 ((n : Int) * (E : Int)) = (R : Nat) := by
          rw [← Int.natCast_mul, hR]
          unfold wrap64; omega
        have HR := Lib.hid (mostK_small HE.out hR hsm)
        clear hR
        go_wp2_with fail
        go_ret
        refine ⟨⟨_, ⟨k, hres.out, ?_⟩, rfl⟩, rfl⟩
        rw [HR.out]

end Go.Proofs.Ytbakfaihnecmoaa

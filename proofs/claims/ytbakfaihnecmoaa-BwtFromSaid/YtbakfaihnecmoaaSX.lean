/- The reference's Most; the statement SorterMost. -/
import Derived.Test.YtbakfaihnecmoaaSW
namespace Go.Proofs.Ytbakfaihnecmoaa
set_option linter.unusedVariables false
set_option linter.unusedSimpArgs false
open Go.RowKit Sp Pl

theorem r_Most_small (n : Int) (w : World) (h2 : n < 2) : Calls Try.prog 27 #[.int .i64 n] w fun e w' => e = .returned (.int .i64 0) ∧ w = w' := by
  have hd : decide (n < 2) = true := by simpa using h2
  go_enter Try.func27, Try.ntmps27
  go_wp2
  go_ret
  exact ⟨rfl, rfl⟩
theorem sum_big {n k E i T C : Nat} (hE : eachM k = E) (hC : C = 1099511627776) (hT : T = i * n) (hi : i < E) (h : C < T + n) : mostK n k = C := by
  refine mostK_big hE hC ?_
  have : (i + 1) * n ≤ E * n := Nat.mul_le_mul_right _ hi
  rw [Nat.add_mul, Nat.one_mul, ← hT] at this
  rw [Nat.mul_comm]
  omega
theorem r_Most (n : Nat) (w : World) (h2 : 2 ≤ n) (hm : n ≤ 9223372036854775807) : Calls Try.prog 27 #[.int .i64 (n : Nat)] w fun e w' => (∃ v, MostIs n v ∧ e = .returned (.int .i64 v)) ∧ w = w' := by
  have hd : decide ((n : Int) < 2) = false := by simp; omega
  go_enter Try.func27, Try.ntmps27
  go_wp2_with fail
  go_loop [3, 4] (fun b p => ∃ k P : Nat, k ≤ 40 ∧ b = .int .i64 (k : Nat) ∧ p = .int .i64 (P : Nat) ∧ P ≤ 1099511627776 ∧ Hid (2 ^ k = P) ∧ Hid (k = 0 ∨ 2 ^ (k - 1) < min n 1099511627776)) (fun b _ => 40 - (intOf b).toNat)
  case atStart => exact ⟨0, 1, by omega, rfl, rfl, by omega, rfl, .inl rfl⟩
  case round =>
    obtain ⟨k, P, hk, rfl, rfl, hPl, hP, hp⟩ := hrel
    by_cases hlt : P < n ∧ k < 40
    · obtain ⟨h3, h4⟩ := hlt
      have d1 : decide ((P : Int) < (n : Int)) = true := by simpa using h3
      have d2 : decide ((k : Int) < 40) = true := by simp; omega
      have hP2 : Hid (2 ^ (k + 1) = 2 * P) := by unfold Hid; rw [Nat.pow_succ, hP.out, Nat.mul_comm]
      have hp2 : Hid (k + 1 = 0 ∨ 2 ^ (k + 1 - 1) < min n 1099511627776) := by
        right
        have e : 2 ^ (k + 1) ≤ 1099511627776 := pow_le40 (k + 1) (by omega)
        rw [Nat.pow_succ] at e
        rw [Nat.add_sub_cancel, hP.out] at *
        omega
      have hP3 : 2 * P ≤ 1099511627776 := by have := pow_le40 (k + 1) (by omega); rw [hP2.out] at this; exact this
      go_wp2_with fail
      go_round
      case rel => exact ⟨k + 1, 2 * P, by omega, by go_num, by go_num, hP3, hP2, hp2⟩
      case measure => simp [intOf]; omega
    · have hbit : Hid (IsBit (min n 1099511627776) k) := by
        refine ⟨hp.out, ?_⟩
        rw [hP.out]
        by_cases h3 : P < n
        · obtain rfl : k = 40 := by omega
          have : (1099511627776 : Nat) = P := hP.out
          omega
        · omega
      obtain ⟨E, hE⟩ : ∃ E, eachM k = E := ⟨_, rfl⟩
      have hE1 : E ≤ 5208 := hE ▸ eachM_le k hk
      have hEw : wrap64 ((4 + 3 * (k : Int)) * ((k : Int) + 2)) = (E : Nat) := by
        have : (4 + 3 * (k : Int)) * ((k : Int) + 2) = ((eachM k : Nat) : Int) := by unfold eachM; push_cast; rfl
        rw [this, hE]
        unfold wrap64; omega
      have HE := Lib.hid hE
      clear hE hp hP
      have hways : (decide (P < n) = false) ∨ (decide (P < n) = true ∧ decide ((k : Int) < 40) = false) := by
        by_cases h3 : P < n
        · exact .inr ⟨by simpa using h3, by simp; omega⟩
        · exact .inl (by simp; omega)
      have hw3 := Lib.hid hways
      clear hways hlt
      rcases hw3.out with d1 | ⟨d1, d2⟩
      all_goals
        go_wp2_with fail
        go_loop [5, 25] (fun t i => ∃ j T : Nat, j ≤ E ∧ i = .int .i64 (j : Nat) ∧ t = .int .i64 (T : Nat) ∧ T ≤ 1099511627776 ∧ Hid (T = j * n)) (fun _ i => E - (intOf i).toNat)
        case atStart => exact ⟨0, 0, by omega, rfl, rfl, by omega, by unfold Hid; omega⟩
        case round =>
          obtain ⟨j, T, hj, rfl, rfl, hT, hTj⟩ := hrel
          by_cases hlt : j < E
          · have e1 : decide ((j : Int) < (E : Int)) = true := by simpa using hlt
            by_cases hbig : 1099511627776 < T + n
            · have e2 : decide (1099511627776 - (T : Int) < (n : Int)) = true := decide_eq_true (by omega)
              have HB := Lib.hid (sum_big HE.out rfl hTj.out hlt hbig)
              go_wp2_with fail
              go_ret
              refine ⟨⟨_, ⟨k, hbit.out, ?_⟩, rfl⟩, rfl⟩
              rw [HB.out]
              rfl
            · have e2 : decide (1099511627776 - (T : Int) < (n : Int)) = false := decide_eq_false (by omega)
              have hn : Hid (T + n = (j + 1) * n) := by unfold Hid; rw [Nat.add_mul, Nat.one_mul, ← hTj.out]
              go_wp2_with fail
              go_round
              case rel => exact ⟨j + 1, T + n, by omega, by go_num, by go_num, by omega, hn⟩
              case measure => simp [intOf]; omega
          · have e1 : decide ((j : Int) < (E : Int)) = false := by simp; omega
            obtain rfl : j = E := by omega
            have HB := Lib.hid (mostK_small HE.out (by rw [Nat.mul_comm]; exact hTj.out.symm) hT)
            go_wp2_with fail
            go_ret
            refine ⟨⟨_, ⟨k, hbit.out, ?_⟩, rfl⟩, rfl⟩
            rw [HB.out]

end Go.Proofs.Ytbakfaihnecmoaa

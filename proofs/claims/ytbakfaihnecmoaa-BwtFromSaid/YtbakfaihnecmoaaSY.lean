/- The statement SorterMost. -/
import Derived.Test.YtbakfaihnecmoaaSX
namespace Go.Proofs.Ytbakfaihnecmoaa
set_option linter.unusedVariables false
set_option linter.unusedSimpArgs false
open Go.RowKit Sp Pl

/-- both tell one number -/
def Agree (f : FuncId) (n : Int) (v : Int) : Prop := ∀ w, Calls Try.prog f #[.int .i64 n] w fun e w' => e = .returned (.int .i64 v) ∧ w = w'
theorem agree_most (n : Int) (hm : n ≤ 9223372036854775807) : ∃ v, (n < 2 → v = 0) ∧ (∀ m : Nat, n = m → 2 ≤ m → MostIs m v) ∧ Agree 26 n v ∧ Agree 27 n v := by
  by_cases h : n < 2
  · exact ⟨0, fun _ => rfl, fun m e h2 => by omega, fun w => s_Most_small n w h, fun w => r_Most_small n w h⟩
  · obtain ⟨m, rfl⟩ := Int.eq_ofNat_of_zero_le (show 0 ≤ n by omega)
    obtain ⟨k, hk⟩ : ∃ k, IsBit (min m 1099511627776) k := by
      have key : ∀ f M k : Nat, M ≤ 2 ^ (k + f) → (k = 0 ∨ 2 ^ (k - 1) < M) → ∃ k, IsBit M k := by
        intro f
        induction f with
        | zero => intro M k h1 h2; exact ⟨k, h2, h1⟩
        | succ f ih =>
          intro M k h1 h2
          by_cases h3 : M ≤ 2 ^ k
          · exact ⟨k, h2, h3⟩
          · exact ih M (k + 1) (by rw [show k + 1 + f = k + (f + 1) by omega]; exact h1) (.inr (by rw [Nat.add_sub_cancel]; omega))
      refine key 40 _ 0 ?_ (.inl rfl)
      have : (2 : Nat) ^ (0 + 40) = 1099511627776 := rfl
      omega
    refine ⟨(mostK m k : Nat), fun h2 => by omega, fun m' e h2 => by obtain rfl : m = m' := by omega
                                                                     exact ⟨k, hk, rfl⟩, fun w => ?_, fun w => ?_⟩
    · refine (s_Most m w (by omega) (by omega)).mono ?_
      rintro e w' ⟨⟨v, hv, rfl⟩, hw⟩
      exact ⟨ret_int (mostIs_one hv ⟨k, hk, rfl⟩), hw⟩
    · refine (r_Most m w (by omega) (by omega)).mono ?_
      rintro e w' ⟨⟨v, hv, rfl⟩, hw⟩
      exact ⟨ret_int (mostIs_one hv ⟨k, hk, rfl⟩), hw⟩

theorem steps_le_most (s : ByteArray) (h : s.size ≤ 900000) (v : Int) (h1 : (s.size : Int) < 2 → v = 0) (h2 : ∀ m : Nat, (s.size : Int) = m → 2 ≤ m → MostIs m v) : (stepsR s : Int) ≤ v := by
  by_cases h3 : s.size < 2
  · rw [h1 (by omega)]
    have : stepsR s = 0 := by unfold stepsR; rw [if_pos h3]
    omega
  · obtain ⟨k, hk, rfl⟩ := h2 s.size rfl (by omega)
    have hb : s.size ≤ 2 ^ k := by have := hk.2; omega
    have h4 := steps_most s k (by omega) hb
    have h5 := steps_le s h
    have h6 : stepsR s ≤ s.size * eachM k := h4
    unfold mostK
    omega

theorem law_Most (n : Int) (s : ByteArray) (w : World) (hn : n ≤ 9223372036854775807) (hm : s.size ≤ maxLen) : Calls Try.prog 7 #[.int .i64 n, .string s] w fun e w' => e = .returned (.bool true) ∧ Below w.heap.size w w' := by
  unfold maxLen at hm
  obtain ⟨v, _, _, hA, hB⟩ := agree_most n hn
  have HA := Lib.hid hA
  have HB := Lib.hid hB
  clear hA hB
  by_cases h : 40 < s.size
  · have hd : decide (40 < (s.size : Int)) = true := by simp; omega
    go_enter Try.func7, Try.ntmps7
    go_wp2_with (first | (go_at_call 26; refine (HA.out _).mono ?_; rintro e w5 ⟨rfl, rfl⟩) | (go_at_call 27; refine (HB.out _).mono ?_; rintro e w5 ⟨rfl, rfl⟩) | (go_at_call 15; refine (sort_banana _).mono ?_; rintro e w5 ⟨rfl, hb⟩))
    go_ret
    exact ⟨rfl, hb⟩
  · have hd : decide (40 < (s.size : Int)) = false := by simp; omega
    have HN := Lib.hid (s_New s w (by omega))
    obtain ⟨u, hu1, hu2, hC, _⟩ := agree_most (s.size : Int) (by omega)
    have hle := steps_le_most s (by omega) u hu1 hu2
    have HC := Lib.hid hC
    have hT := steps_le s (by omega)
    have hg : 0 + goneK s 0 1099511627776 = stepsR s := by unfold goneK; omega
    have hg0 : goneK s 0 1099511627776 = stepsR s := by omega
    have hdn := Lib.hid (is_done s (by omega))
    have HG := Lib.hid hg
    have HG0 := Lib.hid hg0
    clear hu1 hu2 hC hg hg0
    generalize hSR : stepsR s = T at *
    have HSR := Lib.hid hSR
    have hcmp : decide ((T : Int) ≤ u) = true := by simpa using hle
    clear hSR
    go_enter Try.func7, Try.ntmps7
    go_wp2_with (first | (go_at_call 26; refine (HA.out _).mono ?_; rintro e w5 ⟨rfl, rfl⟩) | (go_at_call 27; refine (HB.out _).mono ?_; rintro e w5 ⟨rfl, rfl⟩))
    refine HN.out.mono ?_
    rintro e w1 ⟨⟨g, rfl, hs⟩, hb1⟩
    have hst := s_Step (by omega) 0 (Nat.zero_le _) hs 1099511627776
    rw [HG.out, HG0.out] at hst
    have HS := Lib.hid hst
    clear hst hs
    go_wp2_with fail
    refine HS.out.mono ?_
    rintro e w2 ⟨rfl, hp⟩
    have hD := s_Done _ hp.1
    rw [hdn.out] at hD
    have HD := Lib.hid hD
    have hb2 : Below w.heap.size w w2 := hb1.trans (hp.2.below hb1.size (fun i hi => hi))
    clear hD hp
    go_wp2_with (first | (go_at_call 23; refine (HD.out).mono ?_; rintro e w5 ⟨rfl, rfl⟩) | (go_at_call 26; refine (HC.out _).mono ?_; rintro e w5 ⟨rfl, rfl⟩) | (go_at_call 15; refine (sort_banana _).mono ?_; rintro e w5 ⟨rfl, hb⟩))
    go_ret
    exact ⟨rfl, hb2.trans (hb.mono hb2.size)⟩

end Go.Proofs.Ytbakfaihnecmoaa

/- The statement BwtMost. -/
import Derived.Test.YtbakfaihnecmoaaBE
import Derived.Test.YtbakfaihnecmoaaSY
namespace Go.Proofs.Ytbakfaihnecmoaa
set_option linter.unusedVariables false
set_option linter.unusedSimpArgs false
open Go.RowKit Sp Pl

theorem b_Most_small (n : Int) (w : World) (h : n < 1) : Calls Try.prog 33 #[.int .i64 n] w fun e w' => e = .returned (.int .i64 0) ∧ w = w' := by
  have hd : decide (n < 1) = true := by simpa using h
  go_enter Try.func33, Try.ntmps33
  go_wp2
  go_ret
  exact ⟨rfl, rfl⟩
theorem b_Most (n v : Int) (w : World) (h : 1 ≤ n) (hn : n ≤ 9223372036854775807) (hv0 : 0 ≤ v) (hv1 : v ≤ 1099511627776) (hA : Agree 26 n v) : Calls Try.prog 33 #[.int .i64 n] w fun e w' => e = .returned (.int .i64 (min (v + min n 1099511627776) 1099511627776)) ∧ w = w' := by
  have hd : decide (n < 1) = false := by simp; omega
  obtain ⟨a, ha⟩ : ∃ a, min n 1099511627776 = a := ⟨_, rfl⟩
  have hIf : (if 1099511627776 < n then 1099511627776 else n) = a := by split <;> omega
  obtain ⟨c, hc⟩ : ∃ c, min (v + a) 1099511627776 = c := ⟨_, rfl⟩
  have hIf2 : (if 1099511627776 < v + a then 1099511627776 else v + a) = c := by split <;> omega
  have ha1 : 0 ≤ a := by omega
  have ha2 : a ≤ 1099511627776 := by omega
  rw [ha, hc]
  have HA := Lib.hid hA
  clear hA ha hc
  go_enter Try.func33, Try.ntmps33
  go_wp2_with (first | (go_at_call 26; refine (HA.out _).mono ?_; rintro e w5 ⟨rfl, rfl⟩))
  go_ret
  exact ⟨rfl, rfl⟩
theorem most_range (n v : Int) (h1 : n < 2 → v = 0) (h2 : ∀ m : Nat, n = m → 2 ≤ m → MostIs m v) : 0 ≤ v ∧ v ≤ 1099511627776 := by
  by_cases h : n < 2
  · rw [h1 h]; omega
  · obtain ⟨m, rfl⟩ := Int.eq_ofNat_of_zero_le (show 0 ≤ n by omega)
    obtain ⟨k, _, rfl⟩ := h2 m rfl (by omega)
    unfold mostK
    omega

theorem law_BMost (n : Int) (s : ByteArray) (w : World) (hn : n ≤ 9223372036854775807) (hm : s.size ≤ maxLen) : Calls Try.prog 11 #[.int .i64 n, .string s] w fun e w' => e = .returned (.bool true) ∧ Below w.heap.size w w' := by
  unfold maxLen at hm
  obtain ⟨v, hv1, hv2, hA, hB⟩ := agree_most n hn
  obtain ⟨r1, r2⟩ := most_range n v hv1 hv2
  have HB := Lib.hid hB
  obtain ⟨c, hc0, hc⟩ : ∃ c, (n < 1 → c = 0) ∧ (1 ≤ n → min (v + min n 1099511627776) 1099511627776 = c) := by
    by_cases h : n < 1
    · exact ⟨0, fun _ => rfl, fun h2 => by omega⟩
    · exact ⟨_, fun h2 => by omega, fun _ => rfl⟩
  have HM : Hid (∀ w, Calls Try.prog 33 #[.int .i64 n] w fun e w' => e = .returned (.int .i64 c) ∧ w = w') := fun w => by
    by_cases h : n < 1
    · rw [hc0 h]; exact b_Most_small n w h
    · rw [← hc (by omega)]; exact b_Most n v w (by omega) hn r1 r2 hA
  obtain ⟨a, ha⟩ : ∃ a, min n 1099511627776 = a := ⟨_, rfl⟩
  have hIf : (if 1099511627776 < n then 1099511627776 else n) = a := by split <;> omega
  have ha2 : a ≤ 1099511627776 := by omega
  have ha3 : -9223372036854775808 ≤ a ∨ n < 1 := by omega
  have hways : Hid ((decide (0 < n) = false ∧ c = 0) ∨ (decide (0 < n) = true ∧ decide (1099511627776 < v + a) = true ∧ c = 1099511627776 ∧ 1 ≤ a) ∨ (decide (0 < n) = true ∧ decide (1099511627776 < v + a) = false ∧ c = v + a ∧ 1 ≤ a)) := by
    by_cases h : n < 1
    · exact .inl ⟨by simp; omega, hc0 h⟩
    · have := hc (by omega)
      by_cases h2 : 1099511627776 < v + a
      · exact .inr (.inl ⟨by simp; omega, by simp; omega, by omega, by omega⟩)
      · exact .inr (.inr ⟨by simp; omega, by simp; omega, by omega, by omega⟩)
  clear hv1 hv2 hA hB hc0 hc ha ha3
  -- the rest of the statement, of a short text
  have hrest : Hid (s.size ≤ 40 → 1 ≤ s.size → ∃ u : Int, (∀ w, Calls Try.prog 33 #[.int .i64 (s.size : Nat)] w fun e w' => e = .returned (.int .i64 u) ∧ w = w') ∧ ((stepsR s + s.size : Nat) : Int) ≤ u) := by
    intro h40 h1
    obtain ⟨u, hu1, hu2, hC, _⟩ := agree_most (s.size : Int) (by omega)
    obtain ⟨t1, t2⟩ := most_range _ u hu1 hu2
    have hle := steps_le_most s (by omega) u hu1 hu2
    have hT := steps_le s (by omega)
    exact ⟨_, fun w => b_Most (s.size : Nat) u w (by omega) (by omega) t1 t2 hC, by omega⟩
  by_cases hbig : 40 < s.size ∨ s.size = 0
  · have hw2 : Hid (decide (40 < (s.size : Int)) = true ∨ (decide (40 < (s.size : Int)) = false ∧ s = ⟨#[]⟩)) := by
      rcases hbig with h | h
      · exact .inl (by simp; omega)
      · refine .inr ⟨by simp; omega, list_inj ?_⟩
        have := size_list' s
        exact List.eq_nil_of_length_eq_zero (by omega)
    clear hbig hrest
    rcases hw2.out with d | ⟨d, rfl⟩
    all_goals
      rcases hways.out with ⟨d1, rfl⟩ | ⟨d1, d2, rfl, l1⟩ | ⟨d1, d2, rfl, l1⟩
      all_goals
        clear hways
        go_enter Try.func11, Try.ntmps11
        go_wp2_with (first | (go_at_call 27; refine (HB.out _).mono ?_; rintro e w5 ⟨rfl, rfl⟩) | (go_at_call 33; refine (HM.out _).mono ?_; rintro e w5 ⟨rfl, rfl⟩) | (go_at_call 28; refine (turn_banana _).mono ?_; rintro e w5 ⟨rfl, hb⟩))
        go_ret
        exact ⟨rfl, hb⟩
  · obtain ⟨u, hU, hle⟩ := hrest.out (by omega) (by omega)
    have he := nonempty_of s (by omega)
    have he2 : ¬ s.toList = [] := by intro e; rw [e] at he; cases he
    have h40 : s.size ≤ 40 := by omega
    have h1 : 1 ≤ s.size := by omega
    have hd40 : decide (40 < (s.size : Int)) = false := by simp; omega
    have HU := Lib.hid hU
    have HN := Lib.hid (fun w => b_New s w (by omega) h1)
    have hT := steps_le s (by omega)
    have hg : 0 + goneT s 0 1099511627776 = stepsR s + s.size := by unfold goneT; omega
    have hg0 : goneT s 0 1099511627776 = stepsR s + s.size := by omega
    obtain ⟨T, hT2⟩ : ∃ T, stepsR s + s.size = T := ⟨_, rfl⟩
    rw [hT2] at hg hg0 hle
    have HG := Lib.hid hg
    have HG0 := Lib.hid hg0
    have HT2 := Lib.hid hT2
    have hTl : T ≤ 1267200040 := by omega
    have hcmp : decide ((T : Int) ≤ u) = true := by simpa using hle
    clear hrest hbig hg hg0 hT2 hU hT
    rcases hways.out with ⟨d1, rfl⟩ | ⟨d1, d2, rfl, l1⟩ | ⟨d1, d2, rfl, l1⟩
    all_goals
      clear hways
      go_enter Try.func11, Try.ntmps11
      go_wp2_with (first | (go_at_call 27; refine (HB.out _).mono ?_; rintro e w5 ⟨rfl, rfl⟩) | (go_at_call 33; refine (HM.out _).mono ?_; rintro e w5 ⟨rfl, rfl⟩))
      refine (HN.out _).mono ?_
      rintro e w1 ⟨⟨gt, rfl, ht⟩, hb1⟩
      have hst := b_Step ⟨false, ht⟩ (by omega) h1 (Nat.zero_le _) hb1.size 1099511627776
      rw [HG.out, HG0.out] at hst
      have HS := Lib.hid hst
      clear hst ht
      go_wp2_with fail
      refine HS.out.mono ?_
      rintro e w2 ⟨rfl, ht2, hb2⟩
      have HD := Lib.hid (ht2.toDone (by omega) (by rw [HT2.out]; exact Nat.le_refl _) true (by have := HT2.out; simp; omega))
      clear ht2 HS
      go_wp2_with fail
      refine HD.out.mono ?_
      rintro e w3 ⟨rfl, hb3⟩
      go_wp2_with (first | (go_at_call 33; refine (HU.out _).mono ?_; rintro e w5 ⟨rfl, rfl⟩) | (go_at_call 28; refine (turn_banana _).mono ?_; rintro e w5 ⟨rfl, hb⟩))
      go_ret
      exact ⟨rfl, kt (kt (hb1.trans hb2) hb3) hb⟩

end Go.Proofs.Ytbakfaihnecmoaa

/- Walks of the statements of layer 15: RotateOne, RotateCompares. -/
import Derived.Test.YtmbmlinbggmipaaRotL
namespace Go.Proofs.Ytmbmlinbggmipaa
set_option linter.unusedVariables false
set_option linter.unusedSimpArgs false
open Go.RowKit Pl

theorem law_One_out (s : ByteArray) (i k m : Int) (w : World) (hm : s.size ≤ maxLen) (h : 300 < s.size ∨ s.size ≤ 300 ∧ isB s i = false ∨ s.size ≤ 300 ∧ isB s i = true ∧ isB s k = false) :
    Calls Try.prog 5 #[.string s, .agg #[.int .i64 i, .int .i64 k], .int .u8 m] w fun e w' => e = .returned (.bool true) ∧ Below w.heap.size w w' := by
  unfold maxLen at hm
  rcases h with h | ⟨h, h1⟩ | ⟨h, h1, h2⟩
  all_goals
    go_enter Try.func5, Try.ntmps5
    go_wp2_with (first | (go_at_call 18; refine (rot_place _ _ _ (by omega)).mono ?_; rintro e w5 ⟨rfl, rfl⟩) | (go_at_call 15; refine (rot_banana _).mono ?_; rintro e w' ⟨rfl, hb⟩))
    go_ret
    exact ⟨rfl, (by repeat (first | exact kr _ | assumption | refine kt ?_ (by assumption) | refine ka ?_ _ | refine kd ?_ _))⟩

theorem law_One (s : ByteArray) (i k m : Int) (w : World) (hs : s.size ≤ 300) (hi : isB s i = true) (hk : isB s k = true) (m0 : 0 ≤ m) (m1 : m ≤ 255) :
    Calls Try.prog 5 #[.string s, .agg #[.int .i64 i, .int .i64 k], .int .u8 m] w fun e w' => e = .returned (.bool true) ∧ Below w.heap.size w w' := by
  have hpos : 1 ≤ s.size := by have := isB_true hi; omega
  have hx0 : 0 ≤ m % (s.size : Int) := Int.emod_nonneg _ (by omega)
  have hd : decide (300 < (s.size : Int)) = false := by simp; omega
  have h1 : aheadS s i k = true → aheadS s k i = false := ahead_asymm s i k
  have h2 : i ≠ k → aheadS s i k = true ∨ aheadS s k i = true := ahead_total s i k hi hk
  have h3 : aheadS s i i = false := ahead_irrefl s i
  have h4 : aheadS s i k = true → aheadS s k (m % (s.size : Int)) = true → aheadS s i (m % (s.size : Int)) = true := ahead_trans s i k _
  by_cases hik : i = k
  · subst hik
    have hne : (i != i) = false := by simp
    clear h1 h2 h4
    · go_enter Try.func5, Try.ntmps5
      go_wp2_with (first | (go_at_call 18; refine (rot_place _ _ _ (by omega)).mono ?_; rintro e w5 ⟨rfl, rfl⟩) | (go_at_call 15; refine (rot_banana _).mono ?_; rintro e w' ⟨rfl, hb⟩) | (go_at_call 24; refine (rot_Ahead _ _ _ _ (by omega)).mono ?_; rintro e w' ⟨rfl, hb⟩))
      go_ret
      exact ⟨rfl, (by repeat (first | exact kr _ | assumption | refine kt ?_ (by assumption) | refine ka ?_ _ | refine kd ?_ _))⟩
  · have hne : (i != k) = true := by simpa using hik
    have h2' := h2 hik
    clear h2 hik h3
    cases ha : aheadS s i k with
    | true =>
      have hb := h1 ha
      clear h1 h2'
      cases hkx : aheadS s k (m % (s.size : Int)) with
      | true =>
        have hix := h4 ha hkx
        clear h4
        · go_enter Try.func5, Try.ntmps5
          go_wp2_with (first | (go_at_call 18; refine (rot_place _ _ _ (by omega)).mono ?_; rintro e w5 ⟨rfl, rfl⟩) | (go_at_call 15; refine (rot_banana _).mono ?_; rintro e w' ⟨rfl, hb⟩) | (go_at_call 24; refine (rot_Ahead _ _ _ _ (by omega)).mono ?_; rintro e w' ⟨rfl, hb⟩))
          go_ret
          exact ⟨rfl, (by repeat (first | exact kr _ | assumption | refine kt ?_ (by assumption) | refine ka ?_ _ | refine kd ?_ _))⟩
      | false =>
        clear h4
        · go_enter Try.func5, Try.ntmps5
          go_wp2_with (first | (go_at_call 18; refine (rot_place _ _ _ (by omega)).mono ?_; rintro e w5 ⟨rfl, rfl⟩) | (go_at_call 15; refine (rot_banana _).mono ?_; rintro e w' ⟨rfl, hb⟩) | (go_at_call 24; refine (rot_Ahead _ _ _ _ (by omega)).mono ?_; rintro e w' ⟨rfl, hb⟩))
          go_ret
          exact ⟨rfl, (by repeat (first | exact kr _ | assumption | refine kt ?_ (by assumption) | refine ka ?_ _ | refine kd ?_ _))⟩
    | false =>
      have hb : aheadS s k i = true := by simpa [ha] using h2'
      clear h1 h2' h4
      · go_enter Try.func5, Try.ntmps5
        go_wp2_with (first | (go_at_call 18; refine (rot_place _ _ _ (by omega)).mono ?_; rintro e w5 ⟨rfl, rfl⟩) | (go_at_call 15; refine (rot_banana _).mono ?_; rintro e w' ⟨rfl, hb⟩) | (go_at_call 24; refine (rot_Ahead _ _ _ _ (by omega)).mono ?_; rintro e w' ⟨rfl, hb⟩))
        go_ret
        exact ⟨rfl, (by repeat (first | exact kr _ | assumption | refine kt ?_ (by assumption) | refine ka ?_ _ | refine kd ?_ _))⟩

theorem law_Compares_big (s : ByteArray) (i k : Int) (w : World) (hs : 300 < s.size) (hm : s.size ≤ maxLen) :
    Calls Try.prog 6 #[.string s, .int .i64 i, .int .i64 k] w fun e w' => e = .returned (.bool true) ∧ Below w.heap.size w w' := by
  unfold maxLen at hm
  go_enter Try.func6, Try.ntmps6
  go_wp2_with (first | (go_at_call 15; refine (rot_banana _).mono ?_; rintro e w' ⟨rfl, hb⟩))
  go_ret
  exact ⟨rfl, (by repeat (first | exact kr _ | assumption | refine kt ?_ (by assumption) | refine ka ?_ _ | refine kd ?_ _))⟩

theorem law_Compares_no1 (s : ByteArray) (i k : Int) (w : World) (hs : s.size ≤ 300) (hi : isB s i = false) :
    Calls Try.prog 6 #[.string s, .int .i64 i, .int .i64 k] w fun e w' => e = .returned (.bool true) ∧ Below w.heap.size w w' := by
  have hd : decide (300 < (s.size : Int)) = false := by simp; omega
  have hA : aheadS s i k = false := by simp [aheadS, hi]
  go_enter Try.func6, Try.ntmps6
  go_wp2_with (first | (go_at_call 18; refine (rot_place _ _ _ (by omega)).mono ?_; rintro e w5 ⟨rfl, rfl⟩) | (go_at_call 15; refine (rot_banana _).mono ?_; rintro e w' ⟨rfl, hb⟩) | (go_at_call 24; refine (rot_Ahead _ _ _ _ (by omega)).mono ?_; rintro e w' ⟨rfl, hb⟩) | (go_at_call 25; refine (rot_Rotation_no _ _ _ (by omega) hi).mono ?_; rintro e w' ⟨rfl, hb⟩) | (go_at_call 26; refine (rot_Compare_no _ _ _ _ (by omega) (.inl hi)).mono ?_; rintro e w' ⟨rfl, hb⟩))
  go_ret
  exact ⟨rfl, (by repeat (first | exact kr _ | assumption | refine kt ?_ (by assumption) | refine ka ?_ _ | refine kd ?_ _))⟩

theorem law_Compares_no2 (s : ByteArray) (i k : Int) (w : World) (hs : s.size ≤ 300) (hi : isB s i = true) (hk : isB s k = false) :
    Calls Try.prog 6 #[.string s, .int .i64 i, .int .i64 k] w fun e w' => e = .returned (.bool true) ∧ Below w.heap.size w w' := by
  have hd : decide (300 < (s.size : Int)) = false := by simp; omega
  have hA : aheadS s i k = false := by simp [aheadS, hk]
  have hi' := isB_true hi
  go_enter Try.func6, Try.ntmps6
  go_wp2_with (first | (go_at_call 18; refine (rot_place _ _ _ (by omega)).mono ?_; rintro e w5 ⟨rfl, rfl⟩) | (go_at_call 15; refine (rot_banana _).mono ?_; rintro e w' ⟨rfl, hb⟩) | (go_at_call 24; refine (rot_Ahead _ _ _ _ (by omega)).mono ?_; rintro e w' ⟨rfl, hb⟩) | (go_at_call 25; refine (rot_Rotation_yes _ _ _ (by omega) hi).mono ?_; rintro e w' ⟨rfl, hb⟩) | (go_at_call 26; refine (rot_Compare_no _ _ _ _ (by omega) (.inr hk)).mono ?_; rintro e w' ⟨rfl, hb⟩) | (go_at_call 27; refine (ref_Rotation _ _ _ (by omega) hi'.1 (by omega)).mono ?_; rintro e w' ⟨rfl, hb⟩))
  go_ret
  exact ⟨rfl, (by repeat (first | exact kr _ | assumption | refine kt ?_ (by assumption) | refine ka ?_ _ | refine kd ?_ _))⟩

end Go.Proofs.Ytmbmlinbggmipaa

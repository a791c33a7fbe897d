/- Walks of package rotate's exported functions. -/
import Derived.Test.YtmbmlinbggmipaaRotA
import Derived.Deep.QuietTactic
import Derived.BigQuiet
namespace Go.Proofs.Ytmbmlinbggmipaa
set_option linter.unusedVariables false
set_option linter.unusedSimpArgs false
open Go.RowKit Pl

theorem rot_Rotation_no (s : ByteArray) (i : Int) (w : World) (hs : s.size ≤ 1099511627776) (h : isB s i = false) :
    Calls Try.prog 25 #[.string s, .int .i64 i] w fun e w' => e = .returned (.tuple #[.string ⟨#[]⟩, .int .i64 1]) ∧ Below w.heap.size w w' := by
  go_enter Try.func25, Try.ntmps25
  go_wp2_with (go_at_call 43; refine (rot_is _ _ _ hs).mono ?_; rintro e w' ⟨rfl, rfl⟩)
  go_ret2
  exact ⟨rfl, Below.refl _ _⟩

theorem rot_Rotation_yes (s : ByteArray) (i : Int) (w : World) (hs : s.size ≤ 1099511627776) (h : isB s i = true) :
    Calls Try.prog 25 #[.string s, .int .i64 i] w fun e w' => e = .returned (.tuple #[.string (rotS s i.toNat), .int .i64 0]) ∧ Below w.heap.size w w' := by
  have hh := isB_true h
  obtain ⟨i, rfl⟩ := Int.eq_ofNat_of_zero_le hh.1
  simp only [Int.toNat_natCast]
  have h2 : i < s.size := by omega
  clear hh
  go_enter Try.func25, Try.ntmps25
  go_wp2_with (go_at_call 43; refine (rot_is _ _ _ hs).mono ?_; rintro e w' ⟨rfl, rfl⟩)
  go_quiet (fail)
  go_wp2
  go_ret2
  exact ⟨rfl, below_drewN (Below.refl _ _) _⟩

theorem rot_Compare_no (s : ByteArray) (i k : Int) (w : World) (hs : s.size ≤ 1099511627776) (h : isB s i = false ∨ isB s k = false) :
    Calls Try.prog 26 #[.string s, .int .i64 i, .int .i64 k] w fun e w' => e = .returned (.tuple #[.int .i64 0, .int .i64 1]) ∧ Below w.heap.size w w' := by
  cases hb : isB s i with
  | false =>
    clear h
    go_enter Try.func26, Try.ntmps26
    go_wp2_with (go_at_call 43; refine (rot_is _ _ _ hs).mono ?_; rintro e w' ⟨rfl, rfl⟩)
    go_ret2
    exact ⟨rfl, Below.refl _ _⟩
  | true =>
    have hk : isB s k = false := by simpa [hb] using h
    clear h
    go_enter Try.func26, Try.ntmps26
    go_wp2_with (go_at_call 43; refine (rot_is _ _ _ hs).mono ?_; rintro e w' ⟨rfl, rfl⟩)
    go_ret2
    exact ⟨rfl, Below.refl _ _⟩

theorem rot_Compare_yes (s : ByteArray) (i k : Int) (w : World) (hs : s.size ≤ 1099511627776) (hi : isB s i = true) (hk : isB s k = true) :
    Calls Try.prog 26 #[.string s, .int .i64 i, .int .i64 k] w fun e w' => e = .returned (.tuple #[.int .i64 (cmpS s i k), .int .i64 0]) ∧ Below w.heap.size w w' := by
  go_enter Try.func26, Try.ntmps26
  go_wp2_with (first | (go_at_call 43; refine (rot_is _ _ _ hs).mono ?_; rintro e w' ⟨rfl, rfl⟩) | (go_at_call 42; refine (rot_compare _ _ _ _ hs (isB_true hi).1 (isB_true hi).2 (isB_true hk).1 (isB_true hk).2).mono ?_; rintro e w' ⟨rfl, hb⟩))
  go_ret2
  exact ⟨rfl, hb⟩

theorem rot_Ahead (s : ByteArray) (i k : Int) (w : World) (hs : s.size ≤ 1099511627776) :
    Calls Try.prog 24 #[.string s, .int .i64 i, .int .i64 k] w fun e w' => e = .returned (.bool (aheadS s i k)) ∧ Below w.heap.size w w' := by
  cases hi : isB s i with
  | false =>
    go_enter Try.func24, Try.ntmps24
    go_wp2_with (go_at_call 43; refine (rot_is _ _ _ hs).mono ?_; rintro e w' ⟨rfl, rfl⟩)
    go_ret
    exact ⟨ret_bool (by simp [aheadS, hi]), Below.refl _ _⟩
  | true =>
    cases hk : isB s k with
    | false =>
      go_enter Try.func24, Try.ntmps24
      go_wp2_with (go_at_call 43; refine (rot_is _ _ _ hs).mono ?_; rintro e w' ⟨rfl, rfl⟩)
      go_ret
      exact ⟨ret_bool (by simp [aheadS, hk]), Below.refl _ _⟩
    | true =>
      have hc := rot_compare s i k w hs (isB_true hi).1 (isB_true hi).2 (isB_true hk).1 (isB_true hk).2
      rw [show cmpL (rotL s.data.toList i.toNat) (rotL s.data.toList k.toNat) = cmpS s i k from rfl] at hc
      have hA : aheadS s i k = (decide (cmpS s i k < 0) || cmpS s i k == 0 && decide (i < k)) := by simp [aheadS, hi, hk]
      rw [hA]
      clear hA
      generalize cmpS s i k = c at *
      have Hc := Lib.hid hc
      clear hc
      by_cases h1 : c < 0
      · go_enter Try.func24, Try.ntmps24
        go_wp2_with (first | (go_at_call 43; refine (rot_is _ _ _ hs).mono ?_; rintro e w' ⟨rfl, rfl⟩) | (go_at_call 42; refine (Hc.out).mono ?_; rintro e w' ⟨rfl, hb⟩))
        go_ret
        exact ⟨ret_bool (by simp [h1]), hb⟩
      · have h1' : decide (c < 0) = false := by simpa using h1
        by_cases h2 : c = 0
        · have h2' : (c == 0) = true := by simpa using h2
          subst h2
          go_enter Try.func24, Try.ntmps24
          go_wp2_with (first | (go_at_call 43; refine (rot_is _ _ _ hs).mono ?_; rintro e w' ⟨rfl, rfl⟩) | (go_at_call 42; refine (Hc.out).mono ?_; rintro e w' ⟨rfl, hb⟩))
          go_ret
          exact ⟨ret_bool (by simp), hb⟩
        · have h2' : (c == 0) = false := by simpa using h2
          go_enter Try.func24, Try.ntmps24
          go_wp2_with (first | (go_at_call 43; refine (rot_is _ _ _ hs).mono ?_; rintro e w' ⟨rfl, rfl⟩) | (go_at_call 42; refine (Hc.out).mono ?_; rintro e w' ⟨rfl, hb⟩))
          go_ret
          exact ⟨ret_bool (by simp [h1', h2']), hb⟩

end Go.Proofs.Ytmbmlinbggmipaa

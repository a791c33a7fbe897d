/- The statement BwtFrom. -/
import Derived.Test.YtbakfaihnecmoaaBL
namespace Go.Proofs.Ytbakfaihnecmoaa
set_option linter.unusedVariables false
set_option linter.unusedSimpArgs false
open Go.RowKit Sp Pl

theorem law_BFrom_big (s : ByteArray) (a : Option Addr) (cap : Nat) (xs : List Int) (w : World) (hm : s.size ≤ maxLen) (hx : xs.length ≤ maxLen) (h : 100 < s.size ∨ s.size ≤ 100 ∧ 100 < xs.length) : Calls Try.prog 14 #[.string s, .slice a xs.length cap] w fun e w' => e = .returned (.bool true) ∧ Below w.heap.size w w' := by
  unfold maxLen at hm hx
  rcases h with h | ⟨h, h2⟩
  · have hd : decide (100 < (s.size : Int)) = true := by simp; omega
    go_enter Try.func14, Try.ntmps14
    go_wp2_with (first | (go_at_call 28; refine (turn_banana _).mono ?_; rintro e w5 ⟨rfl, hb⟩))
    go_ret
    exact ⟨rfl, hb⟩
  · have hd : decide (100 < (s.size : Int)) = false := by simp; omega
    have hd2 : decide (100 < (xs.length : Int)) = true := by simp; omega
    go_enter Try.func14, Try.ntmps14
    go_wp2_with (first | (go_at_call 28; refine (turn_banana _).mono ?_; rintro e w5 ⟨rfl, hb⟩))
    go_ret
    exact ⟨rfl, hb⟩

theorem law_BFrom (s : ByteArray) (a : Option Addr) (cap : Nat) (xs : List Int) (w : World) (hs : s.size ≤ 100) (hx : xs.length ≤ 100) (hr : NumsAt .i64 w a xs) (hcap : xs.length ≤ cap) : Calls Try.prog 14 #[.string s, .slice a xs.length cap] w fun e w' => e = .returned (.bool true) ∧ Below w.heap.size w w' := by
  have hd : decide (100 < (s.size : Int)) = false := by simp; omega
  have hd2 : decide (100 < (xs.length : Int)) = false := by simp; omega
  by_cases h0 : s.size = 0
  · obtain rfl := empty_is h0
    have H1 := Lib.hid (b_From_not ⟨#[]⟩ a cap xs w (by decide) (by omega) hr (.inl rfl))
    go_enter Try.func14, Try.ntmps14
    go_wp2_with fail
    refine H1.out.mono ?_
    rintro e w1 ⟨rfl, hb1⟩
    go_wp2_with (first | (go_at_call 28; refine (turn_banana _).mono ?_; rintro e w5 ⟨rfl, hb⟩))
    go_ret
    exact ⟨rfl, kt hb1 hb⟩
  · have he := nonempty_of s (by omega)
    have he2 : ¬ s.toList = [] := by intro e; rw [e] at he; cases he
    by_cases hO : OrdP s.size xs
    · obtain ⟨L, hL⟩ : ∃ L, strOfNums (fromL s xs xs.length) = L := ⟨_, rfl⟩
      obtain ⟨o, ho⟩ : ∃ o, fromO xs xs.length = o := ⟨_, rfl⟩
      have H1 := Lib.hid (b_From s a cap xs w (by omega) (by omega) hr hO L o hL ho)
      have H2 : Hid (∀ w1, NumsAt .i64 w1 a xs → Calls Try.prog 42 #[.slice a xs.length cap, .int .i64 (s.size : Nat)] w1 fun e w' => e = .returned (.bool true) ∧ w1 = w') := fun w1 hr1 => r_Ordered a cap xs s.size w1 (by omega) (by omega) hr1 hcap true (by simp; exact hO)
      have hp : ∀ x ∈ xs, isB s x = true := by
        intro x hx'
        obtain ⟨i, hi, rfl⟩ := List.mem_iff_getElem.1 hx'
        have := hO.2.1 i hi
        rw [List.getD_eq_getElem?_getD, List.getElem?_eq_getElem hi] at this
        exact isB_of this.1 this.2
      have H3 : Hid (∀ w1, NumsAt .i64 w1 a xs → Calls Try.prog 43 #[.string s, .slice a xs.length cap] w1 fun e w' => e = .returned (.agg #[.string L, .int .i64 (o : Nat)]) ∧ Below w1.heap.size w1 w') := fun w1 hr1 => by
        have := r_From s a cap xs w1 (by omega) (by omega) hr1 hp
        rw [hL, ho] at this
        exact this
      have HR := Lib.hid hr
      clear hp hL ho hO hr
      go_enter Try.func14, Try.ntmps14
      go_wp2_with fail
      refine H1.out.mono ?_
      rintro e w1 ⟨rfl, hb1⟩
      have hr1 := Lib.hid (HR.out.below hb1)
      go_wp2_with fail
      refine (H2.out w1 hr1.out).mono ?_
      rintro e w2 ⟨rfl, rfl⟩
      go_wp2_with fail
      refine (H3.out w1 hr1.out).mono ?_
      rintro e w2 ⟨rfl, hb2⟩
      go_wp2_with (first | (go_at_call 28; refine (turn_banana _).mono ?_; rintro e w5 ⟨rfl, hb⟩))
      go_ret
      exact ⟨rfl, kt (kt hb1 hb2) ((ka (kr _) _).trans (hb.mono (by simp)))⟩
    · have H1 := Lib.hid (b_From_not s a cap xs w (by omega) (by omega) hr (.inr ⟨by omega, hO⟩))
      have H2 : Hid (∀ w1, NumsAt .i64 w1 a xs → Calls Try.prog 42 #[.slice a xs.length cap, .int .i64 (s.size : Nat)] w1 fun e w' => e = .returned (.bool false) ∧ w1 = w') := fun w1 hr1 => r_Ordered a cap xs s.size w1 (by omega) (by omega) hr1 hcap false (by simp; exact hO)
      have HR := Lib.hid hr
      clear hO hr
      go_enter Try.func14, Try.ntmps14
      go_wp2_with fail
      refine H1.out.mono ?_
      rintro e w1 ⟨rfl, hb1⟩
      have hr1 := Lib.hid (HR.out.below hb1)
      go_wp2_with fail
      refine (H2.out w1 hr1.out).mono ?_
      rintro e w2 ⟨rfl, rfl⟩
      go_wp2_with (first | (go_at_call 28; refine (turn_banana _).mono ?_; rintro e w5 ⟨rfl, hb⟩))
      go_ret
      exact ⟨rfl, kt hb1 hb⟩

end Go.Proofs.Ytbakfaihnecmoaa

/- The statement SorterOf. -/
import Derived.Test.YtbakfaihnecmoaaSN
import Derived.Test.YtbakfaihnecmoaaR5
namespace Go.Proofs.Ytbakfaihnecmoaa
set_option linter.unusedVariables false
set_option linter.unusedSimpArgs false
open Go.RowKit Sp Pl

theorem s_Of_ys (s : ByteArray) (ys : List Int) (w : World) (h : s.size ≤ 900000) (hy : sortTo s s.size = ys) :
    Calls Try.prog 16 #[.string s] w fun e w' => (∃ a cap, e = .returned (.tuple #[.slice a ys.length cap, .int .i64 0]) ∧ NumsAt .i64 w' a ys) ∧ Below w.heap.size w w' := by
  subst hy
  exact s_Of s w h

theorem law_Of (s : ByteArray) (w : World) (hm : s.size ≤ maxLen) : Calls Try.prog 3 #[.string s] w fun e w' => e = .returned (.bool true) ∧ Below w.heap.size w w' := by
  unfold maxLen at hm
  by_cases h : 60 < s.size
  · have hd : decide (60 < (s.size : Int)) = true := by simp; omega
    go_enter Try.func3, Try.ntmps3
    go_wp2_with (first | (go_at_call 15; refine (sort_banana _).mono ?_; rintro e w5 ⟨rfl, hb⟩))
    go_ret
    exact ⟨rfl, hb⟩
  · have hd : decide (60 < (s.size : Int)) = false := by simp; omega
    obtain ⟨ys, hy⟩ : ∃ ys, sortTo s s.size = ys := ⟨_, rfl⟩
    have hl : ys.length = s.size := by rw [← hy, sortTo_length]
    have H1 := Lib.hid (s_Of_ys s ys w (by omega) hy)
    have H2 := Lib.hid (fun w => ref_Sorted_of s ys w (by omega) hy)
    have HL := Lib.hid hl
    have HB : Hid ((ys == ys) = true) := by unfold Hid; simp
    clear hl hy
    go_enter Try.func3, Try.ntmps3
    go_wp2_with fail
    refine H1.out.mono ?_
    rintro e w1 ⟨⟨a1, cap1, rfl, hr1⟩, hb1⟩
    go_wp2_with fail
    refine (H2.out _).mono ?_
    rintro e w2 ⟨⟨a2, cap2, rfl, hr2⟩, hb2⟩
    go_wp2_with fail
    refine (plain_Ints a1 a2 cap1 cap2 ys ys _ (by rw [HL.out]; omega) (hr1.below hb2) hr2).mono ?_
    rintro e w3 ⟨rfl, hb3⟩
    rw [HB.out]
    go_wp2_with (first | (go_at_call 15; refine (sort_banana _).mono ?_; rintro e w5 ⟨rfl, hb5⟩))
    go_ret
    exact ⟨rfl, kt (kt (kt hb1 hb2) hb3) hb5⟩

end Go.Proofs.Ytbakfaihnecmoaa

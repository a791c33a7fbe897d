/- The statement BwtOf. -/
import Derived.Test.YtbakfaihnecmoaaBG
namespace Go.Proofs.Ytbakfaihnecmoaa
set_option linter.unusedVariables false
set_option linter.unusedSimpArgs false
open Go.RowKit Sp Pl

theorem empty_is {s : ByteArray} (h : s.size = 0) : s = ⟨#[]⟩ := by
  refine list_inj ?_
  have := size_list' s
  exact List.eq_nil_of_length_eq_zero (by omega)
theorem law_BOf (s : ByteArray) (w : World) (hm : s.size ≤ maxLen) : Calls Try.prog 8 #[.string s] w fun e w' => e = .returned (.bool true) ∧ Below w.heap.size w w' := by
  unfold maxLen at hm
  by_cases h : 60 < s.size
  · have hd : decide (60 < (s.size : Int)) = true := by simp; omega
    go_enter Try.func8, Try.ntmps8
    go_wp2_with (first | (go_at_call 28; refine (turn_banana _).mono ?_; rintro e w5 ⟨rfl, hb⟩))
    go_ret
    exact ⟨rfl, hb⟩
  · by_cases h0 : s.size = 0
    · obtain rfl := empty_is h0
      go_enter Try.func8, Try.ntmps8
      go_wp2_with (first | (go_at_call 29; refine (b_Of_nil _).mono ?_; rintro e w5 ⟨rfl, rfl⟩) | (go_at_call 28; refine (turn_banana _).mono ?_; rintro e w5 ⟨rfl, hb⟩))
      go_ret
      exact ⟨rfl, hb⟩
    · have hd : decide (60 < (s.size : Int)) = false := by simp; omega
      have he := nonempty_of s (by omega)
      have he2 : ¬ s.toList = [] := by intro e; rw [e] at he; cases he
      obtain ⟨L, hL⟩ : ∃ L, lastStr s = L := ⟨_, rfl⟩
      obtain ⟨o, ho⟩ : ∃ o, origTo s s.size = o := ⟨_, rfl⟩
      have H1 := Lib.hid (b_Of s w (by omega) (by omega) L o hL ho)
      have H2 := Lib.hid (fun w => r_Of17 s w (by omega) L o hL ho)
      clear hL ho
      go_enter Try.func8, Try.ntmps8
      go_wp2_with fail
      refine H1.out.mono ?_
      rintro e w1 ⟨rfl, hb1⟩
      go_wp2_with fail
      refine (H2.out _).mono ?_
      rintro e w2 ⟨rfl, hb2⟩
      go_wp2_with (first | (go_at_call 28; refine (turn_banana _).mono ?_; rintro e w5 ⟨rfl, hb⟩))
      go_ret
      exact ⟨rfl, (kt (kt hb1 hb2) ((ka (kr _) _).trans (hb.mono (by simp))))⟩

theorem r_Steps17 (s : ByteArray) (w : World) (hs : s.size ≤ 1000) : Calls Try.prog 37 #[.string s] w fun e w' => e = .returned (.int .i64 ((stepsR s + s.size : Nat) : Int)) ∧ Below w.heap.size w w' := by
  have hT := steps_le s (by omega)
  have H1 := Lib.hid (r_Steps s w hs)
  generalize stepsR s = T at *
  go_enter Try.func37, Try.ntmps37
  go_wp2_with fail
  refine H1.out.mono ?_
  rintro e w1 ⟨rfl, hb1⟩
  go_wp2_with fail
  go_ret
  exact ⟨ret_int (by push_cast; rfl), hb1⟩

end Go.Proofs.Ytbakfaihnecmoaa

/- The walk of the statement RotateSorts. -/
import Derived.Test.YtmbmlinbggmipaaRotS
namespace Go.Proofs.Ytmbmlinbggmipaa
set_option linter.unusedVariables false
set_option linter.unusedSimpArgs false
open Go.RowKit Pl

theorem law_Sorts_big (s : ByteArray) (a : Option Addr) (cap : Nat) (xs : List Int) (w : World) (hm : s.size ≤ maxLen) (hx : xs.length ≤ maxLen) (h : 40 < s.size ∨ s.size ≤ 40 ∧ 60 < xs.length) :
    Calls Try.prog 4 #[.string s, .slice a xs.length cap] w fun e w' => e = .returned (.bool true) ∧ Below w.heap.size w w' := by
  unfold maxLen at hm hx
  rcases h with h | ⟨h1, h2⟩
  · have hd : decide (40 < (s.size : Int)) = true := by simp; omega
    go_enter Try.func4, Try.ntmps4
    go_wp2_with (first | (go_at_call 15; refine (rot_banana _).mono ?_; rintro e w' ⟨rfl, hb⟩))
    go_ret
    exact ⟨rfl, (by repeat (first | exact kr _ | assumption | refine kt ?_ (by assumption) | refine ka ?_ _ | refine kd ?_ _))⟩
  · have hd : decide (40 < (s.size : Int)) = false := by simp; omega
    have hd2 : decide (60 < (xs.length : Int)) = true := by simp; omega
    go_enter Try.func4, Try.ntmps4
    go_wp2_with (first | (go_at_call 15; refine (rot_banana _).mono ?_; rintro e w' ⟨rfl, hb⟩))
    go_ret
    exact ⟨rfl, (by repeat (first | exact kr _ | assumption | refine kt ?_ (by assumption) | refine ka ?_ _ | refine kd ?_ _))⟩

theorem ref_Sorted_of (s : ByteArray) (ys : List Int) (w : World) (hs : s.size ≤ 300) (h : sortTo s s.size = ys) :
    Calls Try.prog 21 #[.string s] w fun e w' => (∃ a cap, e = .returned (.slice a ys.length cap) ∧ NumsAt .i64 w' a ys) ∧ Below w.heap.size w w' := by
  subst h
  rw [sortTo_length]
  exact ref_Sorted s w hs

theorem law_Sorts (s : ByteArray) (a : Option Addr) (cap : Nat) (xs : List Int) (w : World) (hs : s.size ≤ 40) (hx : xs.length ≤ 60) (hr : NumsAt .i64 w a xs) :
    Calls Try.prog 4 #[.string s, .slice a xs.length cap] w fun e w' => e = .returned (.bool true) ∧ Below w.heap.size w w' := by
  have hd : decide (40 < (s.size : Int)) = false := by simp; omega
  have hd2 : decide (60 < (xs.length : Int)) = false := by simp; omega
  have hu := sorted_unique s xs
  have hself := sorted_self s
  have hlen := sortTo_length s s.size
  generalize hy : sortTo s s.size = ys at *
  have hc : ∀ w, _ := fun w => ref_Sorted_of s ys w (by omega) hy
  clear hy
  have HL := Lib.hid hlen
  have HU := Lib.hid hu
  have HC := Lib.hid hc
  clear hlen hu hc
  go_enter Try.func4, Try.ntmps4
  go_wp2_with fail
  refine (HC.out _).mono ?_
  rintro e w1 ⟨⟨a1, cap1, rfl, hr1⟩, hb1⟩
  go_wp2_with fail
  refine (rot_Sorted s a cap xs _ (by omega) (by omega) (hr.below hb1)).mono ?_
  rintro e w2 ⟨rfl, hb2⟩
  rw [HU.out]
  go_wp2_with fail
  refine (plain_Ints a a1 _ _ xs ys _ (by omega) ((hr.below hb1).below hb2) (hr1.below hb2)).mono ?_
  rintro e w3 ⟨rfl, hb3⟩
  have hyy : ((xs == ys) == (xs == ys)) = true := by simp
  go_wp2_with fail
  refine (rot_Sorted s a1 _ ys _ (by omega) (by have := HL.out; omega) ((hr1.below hb2).below hb3)).mono ?_
  rintro e w4 ⟨rfl, hb4⟩
  go_wp2_with (first | (go_at_call 15; refine (rot_banana _).mono ?_; rintro e w' ⟨rfl, hb⟩))
  go_ret
  exact ⟨rfl, (by repeat (first | exact kr _ | assumption | refine kt ?_ (by assumption) | refine ka ?_ _ | refine kd ?_ _))⟩

end Go.Proofs.Ytmbmlinbggmipaa

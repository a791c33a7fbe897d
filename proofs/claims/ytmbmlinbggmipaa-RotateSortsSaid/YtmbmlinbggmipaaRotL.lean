/- Walks of the statements of layer 15. -/
import Derived.Test.YtmbmlinbggmipaaRotR
import Derived.Test.YtmbmlinbggmipaaPlain2
namespace Go.Proofs.Ytmbmlinbggmipaa
set_option linter.unusedVariables false
set_option linter.unusedSimpArgs false
open Go.RowKit Pl

def banS : ByteArray := ⟨#[98, 97, 110, 97, 110, 97]⟩
def ababS : ByteArray := ⟨#[97, 98, 97, 98]⟩
theorem ban1 : isB ⟨#[98, 97, 110, 97, 110, 97]⟩ 4 = true := by decide +kernel
theorem ban2 : rotS ⟨#[98, 97, 110, 97, 110, 97]⟩ 4 = ⟨#[110, 97, 98, 97, 110, 97]⟩ := by decide +kernel
theorem ban3 : sortedS ⟨#[98, 97, 110, 97, 110, 97]⟩ [5, 3, 1, 0, 4, 2] = true := by decide +kernel
theorem ban4 : sortedS ⟨#[97, 98, 97, 98]⟩ [0, 2, 1, 3] = true := by decide +kernel
theorem ban5 : perS ⟨#[97, 98, 97, 98]⟩ = 2 := by decide +kernel
theorem ban6 : leastS ⟨#[98, 97, 110, 97, 110, 97]⟩ = 5 := by decide +kernel

theorem rot_banana (w : World) : Calls Try.prog 15 #[] w fun e w' => e = .returned (.bool true) ∧ Below w.heap.size w w' := by
  have c1 := rot_Rotation_yes ⟨#[98, 97, 110, 97, 110, 97]⟩ 4 w (by decide) ban1
  rw [show (4 : Int).toNat = 4 from rfl, ban2] at c1
  have C1 := Lib.hid c1
  clear c1
  go_enter Try.func15, Try.ntmps15
  go_wp2_with fail
  refine C1.out.mono ?_
  rintro e w1 ⟨rfl, hb1⟩
  go_wp2_with fail
  refine (rot_Sorted _ _ _ [5, 3, 1, 0, 4, 2] _ (by decide) (by decide) (NumsAt.new _ _ _ _ _ rfl)).mono ?_
  rintro e w2 ⟨rfl, hb2⟩
  rw [ban3]
  go_wp2_with fail
  refine (rot_Sorted _ _ _ [0, 2, 1, 3] _ (by decide) (by decide) (NumsAt.new _ _ _ _ _ rfl)).mono ?_
  rintro e w3 ⟨rfl, hb3⟩
  rw [ban4]
  go_wp2_with fail
  refine (rot_Period _ _ (by decide)).mono ?_
  rintro e w4 ⟨rfl, hb4⟩
  rw [ban5]
  go_wp2_with fail
  refine (rot_Least _ _ (by decide)).mono ?_
  rintro e w5 ⟨rfl, hb5⟩
  rw [ban6]
  go_wp2
  go_ret
  exact ⟨rfl, kt (kt (kt (ka (kt (ka hb1 _) hb2) _) hb3) hb4) hb5⟩

theorem law_Periods_big (s : ByteArray) (w : World) (hs : 80 < s.size) (hm : s.size ≤ maxLen) :
   
    Calls Try.prog 3 #[.string s] w fun e w' => e = .returned (.bool true) ∧ Below w.heap.size w w' := by
  unfold maxLen at hm
  go_enter Try.func3, Try.ntmps3
  go_wp2_with (go_at_call 15; refine (rot_banana _).mono ?_; rintro e w' ⟨rfl, hb⟩)
  go_ret
  exact ⟨rfl, hb⟩

theorem law_Periods_nil (s : ByteArray) (w : World) (hs : s.size = 0) :
    Calls Try.prog 3 #[.string s] w fun e w' => e = .returned (.bool true) ∧ Below w.heap.size w w' := by
  have h1 := empty_of s hs
  have c1 : ∀ w, _ := fun w => rot_Least s w (by omega)
  have c2 : ∀ w, _ := fun w => rot_Period s w (by omega)
  rw [show leastS s = -1 by simp [leastS, hs]] at c1
  rw [show perS s = 0 by simp [perS, hs]] at c2
  have h80 : s.size ≤ 80 := by omega
  have C1 := Lib.hid c1
  have C2 := Lib.hid c2
  clear c1 c2 hs
  go_enter Try.func3, Try.ntmps3
  go_wp2_with fail
  refine (C1.out _).mono ?_
  rintro e w1 ⟨rfl, hb1⟩
  go_wp2_with fail
  refine (C2.out _).mono ?_
  rintro e w2 ⟨rfl, hb2⟩
  go_wp2_with fail
  refine (rot_banana _).mono ?_
  rintro e w3 ⟨rfl, hb3⟩
  go_wp2
  go_ret
  exact ⟨rfl, kt (kt hb1 hb2) hb3⟩

theorem law_Periods (s : ByteArray) (w : World) (h0 : 1 ≤ s.size) (hs : s.size ≤ 80) :
    Calls Try.prog 3 #[.string s] w fun e w' => e = .returned (.bool true) ∧ Below w.heap.size w w' := by
  have h1 := nonempty_of s h0
  have hp := least_place s h0
  have hf : Hid (∀ i : Nat, i < s.size → aheadS s i (leastS s) = false) := least_first s h0
  generalize hL : leastS s = L at *
  have c1 : ∀ w, _ := fun w => rot_Least s w (by omega)
  rw [hL] at c1
  have C1 := Lib.hid c1
  clear c1 hL
  have hne : ((perS s : Int) != (perS s : Int)) = false := by simp
  go_enter Try.func3, Try.ntmps3
  go_wp2_with fail
  refine (C1.out _).mono ?_
  rintro e w1 ⟨rfl, hb1⟩
  go_wp2_with fail
  refine (rot_place _ _ _ (by omega)).mono ?_
  rintro e w2 ⟨rfl, rfl⟩
  go_wp2_with fail
  refine (rot_Period _ _ (by omega)).mono ?_
  rintro e w3 ⟨rfl, hb3⟩
  go_wp2_with fail
  refine (ref_Period _ _ (by omega)).mono ?_
  rintro e w4 ⟨rfl, hb4⟩
  have hb := kt (kt hb1 hb3) hb4
  clear hb1 hb3 hb4
  go_wp2_with fail
  go_loopw [36] (fun i wr => ∃ k : Nat, k ≤ s.size ∧ i = .int .i64 k ∧ Below w.heap.size w wr) (fun i _ => s.size - (intOf i).toNat)
  case atStart => exact ⟨0, by omega, rfl, hb⟩
  case round =>
    clear hb
    obtain ⟨k, hk, rfl, hb⟩ := hrel
    by_cases hlt : k < s.size
    · have hA := hf.out k hlt
      go_wp2_with (go_at_call 20; refine (ref_Ahead _ _ _ _ (by omega) (isB_of (by omega) (by omega)) hp).mono ?_; rintro e w5 ⟨rfl, hb5⟩)
      exact ⟨⟨k + 1, by omega, by go_num, kt hb hb5⟩, by simp [intOf]; omega⟩
    · go_wp2_with (go_at_call 15; refine (rot_banana _).mono ?_; rintro e w' ⟨rfl, hb6⟩)
      go_ret
      exact ⟨rfl, kt hb hb6⟩

end Go.Proofs.Ytmbmlinbggmipaa

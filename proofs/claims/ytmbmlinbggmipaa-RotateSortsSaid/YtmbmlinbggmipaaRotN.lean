/- Walks of the statements of layer 15: RotateAlike, RotateCompares. -/
import Derived.Test.YtmbmlinbggmipaaRotM
import Derived.Test.YtmbmlinbggmipaaPlain3
namespace Go.Proofs.Ytmbmlinbggmipaa
set_option linter.unusedVariables false
set_option linter.unusedSimpArgs false
open Go.RowKit Pl

theorem law_Alike_out (s : ByteArray) (i k : Int) (w : World) (hm : s.size ≤ maxLen) (h : 300 < s.size ∨ s.size ≤ 300 ∧ isB s i = false ∨ s.size ≤ 300 ∧ isB s i = true ∧ isB s k = false) :
    Calls Try.prog 7 #[.string s, .int .i64 i, .int .i64 k] w fun e w' => e = .returned (.bool true) ∧ Below w.heap.size w w' := by
  unfold maxLen at hm
  rcases h with h | ⟨h, h1⟩ | ⟨h, h1, h2⟩
  all_goals
    go_enter Try.func7, Try.ntmps7
    go_wp2_with (first | (go_at_call 18; refine (rot_place _ _ _ (by omega)).mono ?_; rintro e w5 ⟨rfl, rfl⟩) | (go_at_call 15; refine (rot_banana _).mono ?_; rintro e w' ⟨rfl, hb⟩))
    go_ret
    exact ⟨rfl, (by repeat (first | exact kr _ | assumption | refine kt ?_ (by assumption) | refine ka ?_ _ | refine kd ?_ _))⟩

theorem law_Alike (s : ByteArray) (i k : Int) (w : World) (hs : s.size ≤ 300) (hi : isB s i = true) (hk : isB s k = true) :
    Calls Try.prog 7 #[.string s, .int .i64 i, .int .i64 k] w fun e w' => e = .returned (.bool true) ∧ Below w.heap.size w w' := by
  have hi' := isB_true hi
  have hk' := isB_true hk
  have hd : decide (300 < (s.size : Int)) = false := by simp; omega
  have t := (perS_least s (by omega)).1
  have t2 := (perS_least s (by omega)).2.1
  have hA := alike s i k hi hk
  cases hc : (cmpS s i k == 0) with
  | true =>
    rw [hc] at hA
    have hA' := hA.symm
    clear hA
    go_enter Try.func7, Try.ntmps7
    go_wp2_with (first | (go_at_call 18; refine (rot_place _ _ _ (by omega)).mono ?_; rintro e w5 ⟨rfl, rfl⟩) | (go_at_call 15; refine (rot_banana _).mono ?_; rintro e w' ⟨rfl, hb⟩) | (go_at_call 26; refine (rot_Compare_yes _ _ _ _ (by omega) hi hk).mono ?_; rintro e w' ⟨rfl, hb⟩) | (go_at_call 17; refine (rot_Period _ _ (by omega)).mono ?_; rintro e w' ⟨rfl, hb⟩))
    go_ret
    exact ⟨rfl, (by repeat (first | exact kr _ | assumption | refine kt ?_ (by assumption) | refine ka ?_ _ | refine kd ?_ _))⟩
  | false =>
    rw [hc] at hA
    have hA' := hA.symm
    clear hA
    go_enter Try.func7, Try.ntmps7
    go_wp2_with (first | (go_at_call 18; refine (rot_place _ _ _ (by omega)).mono ?_; rintro e w5 ⟨rfl, rfl⟩) | (go_at_call 15; refine (rot_banana _).mono ?_; rintro e w' ⟨rfl, hb⟩) | (go_at_call 26; refine (rot_Compare_yes _ _ _ _ (by omega) hi hk).mono ?_; rintro e w' ⟨rfl, hb⟩) | (go_at_call 17; refine (rot_Period _ _ (by omega)).mono ?_; rintro e w' ⟨rfl, hb⟩))
    go_ret
    exact ⟨rfl, (by repeat (first | exact kr _ | assumption | refine kt ?_ (by assumption) | refine ka ?_ _ | refine kd ?_ _))⟩

theorem law_Compares_yes (s : ByteArray) (i k : Int) (w : World) (hs : s.size ≤ 300) (hi : isB s i = true) (hk : isB s k = true) :
    Calls Try.prog 6 #[.string s, .int .i64 i, .int .i64 k] w fun e w' => e = .returned (.bool true) ∧ Below w.heap.size w w' := by
  have hd : decide (300 < (s.size : Int)) = false := by simp; omega
  have hi' := isB_true hi
  have hk' := isB_true hk
  have hL := less_rotS s i k
  have hE : ((rotS s i.toNat).toList == (rotS s k.toNat).toList) = (cmpS s i k == 0) := by
    rw [Bool.eq_iff_iff]; simp only [beq_iff_eq, cmpS_zero, toList_inj]
  have hX : (aheadS s i k == aheadS s i k) = true := by simp
  have hr : cmpS s i k = -1 ∨ cmpS s i k = 0 ∨ cmpS s i k = 1 := cmpL_range _ _
  have c1 : ∀ w, _ := fun w => rot_Rotation_yes s i w (by omega) hi
  have c2 : ∀ w, _ := fun w => ref_Rotation s i w (by omega) hi'.1 (by omega)
  have c3 : ∀ w, _ := fun w => ref_Rotation s k w (by omega) hk'.1 (by omega)
  have c4 : ∀ w, _ := fun w => rot_Compare_yes s i k w (by omega) hi hk
  have c5 : ∀ w, _ := fun w => rot_Ahead s i k w (by omega)
  have c6 : ∀ w, _ := fun w => ref_Ahead s i k w (by omega) hi hk
  clear hi' hk'
  generalize aheadS s i k = A at *
  generalize rotS s i.toNat = a at *
  generalize rotS s k.toNat = b at *
  generalize cmpS s i k = c at *
  have haa : (a.toList == a.toList) = true := by simp
  have C1 := Lib.hid c1
  have C2 := Lib.hid c2
  have C3 := Lib.hid c3
  have C4 := Lib.hid c4
  have C5 := Lib.hid c5
  have C6 := Lib.hid c6
  clear c1 c2 c3 c4 c5 c6
  rcases hr with hr | hr | hr
  all_goals
    subst hr
    have hL' : Op.bytesLess a.toList b.toList = _ := hL
    have hE' : (a.toList == b.toList) = _ := hE
    clear hL hE
    go_enter Try.func6, Try.ntmps6
    go_wp2_with (first | (go_at_call 18; refine (rot_place _ _ _ (by omega)).mono ?_; rintro e w5 ⟨rfl, rfl⟩) | (go_at_call 15; refine (rot_banana _).mono ?_; rintro e w' ⟨rfl, hb⟩) | (go_at_call 24; refine (C5.out _).mono ?_; rintro e w' ⟨rfl, hb⟩) | (go_at_call 25; refine (C1.out _).mono ?_; rintro e w' ⟨rfl, hb⟩) | (go_at_call 26; refine (C4.out _).mono ?_; rintro e w' ⟨rfl, hb⟩) | ((with_reducible (go_at_call 27; refine (C2.out _).mono ?_; rintro e w' ⟨rfl, hb⟩))) | ((with_reducible (go_at_call 27; refine (C3.out _).mono ?_; rintro e w' ⟨rfl, hb⟩))) | (go_at_call 20; refine (C6.out _).mono ?_; rintro e w' ⟨rfl, hb⟩))
    go_ret
    exact ⟨rfl, (by repeat (first | exact kr _ | assumption | refine kt ?_ (by assumption) | refine ka ?_ _ | refine kd ?_ _))⟩

end Go.Proofs.Ytmbmlinbggmipaa

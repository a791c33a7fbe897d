/- Walks of the leaf functions of package rotate: is, from, the closure of from, cmp.Compare at bytes. No conditions beyond the arguments' own ranges. -/
import Derived.Test.YtmbmlinbggmipaaRows
import Derived.Test.YtmbmlinbggmipaaPlain
import Derived.Test.YtmbmlinbggmipaaMem
namespace Go.Proofs.Ytmbmlinbggmipaa
set_option linter.unusedVariables false
set_option linter.unusedSimpArgs false
open Go.RowKit Pl

theorem rot_is (s : ByteArray) (i : Int) (w : World) (hs : s.size ≤ 1099511627776) :
    Calls Try.prog 43 #[.string s, .int .i64 i] w fun e w' => e = .returned (.bool (isB s i)) ∧ w = w' := by
  by_cases h : 0 ≤ i
  · by_cases h2 : i < s.size
    · go_enter Try.func43, Try.ntmps43
      go_wp2
      go_ret
      exact ⟨ret_bool (by simp [isB, h, h2]), rfl⟩
    · go_enter Try.func43, Try.ntmps43
      go_wp2
      go_ret
      exact ⟨ret_bool (by simp [isB, h2]), rfl⟩
  · go_enter Try.func43, Try.ntmps43
    go_wp2
    go_ret
    exact ⟨ret_bool (by simp [isB]; omega), rfl⟩

theorem rot_from (s : ByteArray) (i : Int) (w : World) :
    Calls Try.prog 47 #[.string s, .int .i64 i] w fun e w' => e = .returned (.func (.func 49) #[] #[.pointer (some ⟨w.heap.size + 1, 0, none⟩), .pointer (some ⟨w.heap.size, 0, none⟩)]) ∧
      (w.alloc (.cells #[.string s] 9)).alloc (.cells #[.int .i64 i] 3) = w' := by
  go_enter Try.func47, Try.ntmps47
  go_wp2
  go_ret
  exact ⟨rfl, rfl⟩

theorem rot_isNaN (x : Int) (w : World) :
    Calls Try.prog 50 #[.int .u8 x] w fun e w' => e = .returned (.bool false) ∧ w = w' := by
  go_enter Try.func50, Try.ntmps50
  go_wp2
  go_ret
  exact ⟨by simp, rfl⟩

theorem rot_cmp (x y : Int) (w : World) :
    Calls Try.prog 48 #[.int .u8 x, .int .u8 y] w fun e w' => e = .returned (.int .i64 (cmpI x y)) ∧ w = w' := by
  go_enter Try.func48, Try.ntmps48
  go_wp2_with (first | (go_at_call 50; refine (rot_isNaN _ _).mono ?_; rintro e w' ⟨rfl, rfl⟩))
  all_goals go_ret
  all_goals exact ⟨ret_int (by unfold cmpI; (repeat split) <;> omega), rfl⟩

theorem getD_of_get (s : ByteArray) (j : Nat) (h : j < s.size) : s.data.toList.getD j 0 = s[j] := by
  rw [List.getD_eq_getElem?_getD, List.getElem?_eq_getElem (by simpa using h)]; rfl

theorem rot_from1 (s : ByteArray) (i k : Nat) (w : World) (b1 b2 : Nat) (hs : s.size ≤ 1099511627776) (h2 : i < s.size) (h4 : k < s.size)
    (c1 : w.cell? ⟨b1, 0, none⟩ = some (.int .i64 i)) (c2 : w.cell? ⟨b2, 0, none⟩ = some (.string s)) :
    Calls Try.prog 49 #[.int .i64 k, .pointer (some ⟨b1, 0, none⟩), .pointer (some ⟨b2, 0, none⟩)] w fun e w' => e = .returned (.int .u8 (byteAt s i k)) ∧ w = w' := by
  by_cases h : i + k < s.size
  · go_enter Try.func49, Try.ntmps49
    go_wp2
    go_ret
    refine ⟨ret_int ?_, rfl⟩
    unfold byteAt
    rw [getD_of_get s _ (Nat.mod_lt _ (by omega))]
    simp only [Nat.mod_eq_of_lt h]
  · go_enter Try.func49, Try.ntmps49
    go_wp2
    go_ret
    refine ⟨ret_int ?_, rfl⟩
    unfold byteAt
    have e : (i + k) % s.size = i + k - s.size := by rw [Nat.mod_eq_sub_mod (by omega), Nat.mod_eq_of_lt (by omega)]
    rw [getD_of_get s _ (Nat.mod_lt _ (by omega))]
    simp only [e]


theorem rot_box4 (w : World) (s : ByteArray) (i k : Int) : ∃ W : World,
    (((w.alloc (.cells #[.string s] 9)).alloc (.cells #[.int .i64 i] 3)).alloc (.cells #[.string s] 9)).alloc (.cells #[.int .i64 k] 3) = W ∧
    W.cell? ⟨w.heap.size + 1, 0, none⟩ = some (.int .i64 i) ∧ W.cell? ⟨w.heap.size, 0, none⟩ = some (.string s) ∧
    W.cell? ⟨w.heap.size + 1 + 1 + 1, 0, none⟩ = some (.int .i64 k) ∧ W.cell? ⟨w.heap.size + 1 + 1, 0, none⟩ = some (.string s) ∧ Below w.heap.size w W := by
  refine ⟨_, rfl, ?_, ?_, ?_, ?_, ?_⟩
  · simp [go_sem]
  · simp [go_sem]
  · simp [go_sem]
  · simp [go_sem]
  · exact ((((Below.refl _ _).alloc (Nat.le_refl _) _).alloc (by simp) _).alloc (by simp; omega) _).alloc (by simp; omega) _

theorem rot_compare (s : ByteArray) (i k : Int) (w : World) (hs : s.size ≤ 1099511627776) (hi0 : 0 ≤ i) (hi : i < s.size) (hk0 : 0 ≤ k) (hk : k < s.size) :
    Calls Try.prog 42 #[.string s, .int .i64 i, .int .i64 k] w fun e w' => e = .returned (.int .i64 (cmpL (rotL s.data.toList i.toNat) (rotL s.data.toList k.toNat))) ∧ Below w.heap.size w w' := by
  obtain ⟨i, rfl⟩ := Int.eq_ofNat_of_zero_le hi0
  obtain ⟨k, rfl⟩ := Int.eq_ofNat_of_zero_le hk0
  simp only [Int.toNat_natCast]
  go_enter Try.func42, Try.ntmps42
  go_wp2_with fail
  refine (rot_from _ _ _).mono ?_
  rintro e w' ⟨rfl, rfl⟩
  go_wp2_with fail
  refine (rot_from _ _ _).mono ?_
  rintro e w' ⟨rfl, rfl⟩
  go_wp2_with fail
  obtain ⟨W, hW, c1, c2, c3, c4, hb⟩ := rot_box4 w s i k
  rw [hW]
  clear hW
  go_loop [19] (fun u => ∃ j : Nat, j ≤ s.size ∧ u = .int .i64 j ∧ Hid (cmpL (rotL s.data.toList i) (rotL s.data.toList k) = cmpL ((rotL s.data.toList i).drop j) ((rotL s.data.toList k).drop j))) (fun u => s.size - (intOf u).toNat)
  case atStart => exact ⟨0, Nat.zero_le _, rfl, rfl⟩
  case round =>
    obtain ⟨j, hj, rfl, H⟩ := hrel
    by_cases hlt : j < s.size
    · go_wp2_with fail
      refine (rot_from1 s i j W _ _ hs (by omega) hlt c1 c2).mono ?_
      rintro e w' ⟨rfl, rfl⟩
      go_wp2_with fail
      refine (rot_from1 s k j W _ _ hs (by omega) hlt c3 c4).mono ?_
      rintro e w' ⟨rfl, rfl⟩
      go_wp2_with fail
      refine (rot_cmp _ _ _).mono ?_
      rintro e w' ⟨rfl, rfl⟩
      go_wp2
      · have hc : (cmpI (byteAt s i j) (byteAt s k j) != 0) = true := by assumption
        go_ret
        exact ⟨ret_int (by rw [H.out]; exact (cmpL_stop s i k j (by omega) (by omega) hlt hc).symm), hb⟩
      · have hc : (cmpI (byteAt s i j) (byteAt s k j) != 0) = false := by assumption
        refine ⟨⟨j + 1, by omega, by go_num, ?_⟩, by simp [intOf]; omega⟩
        unfold Hid
        rw [H.out]
        exact cmpL_go s i k j (by omega) (by omega) hlt hc
    · go_wp2
      go_ret
      exact ⟨ret_int (by rw [H.out, List.drop_of_length_le (by simp [length_rotL]; omega)]; rfl), hb⟩

end Go.Proofs.Ytmbmlinbggmipaa

/- Walks of the reference of layer 15. -/
import Derived.Test.YtmbmlinbggmipaaRotC
import Derived.Test.YtmbmlinbggmipaaPlainW
namespace Go.Proofs.Ytmbmlinbggmipaa
set_option linter.unusedVariables false
set_option linter.unusedSimpArgs false
open Go.RowKit Pl

theorem rot_place (s : ByteArray) (i : Int) (w : World) (hs : s.size ≤ 1099511627776) :
    Calls Try.prog 18 #[.string s, .int .i64 i] w fun e w' => e = .returned (.bool (isB s i)) ∧ w = w' := by
  by_cases h : 0 ≤ i
  · by_cases h2 : i < s.size
    · go_enter Try.func18, Try.ntmps18
      go_wp2
      go_ret
      exact ⟨ret_bool (by simp [isB, h, h2]), rfl⟩
    · go_enter Try.func18, Try.ntmps18
      go_wp2
      go_ret
      exact ⟨ret_bool (by simp [isB, h2]), rfl⟩
  · go_enter Try.func18, Try.ntmps18
    go_wp2
    go_ret
    exact ⟨ret_bool (by simp [isB]; omega), rfl⟩

theorem ref_Rotation (s : ByteArray) (i : Int) (w : World) (hs : s.size ≤ 1099511627776) (h : 0 ≤ i) (h2 : i ≤ s.size) :
    Calls Try.prog 27 #[.string s, .int .i64 i] w fun e w' => e = .returned (.string (rotS s i.toNat)) ∧ Below w.heap.size w w' := by
  obtain ⟨i, rfl⟩ := Int.eq_ofNat_of_zero_le h
  simp only [Int.toNat_natCast]
  have h3 : i ≤ s.size := by omega
  go_enter Try.func27, Try.ntmps27
  go_wp2
  go_quiet (fail)
  go_wp2
  go_ret
  exact ⟨rfl, below_drewN (Below.refl _ _) _⟩

theorem ref_Ahead (s : ByteArray) (i k : Int) (w : World) (hs : s.size ≤ 1099511627776) (hi : isB s i = true) (hk : isB s k = true) :
    Calls Try.prog 20 #[.string s, .int .i64 i, .int .i64 k] w fun e w' => e = .returned (.bool (aheadS s i k)) ∧ Below w.heap.size w w' := by
  have hi' := isB_true hi
  have hk' := isB_true hk
  have c1 : ∀ w, _ := fun w => ref_Rotation s i w hs hi'.1 (by omega)
  have c2 : ∀ w, _ := fun w => ref_Rotation s k w hs hk'.1 (by omega)
  have hA : aheadS s i k = (decide (cmpS s i k < 0) || cmpS s i k == 0 && decide (i < k)) := by simp [aheadS, hi, hk]
  have hL := less_rotS s i k
  have hE : decide ((rotS s i.toNat).toList = (rotS s k.toNat).toList) = (cmpS s i k == 0) := by
    rw [Bool.eq_iff_iff]; simp only [decide_eq_true_eq, beq_iff_eq, cmpS_zero, toList_inj]
  rw [hA, ← hL, ← hE]
  clear hA hL hE
  generalize rotS s i.toNat = a at *
  generalize rotS s k.toNat = b at *
  have C1 := Lib.hid c1
  have C2 := Lib.hid c2
  clear c1 c2
  go_enter Try.func20, Try.ntmps20
  go_wp2_with fail
  refine (C1.out _).mono ?_
  rintro e w1 ⟨rfl, hb1⟩
  go_wp2_with fail
  refine (C2.out _).mono ?_
  rintro e w2 ⟨rfl, hb2⟩
  cases h1 : Op.bytesLess a.toList b.toList with
  | true =>
    go_wp2
    go_ret
    exact ⟨ret_bool (by simp [h1]), hb1.trans (hb2.mono hb1.size)⟩
  | false =>
    go_wp2
    · have he : a.toList = b.toList := by assumption
      go_ret
      exact ⟨ret_bool (by rw [h1, he]; simp), hb1.trans (hb2.mono hb1.size)⟩
    · have he : ¬ a.toList = b.toList := by assumption
      go_ret
      exact ⟨ret_bool (by simp [h1, he]), hb1.trans (hb2.mono hb1.size)⟩

theorem ref_Period (s : ByteArray) (w : World) (hs : s.size ≤ 1099511627776) :
    Calls Try.prog 19 #[.string s] w fun e w' => e = .returned (.int .i64 (perS s)) ∧ Below w.heap.size w w' := by
  by_cases h0 : s.size = 0
  · have e : perS s = 0 := by simp [perS, h0]
    rw [e]
    have H0 := Lib.hid h0
    have h1 : s.size < 1 := by omega
    clear h0 e
    go_enter Try.func19, Try.ntmps19
    go_wp2
    go_loop [6] (fun p => p = .int .i64 0) (fun _ => 0)
    case atStart => rfl
    case round =>
      subst hrel
      go_wp2
      all_goals go_ret
      all_goals exact ⟨ret_int (by have := H0.out; omega), Below.refl _ _⟩
  · have e : perS s = perFrom s 1 (s.size - 1) := by simp [perS, h0]
    rw [e]
    clear e
    have h0' : 1 ≤ s.size := by omega
    clear h0
    go_enter Try.func19, Try.ntmps19
    go_wp2
    go_loopw [6] (fun p wr => ∃ k : Nat, k ≤ s.size ∧ p = .int .i64 k ∧ Hid (0 < k → perFrom s 1 (s.size - 1) = perFrom s k (s.size - k)) ∧ Below w.heap.size w wr) (fun p _ => s.size - (intOf p).toNat)
    case atStart => exact ⟨0, by omega, rfl, fun h => absurd h (Nat.lt_irrefl _), Below.refl _ _⟩
    case round =>
      obtain ⟨k, hk, rfl, H, hb⟩ := hrel
      by_cases hlt : k < s.size
      · by_cases hk0 : k = 0
        · have hk1 : k < 1 := by omega
          have hn : Hid (0 < k + 1 → perFrom s 1 (s.size - 1) = perFrom s (k + 1) (s.size - (k + 1))) := by subst hk0; exact fun _ => rfl
          clear hk0
          go_wp2
          exact ⟨⟨k + 1, by omega, by go_num, hn, hb⟩, by simp [intOf]; omega⟩
        · have hk1 : 1 ≤ k := by omega
          have H' := H.out (by omega)
          clear hk0 H
          have hc := ref_Rotation s k wr hs (by omega) (by omega)
          have hz := cmpS_zero s 0 k
          rw [show (0 : Int).toNat = 0 from rfl, rotS_zero] at hz
          have hstep : perFrom s k (s.size - k) = if s.size % k = 0 ∧ cmpS s 0 k = 0 then k else perFrom s (k + 1) (s.size - (k + 1)) := by
            rw [show s.size - k = (s.size - (k + 1)) + 1 by omega]; rfl
          rw [hstep] at H'
          clear hstep
          generalize cmpS s 0 k = c at *
          generalize rotS s (k : Int).toNat = r at *
          have Hc := Lib.hid hc
          have Hz := Lib.hid hz
          have H := Lib.hid H'
          clear hc hz H'
          by_cases hm : s.size % k = 0
          · have hm' : (((s.size : Int) % (k : Int)) == 0) = true := by
              rw [← Int.natCast_emod, hm]; rfl
            have HM := Lib.hid hm
            clear hm
            go_wp2_with (go_at_call 27; refine (Hc.out).mono ?_; rintro e w' ⟨rfl, hb2⟩)
            · have he : r.toList = s.toList := eq_of_beq (by assumption)
              go_ret
              exact ⟨ret_int (by rw [H.out, if_pos ⟨HM.out, Hz.out.2 (toList_inj.1 he).symm⟩]), hb.trans (hb2.mono hb.size)⟩
            · have he : ¬ r.toList = s.toList := ne_of_beq_false (by assumption)
              have hn : Hid (0 < k + 1 → perFrom s 1 (s.size - 1) = perFrom s (k + 1) (s.size - (k + 1))) := by
                intro _
                rw [H.out, if_neg]
                rintro ⟨_, h2⟩
                exact he (toList_inj.2 (Hz.out.1 h2).symm)
              exact ⟨⟨k + 1, by omega, by go_num, hn, hb.trans (hb2.mono hb.size)⟩, by simp [intOf]; omega⟩
          · have hm' : (((s.size : Int) % (k : Int)) == 0) = false := by
              rw [← Int.natCast_emod]; simp only [beq_eq_false_iff_ne, ne_eq]; omega
            have hn : Hid (0 < k + 1 → perFrom s 1 (s.size - 1) = perFrom s (k + 1) (s.size - (k + 1))) := by
              intro _
              rw [H.out, if_neg (by simp [hm])]
            clear hm
            go_wp2
            exact ⟨⟨k + 1, by omega, by go_num, hn, hb⟩, by simp [intOf]; omega⟩
      · go_wp2
        go_ret
        exact ⟨ret_int (by rw [H.out (by omega), show s.size - k = 0 by omega]; simp [perFrom]; omega), hb⟩

end Go.Proofs.Ytmbmlinbggmipaa

/- Walks of the reference of layer 15: rotations, which is ahead, the sorted places. -/
import Derived.Test.YtbakfaihnecmoaaPlainW
import Derived.Test.YtbakfaihnecmoaaBase
import Derived.Test.YtbakfaihnecmoaaPlain4
import Derived.Test.YtbakfaihnecmoaaQ
namespace Go.Proofs.Ytbakfaihnecmoaa
set_option linter.unusedVariables false
set_option linter.unusedSimpArgs false
open Go.RowKit Pl

theorem ref_Rotation (s : ByteArray) (i : Int) (w : World) (hs : s.size ≤ 1099511627776) (h : 0 ≤ i) (h2 : i ≤ s.size) :
    Calls Try.prog 32 #[.string s, .int .i64 i] w fun e w' => e = .returned (.string (rotS s i.toNat)) ∧ Below w.heap.size w w' := by
  obtain ⟨i, rfl⟩ := Int.eq_ofNat_of_zero_le h
  simp only [Int.toNat_natCast]
  have h3 : i ≤ s.size := by omega
  go_enter Try.func32, Try.ntmps32
  go_wp2
  go_quiet (fail)
  go_wp2
  go_ret
  exact ⟨rfl, below_drewN (Below.refl _ _) _⟩

theorem ref_Ahead (s : ByteArray) (i k : Int) (w : World) (hs : s.size ≤ 1099511627776) (hi : isB s i = true) (hk : isB s k = true) :
    Calls Try.prog 44 #[.string s, .int .i64 i, .int .i64 k] w fun e w' => e = .returned (.bool (aheadS s i k)) ∧ Below w.heap.size w w' := by
  have hi' := isB_true hi
  have hk' := isB_true hk
  have c1 : ∀ w, _ := fun w => ref_Rotation s i w hs hi'.1 (by omega)
  have c2 : ∀ w, _ := fun w => ref_Rotation s k w hs hk'.1 (by omega)
  have hA : aheadS s i k = (decide (cmpS s i k < 0) || cmpS s i k == 0 && decide (i < k)) := by simp [aheadS, hi, hk]
  have hL := less_rotS s i k
  have hE : decide ((rotS s i.toNat).toList = (rotS s k.toNat).toList) = (cmpS s i k == 0) := by
    rw [Bool.eq_iff_iff]; simp only [decide_eq_true_eq, beq_iff_eq, cmpS_zero, toList_inj]
  rw [hA, ← hL, ← hE]
  clear hA hL hE
  generalize rotS s i.toNat = a at *
  generalize rotS s k.toNat = b at *
  have C1 := Lib.hid c1
  have C2 := Lib.hid c2
  clear c1 c2
  go_enter Try.func44, Try.ntmps44
  go_wp2_with fail
  refine (C1.out _).mono ?_
  rintro e w1 ⟨rfl, hb1⟩
  go_wp2_with fail
  refine (C2.out _).mono ?_
  rintro e w2 ⟨rfl, hb2⟩
  cases h1 : Op.bytesLess a.toList b.toList with
  | true =>
    go_wp2
    go_ret
    exact ⟨ret_bool (by simp [h1]), hb1.trans (hb2.mono hb1.size)⟩
  | false =>
    go_wp2
    · have he : a.toList = b.toList := by assumption
      go_ret
      exact ⟨ret_bool (by rw [h1, he]; simp), hb1.trans (hb2.mono hb1.size)⟩
    · have he : ¬ a.toList = b.toList := by assumption
      go_ret
      exact ⟨ret_bool (by simp [h1, he]), hb1.trans (hb2.mono hb1.size)⟩

theorem ref_Sorted (s : ByteArray) (w : World) (hs : s.size ≤ 300) :
    Calls Try.prog 18 #[.string s] w fun e w' => (∃ a cap, e = .returned (.slice a s.size cap) ∧ NumsAt .i64 w' a (sortTo s s.size)) ∧ Below w.heap.size w w' := by
  go_enter Try.func18, Try.ntmps18
  go_wp2
  go_loopw [3, 11] (fun v i wr => ∃ k : Nat, ∃ a cap, k ≤ s.size ∧ i = .int .i64 k ∧ v = .slice a k cap ∧ NumsAt .i64 wr a (sortTo s k) ∧ Below w.heap.size w wr) (fun _ i _ => s.size - (intOf i).toNat)
  case atStart => exact ⟨0, none, 0, by omega, rfl, rfl, NumsAt.nil _ _ _, kr _⟩
  case round =>
    obtain ⟨wo, rfl⟩ : ∃ wo : World, wo = wr := ⟨_, rfl⟩
    obtain ⟨k, a, cap, hk, rfl, rfl, hr, hb⟩ := hrel
    by_cases hlt : k < s.size
    · have hlen := sortTo_length s k
      have hpl := places_sortTo s k hk
      have HS : Hid (sortTo s (k + 1) = insAll s k (sortTo s k)) := rfl
      generalize sortTo s k = xs at *
      have HL := Lib.hid hlen
      have HP := Lib.hid hpl
      clear hlen hpl
      go_wp2
      go_loopw [5, 6, 16] (fun v p j w2 => ∃ m : Nat, m ≤ k ∧ j = .int .i64 m ∧ p = .bool (insTo s k xs m).2 ∧ OwnsNums .i64 3 wo.heap.size w2 v (insTo s k xs m).1 ∧ Below wo.heap.size wo w2) (fun _ _ j _ => k - (intOf j).toNat)
      case atStart => exact ⟨0, by omega, rfl, rfl, OwnsNums.nil _ _ _ _, kr _⟩
      case round =>
        obtain ⟨m, hm, rfl, rfl, hown, hb2⟩ := hrel
        by_cases hlt2 : m < k
        · obtain ⟨b, off, rfl, hc⟩ := (hr.below hb2).some (by have := HL.out; omega)
          have c1 := hc m (by have := HL.out; omega)
          have hp1 := HP.out m (by have := HL.out; omega)
          have hst := insTo_succ s k xs m (by have := HL.out; omega)
          have hln := insTo_length s k xs m (by have := HL.out; omega)
          generalize xs.getD m 0 = x at *
          generalize hT : insTo s k xs m = T at *
          clear hc hT
          obtain ⟨nx, pt⟩ := T
          have HST := Lib.hid hst
          clear hst
          have hlen2 : nx.length ≤ 301 := by
            revert hln; dsimp only; split <;> omega
          clear hln
          dsimp only at *
          have hbs := hb2.size
          cases pt with
          | true =>
            have HST2 : Hid (insTo s k xs (m + 1) = (nx ++ [x], true)) := by unfold Hid; rw [HST.out]; rfl
            clear HST
            go_wp2_with (first | (at_builtin; refine app_new1 (w := wr) rfl _ _ 23 3 rfl Try.underlying23 info_int hown rfl rfl (by decide) (by omega) (by omega) ?_; intro v3 w3 own3 be3))
            exact ⟨⟨m + 1, by omega, by go_num, by rw [HST2.out], by rw [HST2.out]; exact own3, hb2.trans be3⟩, by simp [intOf]; omega⟩
          | false =>
            cases ha : aheadS s k x with
            | true =>
              have HST2 : Hid (insTo s k xs (m + 1) = (nx ++ [(k : Int)] ++ [x], true)) := by unfold Hid; rw [HST.out]; simp [insStep, ha]
              clear HST
              go_wp2_with (first | (go_at_call 44; refine (ref_Ahead _ _ _ _ (by omega) (isB_of (by omega) (by omega)) hp1).mono ?_; rintro e w3 ⟨rfl, hb3⟩) | (at_builtin; refine app_new1 (w := w3) rfl _ _ 23 3 rfl Try.underlying23 info_int (hown.below hb3) rfl rfl (by decide) (by omega) (by have := hb3.size; omega) ?_; intro v4 w4 own4 be4) | (at_builtin; refine app_new1 (w := w4) rfl _ _ 23 3 rfl Try.underlying23 info_int own4 rfl rfl (by decide) (by simp; omega) (by have := hb3.size; have := be4.size; omega) ?_; intro v5 w5 own5 be5))
              exact ⟨⟨m + 1, by omega, by go_num, by rw [HST2.out], by rw [HST2.out]; exact own5, ((hb2.trans (hb3.mono hbs)).trans be4).trans be5⟩, by simp [intOf]; omega⟩
            | false =>
              have HST2 : Hid (insTo s k xs (m + 1) = (nx ++ [x], false)) := by unfold Hid; rw [HST.out]; simp [insStep, ha]
              clear HST
              go_wp2_with (first | (go_at_call 44; refine (ref_Ahead _ _ _ _ (by omega) (isB_of (by omega) (by omega)) hp1).mono ?_; rintro e w3 ⟨rfl, hb3⟩) | (at_builtin; refine app_new1 (w := w3) rfl _ _ 23 3 rfl Try.underlying23 info_int (hown.below hb3) rfl rfl (by decide) (by omega) (by have := hb3.size; omega) ?_; intro v4 w4 own4 be4))
              exact ⟨⟨m + 1, by omega, by go_num, by rw [HST2.out], by rw [HST2.out]; exact own4, (hb2.trans (hb3.mono hbs)).trans be4⟩, by simp [intOf]; omega⟩
        · obtain rfl : m = k := by omega
          have hbs := hb2.size
          have hI : insAll s m xs = if (insTo s m xs m).2 then (insTo s m xs m).1 else (insTo s m xs m).1 ++ [(m : Int)] := by
            unfold insAll; rw [HL.out]
          have hln := insTo_length s m xs m (by rw [HL.out]; exact Nat.le_refl _)
          have HI := Lib.hid hI
          clear hI
          generalize insTo s m xs m = T at *
          obtain ⟨nx, pt⟩ := T
          have hlen2 : nx.length ≤ 301 := by
            revert hln; dsimp only; split <;> omega
          clear hln
          dsimp only at *
          cases pt with
          | true =>
            obtain ⟨a', cap', rfl, hr'⟩ := hown.reads
            have hl' : nx.length = m + 1 := by
              have e : sortTo s (m + 1) = nx := by rw [HS.out, HI.out]; rfl
              rw [← e, sortTo_length]
            have HE : Hid (sortTo s (m + 1) = nx) := by unfold Hid; rw [HS.out, HI.out]; rfl
            rw [hl']
            clear hl'
            go_wp2_with fail
            refine ⟨⟨m + 1, a', cap', by omega, by go_num, rfl, by rw [HE.out]; exact hr', kt hb (hb2.mono (Nat.le_refl _))⟩, by simp [intOf]; omega⟩
          | false =>
            have HE : Hid (sortTo s (m + 1) = nx ++ [(m : Int)]) := by unfold Hid; rw [HS.out, HI.out]; rfl
            go_wp2_with (first | (at_builtin; refine app_new1 (w := wr) rfl _ _ 23 3 rfl Try.underlying23 info_int hown rfl rfl (by decide) (by omega) (by omega) ?_; intro v3 w3 own3 be3))
            obtain ⟨a', cap', rfl, hr'⟩ := own3.reads
            refine ⟨⟨m + 1, a', cap', by omega, by go_num, ?_, by rw [HE.out]; exact hr', kt hb ((hb2.trans be3).mono (Nat.le_refl _))⟩, by simp [intOf]; omega⟩
            rw [← HE.out, sortTo_length]
    · obtain rfl : k = s.size := by omega
      go_wp2
      go_ret
      exact ⟨⟨a, cap, rfl, hr⟩, hb⟩

theorem ref_Sorted_of (s : ByteArray) (ys : List Int) (w : World) (hs : s.size ≤ 300) (h : sortTo s s.size = ys) :
    Calls Try.prog 18 #[.string s] w fun e w' => (∃ a cap, e = .returned (.slice a ys.length cap) ∧ NumsAt .i64 w' a ys) ∧ Below w.heap.size w w' := by
  subst h
  rw [sortTo_length]
  exact ref_Sorted s w hs

end Go.Proofs.Ytbakfaihnecmoaa

/- Walks of package rotate: Period, Least, Sorted. -/
import Derived.Test.YtmbmlinbggmipaaRotB
namespace Go.Proofs.Ytmbmlinbggmipaa
set_option linter.unusedVariables false
set_option linter.unusedSimpArgs false
open Go.RowKit Pl

theorem rot_Period (s : ByteArray) (w : World) (hs : s.size ≤ 1099511627776) :
    Calls Try.prog 17 #[.string s] w fun e w' => e = .returned (.int .i64 (perS s)) ∧ Below w.heap.size w w' := by
  by_cases h0 : s.size = 0
  · have e : perS s = 0 := by simp [perS, h0]
    rw [e]
    have H0 := Lib.hid h0
    have h1 : s.size < 1 := by omega
    clear h0 e
    go_enter Try.func17, Try.ntmps17
    go_wp2
    go_loop [3] (fun p => p = .int .i64 1) (fun _ => 0)
    case atStart => rfl
    case round =>
      subst hrel
      go_wp2
      all_goals go_ret
      all_goals exact ⟨ret_int (by have := H0.out; omega), Below.refl _ _⟩
  · have e : perS s = perFrom s 1 (s.size - 1) := by simp [perS, h0]
    rw [e]
    clear e
    have h0' : 1 ≤ s.size := by omega
    clear h0
    go_enter Try.func17, Try.ntmps17
    go_wp2
    go_loopw [3] (fun p wr => ∃ k : Nat, 1 ≤ k ∧ k ≤ s.size ∧ p = .int .i64 k ∧ Hid (perFrom s 1 (s.size - 1) = perFrom s k (s.size - k)) ∧ Below w.heap.size w wr) (fun p _ => s.size - (intOf p).toNat)
    case atStart => exact ⟨1, by omega, by omega, rfl, rfl, Below.refl _ _⟩
    case round =>
      obtain ⟨k, hk1, hk, rfl, H, hb⟩ := hrel
      by_cases hlt : k < s.size
      · have hc := rot_compare s 0 k wr hs (by omega) (by omega) (by omega) (by omega)
        rw [show cmpL (rotL s.data.toList (0 : Int).toNat) (rotL s.data.toList (k : Int).toNat) = cmpS s 0 k from rfl] at hc
        have hstep : perFrom s k (s.size - k) = if s.size % k = 0 ∧ cmpS s 0 k = 0 then k else perFrom s (k + 1) (s.size - (k + 1)) := by
          rw [show s.size - k = (s.size - (k + 1)) + 1 by omega]; rfl
        rw [hstep] at H
        clear hstep
        generalize cmpS s 0 k = c at *
        have Hc := Lib.hid hc
        clear hc
        by_cases hm : s.size % k = 0
        · have hm' : (((s.size : Int) % (k : Int)) == 0) = true := by
            rw [← Int.natCast_emod, hm]; rfl
          by_cases h2 : c = 0
          · subst h2
            rw [if_pos ⟨hm, rfl⟩] at H
            clear hm
            go_wp2_with (go_at_call 42; refine (Hc.out).mono ?_; rintro e w' ⟨rfl, hb2⟩)
            go_ret
            exact ⟨ret_int (by rw [H.out]), hb.trans (hb2.mono hb.size)⟩
          · have h2' : (c == 0) = false := by simpa using h2
            rw [if_neg (by simp [h2])] at H
            clear hm
            go_wp2_with (go_at_call 42; refine (Hc.out).mono ?_; rintro e w' ⟨rfl, hb2⟩)
            exact ⟨⟨k + 1, by omega, by omega, by go_num, H, hb.trans (hb2.mono hb.size)⟩, by simp [intOf]; omega⟩
        · have hm' : (((s.size : Int) % (k : Int)) == 0) = false := by
            rw [← Int.natCast_emod]; simp only [beq_eq_false_iff_ne, ne_eq]; omega
          rw [if_neg (by simp [hm])] at H
          clear hm
          go_wp2
          exact ⟨⟨k + 1, by omega, by omega, by go_num, H, hb⟩, by simp [intOf]; omega⟩
      · go_wp2
        go_ret
        exact ⟨ret_int (by rw [H.out, show s.size - k = 0 by omega]; simp [perFrom]; omega), hb⟩

theorem rot_Least (s : ByteArray) (w : World) (hs : s.size ≤ 1099511627776) :
    Calls Try.prog 16 #[.string s] w fun e w' => e = .returned (.int .i64 (leastS s)) ∧ Below w.heap.size w w' := by
  by_cases h0 : s.size = 0
  · have e : leastS s = -1 := by simp [leastS, h0]
    rw [e]
    have h1 := empty_of s h0
    clear h0 e
    go_enter Try.func16, Try.ntmps16
    go_wp2
    go_ret
    exact ⟨rfl, Below.refl _ _⟩
  · have e : leastS s = leastTo s s.size := by simp [leastS, h0]
    rw [e]
    have h2 : 1 ≤ s.size := by omega
    have h1 := nonempty_of s h2
    clear h0 e
    go_enter Try.func16, Try.ntmps16
    go_wp2
    go_loopw [3, 9] (fun b i wr => ∃ k m : Nat, k ≤ s.size ∧ m < s.size ∧ i = .int .i64 k ∧ b = .int .i64 m ∧ Hid (m = leastTo s k) ∧ Below w.heap.size w wr) (fun _ i _ => s.size - (intOf i).toNat)
    case atStart => exact ⟨0, 0, by omega, by omega, rfl, rfl, rfl, Below.refl _ _⟩
    case round =>
      obtain ⟨k, m, hk, hm, rfl, rfl, H, hb⟩ := hrel
      by_cases hlt : k < s.size
      · have hc := rot_compare s k m wr hs (by omega) (by omega) (by omega) (by omega)
        rw [show cmpL (rotL s.data.toList (k : Int).toNat) (rotL s.data.toList (m : Int).toNat) = cmpS s k m from rfl] at hc
        have hstep : leastTo s (k + 1) = if cmpS s k m < 0 then k else m := by rw [H.out]; rfl
        generalize cmpS s k m = c at *
        have Hc := Lib.hid hc
        have Hs := Lib.hid hstep
        clear hc hstep
        by_cases h2 : c < 0
        · go_wp2_with (go_at_call 42; refine (Hc.out).mono ?_; rintro e w' ⟨rfl, hb2⟩)
          exact ⟨⟨k + 1, k, by omega, by omega, by go_num, rfl, by unfold Hid; rw [Hs.out, if_pos h2], hb.trans (hb2.mono hb.size)⟩, by simp [intOf]; omega⟩
        · go_wp2_with (go_at_call 42; refine (Hc.out).mono ?_; rintro e w' ⟨rfl, hb2⟩)
          exact ⟨⟨k + 1, m, by omega, by omega, by go_num, rfl, by unfold Hid; rw [Hs.out, if_neg (by omega)], hb.trans (hb2.mono hb.size)⟩, by simp [intOf]; omega⟩
      · go_wp2
        go_ret
        exact ⟨ret_int (by rw [H.out, show k = s.size by omega]), hb⟩

theorem rot_Sorted (s : ByteArray) (a : Option Addr) (cap : Nat) (xs : List Int) (w : World) (hs : s.size ≤ 1099511627776) (hx : xs.length ≤ 1099511627776) (hr : NumsAt .i64 w a xs) :
    Calls Try.prog 22 #[.string s, .slice a xs.length cap] w fun e w' => e = .returned (.bool (sortedS s xs)) ∧ Below w.heap.size w w' := by
  go_enter Try.func22, Try.ntmps22
  go_wp2
  go_loopw [9] (fun i wr => ∃ k : Nat, k ≤ xs.length ∧ i = .int .i64 k ∧ Hid (∀ j, j < k → okAt s xs j = true) ∧ Below w.heap.size w wr) (fun i _ => xs.length - (intOf i).toNat)
  case atStart => exact ⟨0, by omega, rfl, fun j hj => absurd hj (Nat.not_lt_zero _), Below.refl _ _⟩
  case round =>
    obtain ⟨k, hk, rfl, H, hb⟩ := hrel
    by_cases hlt : k < xs.length
    · have hr' := hr.below hb
      obtain ⟨b, off, rfl, hc⟩ := hr'.some (by omega)
      have c1 := hc k hlt
      have c2 : 0 < k → wr.cell? ⟨b, off + (k - 1), none⟩ = some (.int .i64 (xs.getD (k - 1) 0)) := fun _ => hc (k - 1) (by omega)
      have hok : Hid (okAt s xs k = (isB s (xs.getD k 0) && (k == 0 || aheadS s (xs.getD (k - 1) 0) (xs.getD k 0)))) := rfl
      generalize xs.getD k 0 = x at *
      generalize xs.getD (k - 1) 0 = y at *
      have Hc := Lib.hid hc
      clear hc hr hr'
      cases h1 : isB s x with
      | false =>
        go_wp2_with (first | (go_at_call 43; refine (rot_is _ _ _ hs).mono ?_; rintro e w' ⟨rfl, rfl⟩))
        go_ret
        exact ⟨ret_bool (sortedS_not s xs k hlt (by rw [hok.out, h1]; rfl)).symm, hb⟩
      | true =>
        by_cases h2 : k = 0
        · have hn : Hid (∀ j, j < k + 1 → okAt s xs j = true) := by
            intro j hj
            obtain rfl : j = k := by omega
            rw [hok.out, h1, h2]; rfl
          have hk0 : k < 1 := by omega
          clear h2
          go_wp2_with (first | (go_at_call 43; refine (rot_is _ _ _ hs).mono ?_; rintro e w' ⟨rfl, rfl⟩))
          exact ⟨⟨k + 1, by omega, by go_num, hn, hb⟩, by simp [intOf]; omega⟩
        · have h2' : 0 < k := by omega
          have c2' := c2 h2'
          clear c2
          cases h3 : aheadS s y x with
          | false =>
            go_wp2_with (first | (go_at_call 43; refine (rot_is _ _ _ hs).mono ?_; rintro e w' ⟨rfl, rfl⟩) | (go_at_call 24; refine (rot_Ahead _ _ _ _ hs).mono ?_; rintro e w' ⟨rfl, hb2⟩))
            go_ret
            exact ⟨ret_bool (sortedS_not s xs k hlt (by rw [hok.out, h1, h3]; simp; omega)).symm, hb.trans (hb2.mono hb.size)⟩
          | true =>
            have hn : Hid (∀ j, j < k + 1 → okAt s xs j = true) := by
              intro j hj
              by_cases hjk : j = k
              · subst hjk; rw [hok.out, h1, h3]; simp
              · exact H.out j (by omega)
            go_wp2_with (first | (go_at_call 43; refine (rot_is _ _ _ hs).mono ?_; rintro e w' ⟨rfl, rfl⟩) | (go_at_call 24; refine (rot_Ahead _ _ _ _ hs).mono ?_; rintro e w' ⟨rfl, hb2⟩))
            exact ⟨⟨k + 1, by omega, by go_num, hn, hb.trans (hb2.mono hb.size)⟩, by simp [intOf]; omega⟩
    · have e := sortedS_yes s xs (fun j hj => H.out j (by omega))
      have E := Lib.hid e
      clear e
      go_wp2
      go_ret
      refine ⟨ret_bool ?_, hb⟩
      rw [E.out]
      exact natCast_beq _ _

end Go.Proofs.Ytmbmlinbggmipaa

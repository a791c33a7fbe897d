/- The walk of the statement LensShare. -/
import Derived.Test.YtapdcejhfooahaaLN
import Derived.Test.YtapdcejhfooahaaLCl
namespace Go.Proofs.Ytapdcejhfooahaa
set_option linter.unusedVariables false
set_option linter.unusedSimpArgs false
open Go.RowKit Hu

theorem law_Share_big (a : Option Addr) (cap : Nat) (xs : List Int) (w : World) (hx : xs.length ≤ 9223372036854775807) (h : 600 < xs.length) :
    Calls Try.prog 4 #[.slice a xs.length cap] w fun e w' => e = .returned (.bool true) ∧ Below w.heap.size w w' := by
  have d1 : decide (600 < (xs.length : Int)) = true := by simp; omega
  have d2 : decide (600 < xs.length) = true := by simp; omega
  go_enter Try.func4, Try.ntmps4
  go_wp2_with (first | (go_at_call 9; refine (l_three _).mono ?_; rintro e w1 ⟨rfl, hb⟩))
  go_ret
  exact ⟨rfl, (by repeat (first | (with_reducible exact kr _) | (with_reducible assumption) | (with_reducible refine kt ?_ (by assumption)) | (with_reducible refine ka ?_ _) | (with_reducible refine kd ?_ _)))⟩

set_option maxHeartbeats 2000000 in
theorem law_Share_bad (a : Option Addr) (cap : Nat) (xs : List Int) (w : World) (hx : xs.length ≤ 600) (hm : 258 < xs.length ∨ mayB xs 0 20 = false) (hr : NumsAt .i64 w a xs) :
    Calls Try.prog 4 #[.slice a xs.length cap] w fun e w' => e = .returned (.bool true) ∧ Below w.heap.size w w' := by
  have d1 : decide (600 < (xs.length : Int)) = false := by simp; omega
  have d2 : decide (600 < xs.length) = false := by simp; omega
  have HS := Lib.hid (l_Share_no a cap xs w (by omega) hm hr)
  have HR := Lib.hid hr
  have HM := Lib.hid hm
  have HL : Hid (lng xs = lngTo xs xs.length) := rfl
  obtain ⟨LG, hLG⟩ : ∃ LG, lng xs = LG := ⟨_, rfl⟩
  have HLG := Lib.hid hLG
  rw [hLG] at HL
  clear hr hLG hm
  go_enter Try.func4, Try.ntmps4
  go_wp2_with (first | (go_at_call 14; refine (HS.out).mono ?_; rintro e w1 ⟨rfl, hb⟩))
  have HR2 := Lib.hid (HR.out.below hb)
  have HLO := Lib.hid (l_Longest a cap xs w1 (by omega) HR2.out)
  have HMA := Lib.hid (l_May a cap xs 0 20 w1 (by omega) HR2.out)
  rw [HLG.out] at HLO
  go_loop [5, 19] (fun v i => ∃ (k : Nat) (m : Int), k ≤ xs.length ∧ i = .int .i64 (k : Nat) ∧ v = .int .i64 m ∧ Hid (m = lngTo xs k)) (fun _ i => xs.length - (intOf i).toNat)
  case atStart => exact ⟨0, 0, Nat.zero_le _, rfl, rfl, rfl⟩
  case round =>
    obtain ⟨k, m, hk, rfl, rfl, hm⟩ := hrel
    by_cases hlt : k < xs.length
    · obtain ⟨b0, off, rfl, hc⟩ := HR2.out.some (by omega)
      have ic := hc k hlt
      obtain ⟨x, hx⟩ : ∃ x, xs.getD k 0 = x := ⟨_, rfl⟩
      rw [hx] at ic
      obtain ⟨m2, hm2⟩ : ∃ m2 : Int, (if m < x then x else m) = m2 := ⟨_, rfl⟩
      have HN : Hid (m2 = lngTo xs (k + 1)) := by unfold Hid; rw [lngTo_next hlt, ← hm.out, hx, hm2]
      clear hc hx
      by_cases hmx : m < x
      · have dm : decide (m < x) = true := decide_eq_true hmx
        rw [if_pos hmx] at hm2
        subst hm2
        go_wp2_with fail
        exact ⟨⟨k + 1, x, by omega, by go_num, rfl, HN⟩, by simp [intOf]; omega⟩
      · have dm : decide (m < x) = false := decide_eq_false hmx
        rw [if_neg hmx] at hm2
        subst hm2
        go_wp2_with fail
        exact ⟨⟨k + 1, m, by omega, by go_num, rfl, HN⟩, by simp [intOf]; omega⟩
    · obtain rfl : k = xs.length := by omega
      have HML : m = LG := by rw [HL.out, hm.out]
      subst HML
      have dne : (m != m) = false := by simp
      have dlt : decide (xs.length < xs.length) = false := by simp
      by_cases h258 : 258 < xs.length
      · have d3 : decide (258 < (xs.length : Int)) = true := by simp; omega
        have d4 : decide (258 < xs.length) = true := by simp; omega
        go_wp2_with (first | (go_at_call 15; refine (HLO.out).mono ?_; rintro e w2 ⟨rfl, rfl⟩) | (go_at_call 9; refine (l_three _).mono ?_; rintro e w3 ⟨rfl, hb3⟩))
        go_ret
        exact ⟨rfl, (by repeat (first | (with_reducible exact kr _) | (with_reducible assumption) | (with_reducible refine kt ?_ (by assumption)) | (with_reducible refine ka ?_ _) | (with_reducible refine kd ?_ _)))⟩
      · have d3 : decide (258 < (xs.length : Int)) = false := by simp; omega
        have d4 : decide (258 < xs.length) = false := by simp; omega
        have HMF : mayB xs 0 20 = false := by
          rcases HM.out with q | q
          · exact absurd q h258
          · exact q
        rw [HMF] at HMA
        clear HMF
        go_wp2_with (first | (go_at_call 15; refine (HLO.out).mono ?_; rintro e w2 ⟨rfl, rfl⟩) | (go_at_call 11; refine (HMA.out).mono ?_; rintro e w2 ⟨rfl, rfl⟩) | (go_at_call 9; refine (l_three _).mono ?_; rintro e w3 ⟨rfl, hb3⟩))
        go_ret
        exact ⟨rfl, (by repeat (first | (with_reducible exact kr _) | (with_reducible assumption) | (with_reducible refine kt ?_ (by assumption)) | (with_reducible refine ka ?_ _) | (with_reducible refine kd ?_ _)))⟩

set_option maxHeartbeats 2000000 in
theorem law_Share_ok (a : Option Addr) (cap : Nat) (xs : List Int) (w : World) (hx : xs.length ≤ 258) (hm : mayB xs 0 20 = true) (hr : NumsAt .i64 w a xs) :
    Calls Try.prog 4 #[.slice a xs.length cap] w fun e w' => e = .returned (.bool true) ∧ Below w.heap.size w w' := by
  have d1 : decide (600 < (xs.length : Int)) = false := by simp; omega
  have d2 : decide (600 < xs.length) = false := by simp; omega
  have HS := Lib.hid (l_Share_ok a cap xs w hx hm hr)
  have HR := Lib.hid hr
  have HM := Lib.hid hm
  have HL : Hid (lng xs = lngTo xs xs.length) := rfl
  obtain ⟨LG, hLG⟩ : ∃ LG, lng xs = LG := ⟨_, rfl⟩
  have HLG := Lib.hid hLG
  obtain ⟨SH, hSH⟩ : ∃ SH, shr xs = SH := ⟨_, rfl⟩
  have HSH := Lib.hid hSH
  rw [hLG] at HL
  rw [hSH] at HS
  clear hr hLG hm hSH
  go_enter Try.func4, Try.ntmps4
  go_wp2_with (first | (go_at_call 14; refine (HS.out).mono ?_; rintro e w1 ⟨rfl, hb⟩))
  have HR2 := Lib.hid (HR.out.below hb)
  have HLO := Lib.hid (l_Longest a cap xs w1 (by omega) HR2.out)
  have HMA := Lib.hid (l_May a cap xs 0 20 w1 (by omega) HR2.out)
  have HRS := Lib.hid (l_RShare a cap xs w1 hx HM.out HR2.out)
  rw [HLG.out] at HLO
  rw [HM.out] at HMA
  rw [HSH.out] at HRS
  go_loop [5, 19] (fun v i => ∃ (k : Nat) (m : Int), k ≤ xs.length ∧ i = .int .i64 (k : Nat) ∧ v = .int .i64 m ∧ Hid (m = lngTo xs k)) (fun _ i => xs.length - (intOf i).toNat)
  case atStart => exact ⟨0, 0, Nat.zero_le _, rfl, rfl, rfl⟩
  case round =>
    obtain ⟨k, m, hk, rfl, rfl, hm⟩ := hrel
    by_cases hlt : k < xs.length
    · obtain ⟨b0, off, rfl, hc⟩ := HR2.out.some (by omega)
      have ic := hc k hlt
      obtain ⟨x, hx⟩ : ∃ x, xs.getD k 0 = x := ⟨_, rfl⟩
      rw [hx] at ic
      obtain ⟨m2, hm2⟩ : ∃ m2 : Int, (if m < x then x else m) = m2 := ⟨_, rfl⟩
      have HN : Hid (m2 = lngTo xs (k + 1)) := by unfold Hid; rw [lngTo_next hlt, ← hm.out, hx, hm2]
      clear hc hx
      by_cases hmx : m < x
      · have dm : decide (m < x) = true := decide_eq_true hmx
        rw [if_pos hmx] at hm2
        subst hm2
        go_wp2_with fail
        exact ⟨⟨k + 1, x, by omega, by go_num, rfl, HN⟩, by simp [intOf]; omega⟩
      · have dm : decide (m < x) = false := decide_eq_false hmx
        rw [if_neg hmx] at hm2
        subst hm2
        go_wp2_with fail
        exact ⟨⟨k + 1, m, by omega, by go_num, rfl, HN⟩, by simp [intOf]; omega⟩
    · obtain rfl : k = xs.length := by omega
      have HML : m = LG := by rw [HL.out, hm.out]
      subst HML
      have dne : (m != m) = false := by simp
      have dlt : decide (xs.length < xs.length) = false := by simp
      have d3 : decide (258 < (xs.length : Int)) = false := by simp; omega
      have d4 : decide (258 < xs.length) = false := by simp; omega
      have deq : (SH == SH) = true := by simp
      go_wp2_with (first | (go_at_call 15; refine (HLO.out).mono ?_; rintro e w2 ⟨rfl, rfl⟩) | (go_at_call 11; refine (HMA.out).mono ?_; rintro e w2 ⟨rfl, rfl⟩) | (go_at_call 16; refine (HRS.out).mono ?_; rintro e w2 ⟨rfl, rfl⟩) | (go_at_call 9; refine (l_three _).mono ?_; rintro e w3 ⟨rfl, hb3⟩))
      go_ret
      exact ⟨rfl, (by repeat (first | (with_reducible exact kr _) | (with_reducible assumption) | (with_reducible refine kt ?_ (by assumption)) | (with_reducible refine ka ?_ _) | (with_reducible refine kd ?_ _)))⟩

end Go.Proofs.Ytapdcejhfooahaa

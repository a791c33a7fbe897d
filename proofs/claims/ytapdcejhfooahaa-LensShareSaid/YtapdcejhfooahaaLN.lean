/- Small walks of layer 9: Longest, May, Share and the reference's. -/
import Derived.Test.YtapdcejhfooahaaLA
namespace Go.Proofs.Ytapdcejhfooahaa
set_option linter.unusedVariables false
set_option linter.unusedSimpArgs false
open Go.RowKit Hu

def lngTo (xs : List Int) (k : Nat) : Int := (xs.take k).foldl (fun n x => if n < x then x else n) 0
def lng (xs : List Int) : Int := lngTo xs xs.length
theorem take_snoc {α : Type} (xs : List α) (d : α) {k : Nat} (h : k < xs.length) : xs.take (k + 1) = xs.take k ++ [xs.getD k d] := by
  rw [List.take_add_one, List.getElem?_eq_getElem h, List.getD_eq_getElem?_getD, List.getElem?_eq_getElem h]
  rfl
theorem lngTo_next {xs : List Int} {k : Nat} (h : k < xs.length) : lngTo xs (k + 1) = if lngTo xs k < xs.getD k 0 then xs.getD k 0 else lngTo xs k := by
  unfold lngTo
  rw [take_snoc xs 0 h, List.foldl_append]
  rfl
theorem l_Longest (a : Option Addr) (cap : Nat) (xs : List Int) (w : World) (hx : xs.length ≤ 1099511627776) (hr : NumsAt .i64 w a xs) :
    Calls Try.prog 15 #[.slice a xs.length cap] w fun e w' => e = .returned (.int .i64 (lng xs)) ∧ w = w' := by
  have HR := Lib.hid hr
  have HL : Hid (lng xs = lngTo xs xs.length) := rfl
  obtain ⟨L, hL⟩ : ∃ L, lng xs = L := ⟨_, rfl⟩
  rw [hL] at HL ⊢
  clear hr hL
  go_enter Try.func15, Try.ntmps15
  go_wp2_with fail
  go_loop [3, 8] (fun v i => ∃ (k : Nat) (m : Int), k ≤ xs.length ∧ i = .int .i64 (k : Nat) ∧ v = .int .i64 m ∧ Hid (m = lngTo xs k)) (fun _ i => xs.length - (intOf i).toNat)
  case atStart => exact ⟨0, 0, Nat.zero_le _, rfl, rfl, rfl⟩
  case round =>
    obtain ⟨k, m, hk, rfl, rfl, hm⟩ := hrel
    by_cases hlt : k < xs.length
    · obtain ⟨b0, off, rfl, hc⟩ := HR.out.some (by omega)
      have ic := hc k hlt
      obtain ⟨x, hx⟩ : ∃ x, xs.getD k 0 = x := ⟨_, rfl⟩
      rw [hx] at ic
      obtain ⟨m2, hm2⟩ : ∃ m2 : Int, (if m < x then x else m) = m2 := ⟨_, rfl⟩
      have HN : Hid (m2 = lngTo xs (k + 1)) := by unfold Hid; rw [lngTo_next hlt, ← hm.out, hx, hm2]
      clear hc hx
      go_wp2_with fail
      exact ⟨⟨k + 1, m2, by omega, by go_num, rfl, HN⟩, by simp [intOf]; omega⟩
    · obtain rfl : k = xs.length := by omega
      have HM : Hid (m = L) := by unfold Hid; rw [HL.out, hm.out]
      go_wp2_with fail
      go_ret
      exact ⟨ret_int HM.out, rfl⟩

theorem l_May (a : Option Addr) (cap : Nat) (xs : List Int) (lo hi : Int) (w : World) (hx : xs.length ≤ 1099511627776) (hr : NumsAt .i64 w a xs) :
    Calls Try.prog 11 #[.slice a xs.length cap, .int .i64 lo, .int .i64 hi] w fun e w' => e = .returned (.bool (mayB xs lo hi)) ∧ w = w' := by
  have HR := Lib.hid hr
  clear hr
  obtain ⟨B, hB⟩ : ∃ B, mayB xs lo hi = B := ⟨_, rfl⟩
  rw [hB]
  have HB := Lib.hid hB
  clear hB
  go_enter Try.func11, Try.ntmps11
  go_wp2_with fail
  go_loop [11] (fun i => ∃ (k : Nat), k ≤ xs.length ∧ i = .int .i64 (k : Nat) ∧ Hid (∀ j, j < k → outB lo hi (xs.getD j 0) = false)) (fun i => xs.length - (intOf i).toNat)
  case atStart => exact ⟨0, Nat.zero_le _, rfl, fun j hj => absurd hj (Nat.not_lt_zero _)⟩
  case round =>
    obtain ⟨k, hk, rfl, hm⟩ := hrel
    by_cases hlt : k < xs.length
    · obtain ⟨b0, off, rfl, hc⟩ := HR.out.some (by omega)
      have ic := hc k hlt
      obtain ⟨x, hx⟩ : ∃ x, xs.getD k 0 = x := ⟨_, rfl⟩
      rw [hx] at ic
      cases ho : outB lo hi x with
      | true =>
        have HM : Hid (false = B) := by
          unfold Hid
          rw [← HB.out, eq_comm, Bool.eq_false_iff]
          intro h
          rw [may_true] at h
          rw [← hx, h k hlt] at ho
          cases ho
        clear hc hx
        unfold outB at ho
        by_cases h1 : x < lo
        · have d1 : decide (x < lo) = true := by simpa using h1
          clear ho
          go_wp2_with fail
          go_ret
          exact ⟨ret_bool HM.out, rfl⟩
        · have d1 : decide (x < lo) = false := by simpa using h1
          have d2 : decide (hi < x) = true := by rw [d1] at ho; simpa using ho
          clear ho
          go_wp2_with fail
          go_ret
          exact ⟨ret_bool HM.out, rfl⟩
      | false =>
        have HN : Hid (∀ j, j < k + 1 → outB lo hi (xs.getD j 0) = false) := fun j hj => by
          by_cases e : j = k
          · rw [e, hx]; exact ho
          · exact hm.out j (by omega)
        clear hc hx
        unfold outB at ho
        rw [Bool.or_eq_false_iff] at ho
        obtain ⟨d1, d2⟩ := ho
        have n1 : ¬ x < lo := by simpa using d1
        have n2 : ¬ hi < x := by simpa using d2
        go_wp2_with fail
        exact ⟨⟨k + 1, by omega, by go_num, HN⟩, by simp [intOf]; omega⟩
    · obtain rfl : k = xs.length := by omega
      have HM : Hid (true = B) := by unfold Hid; rw [← HB.out]; exact (may_true.2 hm.out).symm
      go_wp2_with fail
      go_ret
      exact ⟨ret_bool HM.out, rfl⟩

def shrTo (xs : List Int) (k : Nat) : Int := (xs.take k).foldl (fun n x => n + 2 ^ (20 - x).toNat) 0
def shr (xs : List Int) : Int := shrTo xs xs.length
theorem shrTo_next {xs : List Int} {k : Nat} (h : k < xs.length) : shrTo xs (k + 1) = shrTo xs k + 2 ^ (20 - xs.getD k 0).toNat := by
  unfold shrTo
  rw [take_snoc xs 0 h, List.foldl_append]
  rfl
theorem pow_20 {p : Nat} (h : p ≤ 20) : (1 : Int) ≤ 2 ^ p ∧ (2 : Int) ^ p ≤ 1048576 := by
  have h1 : (2 : Nat) ^ p ≤ 2 ^ 20 := Nat.pow_le_pow_right (by omega) h
  have h2 : 1 ≤ (2 : Nat) ^ p := Nat.one_le_two_pow
  have h3 : ((2 : Int) ^ p) = ((2 ^ p : Nat) : Int) := by simp
  rw [h3]
  omega
theorem may_in {xs : List Int} {lo hi : Int} (h : mayB xs lo hi = true) {k : Nat} (hk : k < xs.length) : lo ≤ xs.getD k 0 ∧ xs.getD k 0 ≤ hi := by
  have := may_true.1 h k hk
  unfold outB at this
  generalize xs.getD k 0 = x at *
  rw [Bool.or_eq_false_iff, decide_eq_false_iff_not, decide_eq_false_iff_not] at this
  omega
set_option maxHeartbeats 1000000 in
theorem l_Share_ok (a : Option Addr) (cap : Nat) (xs : List Int) (w : World) (hx : xs.length ≤ 258) (hm : mayB xs 0 20 = true) (hr : NumsAt .i64 w a xs) :
    Calls Try.prog 14 #[.slice a xs.length cap] w fun e w' => e = .returned (.tuple #[.int .i64 (shr xs), .int .i64 0]) ∧ Below w.heap.size w w' := by
  have HB := l_between a cap xs 0 20 w (by omega) hr
  rw [hm] at HB
  have HB := Lib.hid HB
  have HR := Lib.hid hr
  have HM := Lib.hid hm
  have HL : Hid (shr xs = shrTo xs xs.length) := rfl
  obtain ⟨L, hL⟩ : ∃ L, shr xs = L := ⟨_, rfl⟩
  rw [hL] at HL ⊢
  have d1 : decide (258 < (xs.length : Int)) = false := by simp; omega
  have d2 : decide (258 < xs.length) = false := by simp; omega
  clear hr hm hL
  go_enter Try.func14, Try.ntmps14
  go_wp2_with (first | (go_at_call 21; refine (HB.out).mono ?_; rintro e w1 ⟨rfl, hb⟩))
  have HR2 := Lib.hid (HR.out.below hb)
  go_loop [4, 17] (fun v i => ∃ (k : Nat) (m : Int), k ≤ xs.length ∧ i = .int .i64 (k : Nat) ∧ v = .int .i64 m ∧ 0 ≤ m ∧ m ≤ 1048576 * k ∧ Hid (m = shrTo xs k)) (fun _ i => xs.length - (intOf i).toNat)
  case atStart => exact ⟨0, 0, Nat.zero_le _, rfl, rfl, by omega, by omega, rfl⟩
  case round =>
    obtain ⟨k, m, hk, rfl, rfl, hm0, hm1, hm⟩ := hrel
    by_cases hlt : k < xs.length
    · obtain ⟨b0, off, rfl, hc⟩ := HR2.out.some (by omega)
      have ic := hc k hlt
      have hin := may_in HM.out hlt
      obtain ⟨x, hx⟩ : ∃ x, xs.getD k 0 = x := ⟨_, rfl⟩
      rw [hx] at ic hin
      obtain ⟨p, hp⟩ : ∃ p : Nat, (20 - x).toNat = p := ⟨_, rfl⟩
      have hpw := pow_20 (p := p) (by omega)
      obtain ⟨q, hq⟩ : ∃ q : Int, (2 : Int) ^ p = q := ⟨_, rfl⟩
      have HN : Hid (m + q = shrTo xs (k + 1)) := by unfold Hid; rw [shrTo_next hlt, ← hm.out, hx, hp, hq]
      rw [hq] at hpw
      have hin1 := hin.1
      have hin2 := hin.2
      clear hc hx hin
      go_wp2_with fail
      exact ⟨⟨k + 1, m + q, by omega, by go_num, rfl, by omega, by omega, HN⟩, by simp [intOf]; omega⟩
    · obtain rfl : k = xs.length := by omega
      have HM : Hid (m = L) := by unfold Hid; rw [HL.out, hm.out]
      go_wp2_with fail
      go_ret2
      refine ⟨?_, hb⟩
      rw [HM.out]; rfl

theorem l_Share_no (a : Option Addr) (cap : Nat) (xs : List Int) (w : World) (hx : xs.length ≤ 1099511627776) (hm : 258 < xs.length ∨ mayB xs 0 20 = false) (hr : NumsAt .i64 w a xs) :
    Calls Try.prog 14 #[.slice a xs.length cap] w fun e w' => e = .returned (.tuple #[.int .i64 0, .int .i64 1]) ∧ Below w.heap.size w w' := by
  by_cases h : 258 < xs.length
  · have d1 : decide (258 < (xs.length : Int)) = true := by simp; omega
    have d2 : decide (258 < xs.length) = true := by simp; omega
    have hk : Below w.heap.size w w := kr _
    clear hr hm
    go_enter Try.func14, Try.ntmps14
    go_wp2_with fail
    go_ret2
    exact ⟨rfl, hk⟩
  · have hm : mayB xs 0 20 = false := by
      rcases hm with h1 | h1
      · exact absurd h1 h
      · exact h1
    have HB := l_between a cap xs 0 20 w (by omega) hr
    rw [hm] at HB
    have HB := Lib.hid HB
    have d1 : decide (258 < (xs.length : Int)) = false := by simp; omega
    have d2 : decide (258 < xs.length) = false := by simp; omega
    clear hr hm
    go_enter Try.func14, Try.ntmps14
    go_wp2_with (first | (go_at_call 21; refine (HB.out).mono ?_; rintro e w1 ⟨rfl, hb⟩))
    go_ret2
    exact ⟨rfl, hb⟩

set_option maxHeartbeats 1000000 in
theorem l_RShare (a : Option Addr) (cap : Nat) (xs : List Int) (w : World) (hx : xs.length ≤ 258) (hm : mayB xs 0 20 = true) (hr : NumsAt .i64 w a xs) :
    Calls Try.prog 16 #[.slice a xs.length cap] w fun e w' => e = .returned (.int .i64 (shr xs)) ∧ w = w' := by
  have HR2 := Lib.hid hr
  have HM := Lib.hid hm
  have HL : Hid (shr xs = shrTo xs xs.length) := rfl
  obtain ⟨L, hL⟩ : ∃ L, shr xs = L := ⟨_, rfl⟩
  rw [hL] at HL ⊢
  clear hr hm hL
  go_enter Try.func16, Try.ntmps16
  go_wp2_with fail
  go_loop [3, 9] (fun v i => ∃ (k : Nat) (m : Int), k ≤ xs.length ∧ i = .int .i64 (k : Nat) ∧ v = .int .i64 m ∧ 0 ≤ m ∧ m ≤ 1048576 * k ∧ Hid (m = shrTo xs k)) (fun _ i => xs.length - (intOf i).toNat)
  case atStart => exact ⟨0, 0, Nat.zero_le _, rfl, rfl, by omega, by omega, rfl⟩
  case round =>
    obtain ⟨k, m, hk, rfl, rfl, hm0, hm1, hm⟩ := hrel
    by_cases hlt : k < xs.length
    · obtain ⟨b0, off, rfl, hc⟩ := HR2.out.some (by omega)
      have ic := hc k hlt
      have hin := may_in HM.out hlt
      obtain ⟨x, hx⟩ : ∃ x, xs.getD k 0 = x := ⟨_, rfl⟩
      rw [hx] at ic hin
      obtain ⟨p, hp⟩ : ∃ p : Nat, (20 - x).toNat = p := ⟨_, rfl⟩
      have hp20 : p ≤ 20 := by omega
      have HPX : Hid ((20 : Int) - x = (p : Nat)) := by unfold Hid; omega
      have hpx := HPX.out
      have HN : Hid (m + 2 ^ p = shrTo xs (k + 1)) := by unfold Hid; rw [shrTo_next hlt, ← hm.out, hx, hp]
      clear hc hx hin hp
      go_wp2_with fail
      go_loop [6, 15] (fun v i => ∃ (j : Nat) (q : Int), j ≤ p ∧ i = .int .i64 (j : Nat) ∧ v = .int .i64 q ∧ 1 ≤ q ∧ q ≤ 1048576 ∧ Hid (q = 2 ^ j)) (fun _ i => p - (intOf i).toNat)
      case atStart => exact ⟨0, 1, Nat.zero_le _, rfl, rfl, by omega, by omega, rfl⟩
      case round =>
        obtain ⟨j, q, hj, rfl, rfl, hq0, hq1, hq⟩ := hrel
        by_cases hjp : j < p
        · have hpw := pow_20 (p := j + 1) (by omega)
          have hq2 : (2 : Int) ^ (j + 1) = 2 * q := by rw [hq.out, Int.pow_succ]; omega
          have HN2 : Hid (2 * q = 2 ^ (j + 1)) := hq2.symm
          rw [hq2] at hpw
          have hpw2 := hpw.2
          clear hpw hq2
          go_wp2_with fail
          exact ⟨⟨j + 1, 2 * q, by omega, by go_num, rfl, by omega, by omega, HN2⟩, by simp [intOf]; omega⟩
        · obtain rfl : j = p := by omega
          have HN2 : Hid (m + q = shrTo xs (k + 1)) := by unfold Hid; rw [hq.out]; exact HN.out
          go_wp2_with fail
          exact ⟨⟨k + 1, m + q, by omega, by go_num, rfl, by omega, by omega, HN2⟩, by simp [intOf]; omega⟩
    · obtain rfl : k = xs.length := by omega
      have HM : Hid (m = L) := by unfold Hid; rw [HL.out, hm.out]
      go_wp2_with fail
      go_ret
      exact ⟨ret_int HM.out, rfl⟩

end Go.Proofs.Ytapdcejhfooahaa

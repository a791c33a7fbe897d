/- The statements BwtBytes and BwtTurns. -/
import Derived.Test.YtbakfaihnecmoaaBJ
namespace Go.Proofs.Ytbakfaihnecmoaa
set_option linter.unusedVariables false
set_option linter.unusedSimpArgs false
open Go.RowKit Sp Pl

theorem cntL_snoc (c : Int) (l : List UInt8) (k : Nat) (h : k < l.length) : cntL c (l.take (k + 1)) = cntL c (l.take k) + if ((l[k].toNat : Nat) : Int) == c then 1 else 0 := by
  unfold cntL
  rw [List.take_succ_eq_append_getElem h, List.countP_append, List.countP_singleton]
theorem r_counted (s : ByteArray) (c : Int) (w : World) (hs : s.size ≤ 1000) : Calls Try.prog 31 #[.string s, .int .u8 c] w fun e w' => e = .returned (.int .i64 (cntL c s.data.toList : Nat)) ∧ w = w' := by
  go_enter Try.func31, Try.ntmps31
  go_wp2
  go_loop [5, 9] (fun n i => ∃ k m : Nat, k ≤ s.size ∧ m ≤ k ∧ i = .int .i64 (k : Nat) ∧ n = .int .i64 (m : Nat) ∧ Hid (m = cntL c (s.data.toList.take k))) (fun _ i => s.size - (intOf i).toNat)
  case atStart => exact ⟨0, 0, Nat.zero_le _, Nat.le_refl _, rfl, rfl, rfl⟩
  case round =>
    obtain ⟨k, m, hk, hmk, rfl, rfl, hm⟩ := hrel
    by_cases hlt : k < s.size
    · have hl := size_list' s
      have hsn := cntL_snoc c s.data.toList k (by omega)
      have hgk : s.data.toList[k]'(by omega) = s[k] := rfl
      rw [hgk, ← hm.out] at hsn
      have hlk := UInt8.toNat_lt s[k]
      cases hc : (((s[k].toNat : Nat) : Int) == c) with
      | true =>
        rw [hc] at hsn
        have HS : Hid (m + 1 = cntL c (s.data.toList.take (k + 1))) := by unfold Hid; rw [hsn]; rfl
        clear hsn hgk hl
        go_wp2
        go_round
        case rel => exact ⟨k + 1, m + 1, by omega, by omega, by go_num, by go_num, HS⟩
        case measure => simp [intOf]; omega
      | false =>
        rw [hc] at hsn
        have HS : Hid (m = cntL c (s.data.toList.take (k + 1))) := by unfold Hid; rw [hsn]; rfl
        clear hsn hgk hl
        go_wp2
        go_round
        case rel => exact ⟨k + 1, m, by omega, by omega, by go_num, rfl, HS⟩
        case measure => simp [intOf]; omega
    · obtain rfl : k = s.size := by omega
      have HS : Hid (cntL c s.data.toList = m) := by
        unfold Hid
        rw [hm.out, List.take_of_length_le (by rw [size_list']; exact Nat.le_refl _)]
      go_wp2
      go_ret
      exact ⟨ret_int (by rw [HS.out]), rfl⟩

theorem law_BBytes (s : ByteArray) (c : Int) (w : World) (hm : s.size ≤ maxLen) : Calls Try.prog 9 #[.string s, .int .u8 c] w fun e w' => e = .returned (.bool true) ∧ Below w.heap.size w w' := by
  unfold maxLen at hm
  by_cases h : 300 < s.size
  · have hd : decide (300 < (s.size : Int)) = true := by simp; omega
    go_enter Try.func9, Try.ntmps9
    go_wp2_with (first | (go_at_call 28; refine (turn_banana _).mono ?_; rintro e w5 ⟨rfl, hb⟩))
    go_ret
    exact ⟨rfl, hb⟩
  · have hd : decide (300 < (s.size : Int)) = false := by simp; omega
    by_cases h0 : s.size = 0
    · obtain rfl := empty_is h0
      go_enter Try.func9, Try.ntmps9
      go_wp2_with (first | (go_at_call 28; refine (turn_banana _).mono ?_; rintro e w5 ⟨rfl, hb⟩))
      go_ret
      exact ⟨rfl, hb⟩
    · have he := nonempty_of s (by omega)
      have he2 : ¬ s.toList = [] := by intro e; rw [e] at he; cases he
      have hsz := last_size s
      have hct := last_cnt s (by omega) c
      have hol := orig_lt s (by omega)
      obtain ⟨L, hL⟩ : ∃ L, lastStr s = L := ⟨_, rfl⟩
      obtain ⟨o, ho⟩ : ∃ o, origTo s s.size = o := ⟨_, rfl⟩
      have H1 := Lib.hid (b_Of s w (by omega) (by omega) L o hL ho)
      rw [hL] at hsz hct
      rw [ho] at hol
      have H2 := Lib.hid (fun w => r_counted L c w (by omega))
      have H3 := Lib.hid (fun w => r_counted s c w (by omega))
      rw [hct] at H2
      generalize cntL c s.data.toList = n at *
      have hq : ((L.size : Int) == (s.size : Int)) = true := by rw [hsz]; simp
      have hqn : (L.size == s.size) = true := by rw [hsz]; simp
      have q2 : decide ((o : Int) < (s.size : Int)) = true := by simp; omega
      have q3 : decide (o < s.size) = true := by simp; omega
      have HZ := Lib.hid hsz
      have hLl : L.size ≤ 300 := by omega
      clear hL ho hct hsz
      go_enter Try.func9, Try.ntmps9
      go_wp2_with fail
      refine H1.out.mono ?_
      rintro e w1 ⟨rfl, hb1⟩
      go_wp2_with fail
      refine (H2.out _).mono ?_
      rintro e w2 ⟨rfl, rfl⟩
      go_wp2_with fail
      refine (H3.out _).mono ?_
      rintro e w2 ⟨rfl, rfl⟩
      go_wp2_with (first | (go_at_call 28; refine (turn_banana _).mono ?_; rintro e w5 ⟨rfl, hb⟩))
      go_ret
      exact ⟨rfl, kt hb1 hb⟩

theorem law_BTurns_big (s : ByteArray) (i : Int) (w : World) (hm : s.size ≤ maxLen) (h : 100 < s.size ∨ s.size ≤ 100 ∧ i < 0 ∨ s.size ≤ 100 ∧ 0 ≤ i ∧ (s.size : Int) ≤ i) : Calls Try.prog 10 #[.string s, .int .i64 i] w fun e w' => e = .returned (.bool true) ∧ Below w.heap.size w w' := by
  unfold maxLen at hm
  rcases h with h | ⟨h, h2⟩ | ⟨h, h2, h3⟩
  · have hd : decide (100 < (s.size : Int)) = true := by simp; omega
    go_enter Try.func10, Try.ntmps10
    go_wp2_with (first | (go_at_call 28; refine (turn_banana _).mono ?_; rintro e w5 ⟨rfl, hb⟩))
    go_ret
    exact ⟨rfl, hb⟩
  · have hd : decide (100 < (s.size : Int)) = false := by simp; omega
    have hd2 : decide (i < 0) = true := by simpa using h2
    go_enter Try.func10, Try.ntmps10
    go_wp2_with (first | (go_at_call 28; refine (turn_banana _).mono ?_; rintro e w5 ⟨rfl, hb⟩))
    go_ret
    exact ⟨rfl, hb⟩
  · have hd : decide (100 < (s.size : Int)) = false := by simp; omega
    have hd2 : decide (i < 0) = false := by simp; omega
    have hd3 : decide ((s.size : Int) ≤ i) = true := by simpa using h3
    go_enter Try.func10, Try.ntmps10
    go_wp2_with (first | (go_at_call 28; refine (turn_banana _).mono ?_; rintro e w5 ⟨rfl, hb⟩))
    go_ret
    exact ⟨rfl, hb⟩
theorem law_BTurns (s : ByteArray) (i : Nat) (w : World) (hs : s.size ≤ 100) (hi : i < s.size) : Calls Try.prog 10 #[.string s, .int .i64 (i : Nat)] w fun e w' => e = .returned (.bool true) ∧ Below w.heap.size w w' := by
  have hd : decide (100 < (s.size : Int)) = false := by simp; omega
  have hd2 : decide ((i : Int) < 0) = false := by simp
  have hd3 : decide ((s.size : Int) ≤ (i : Int)) = false := by simp; omega
  have hd4 : decide (s.size ≤ i) = false := by simp; omega
  have hlt := last_turn s i hi
  have hz := rotS_size s i
  have H2 := Lib.hid (fun w => ref_Rotation s (i : Nat) w (by omega) (by omega) (by omega))
  simp only [Int.toNat_natCast] at H2
  obtain ⟨L, hL⟩ : ∃ L, lastStr s = L := ⟨_, rfl⟩
  obtain ⟨o, ho⟩ : ∃ o, origTo s s.size = o := ⟨_, rfl⟩
  obtain ⟨o2, ho2⟩ : ∃ o2, origTo (rotS s i) (rotS s i).size = o2 := ⟨_, rfl⟩
  have H1 := Lib.hid (b_Of s w (by omega) (by omega) L o hL ho)
  have H3 := Lib.hid (fun w => b_Of (rotS s i) w (by rw [hz]; omega) (by rw [hz]; omega) L o2 (hlt.trans hL) ho2)
  clear hL ho ho2 hlt hz
  generalize rotS s i = R at *
  go_enter Try.func10, Try.ntmps10
  go_wp2_with fail
  refine H1.out.mono ?_
  rintro e w1 ⟨rfl, hb1⟩
  go_wp2_with fail
  refine (H2.out _).mono ?_
  rintro e w2 ⟨rfl, hb2⟩
  go_wp2_with fail
  refine (H3.out _).mono ?_
  rintro e w3 ⟨rfl, hb3⟩
  go_wp2_with (first | (go_at_call 28; refine (turn_banana _).mono ?_; rintro e w5 ⟨rfl, hb⟩))
  go_ret
  exact ⟨rfl, kt (kt (kt hb1 hb2) hb3) hb⟩

end Go.Proofs.Ytbakfaihnecmoaa

/- Walks of the statements of layer 7. -/
import Derived.Test.YtmbmlinbggmipaaZF
import Derived.Test.YtmbmlinbggmipaaZP2
import Derived.Test.YtmbmlinbggmipaaPlainW
namespace Go.Proofs.Ytmbmlinbggmipaa
set_option linter.unusedVariables false
set_option linter.unusedSimpArgs false
open Go.RowKit Zp

theorem z_Encode (a : Option Addr) (cap : Nat) (xs : List Int) (n : Int) (w : World) (hx : xs.length ≤ 1000000) (hr : NumsAt .i64 w a xs) :
    Calls Try.prog 29 #[.slice a xs.length cap, .int .i64 n] w fun e w' => ResOut w (encN xs n) e w' := by
  unfold encN
  cases h : mayB n with
  | true => rw [if_pos (by simpa [mayB] using h)]; exact z_Encode_yes a cap xs n w h hx hr
  | false => rw [if_neg (by simpa [mayB] using h)]; exact z_Encode_no a cap xs n w h
theorem zref_Encode (a : Option Addr) (cap : Nat) (xs : List Int) (n : Int) (w : World) (hx : xs.length ≤ 1000000) (hr : NumsAt .i64 w a xs) :
    Calls Try.prog 30 #[.slice a xs.length cap, .int .i64 n] w fun e w' => ResOut w (encN xs n) e w' := by
  unfold encN
  cases h : mayB n with
  | true => rw [if_pos (by simpa [mayB] using h)]; exact zref_Encode_yes a cap xs n w h hx hr
  | false => rw [if_neg (by simpa [mayB] using h)]; exact zref_Encode_no a cap xs n w h
theorem z_Decode (a : Option Addr) (cap : Nat) (xs : List Int) (n most : Int) (w : World) (hx : xs.length ≤ 1000000) (hr : NumsAt .i64 w a xs) :
    Calls Try.prog 37 #[.slice a xs.length cap, .int .i64 n, .int .i64 most] w fun e w' => ResOut w (decN xs n most) e w' := by
  unfold decN
  cases h : mayB n with
  | true =>
    have h' : 1 ≤ n ∧ n ≤ 256 := by simpa [mayB] using h
    by_cases h2 : 0 ≤ most ∧ most ≤ 1099511627776
    · rw [if_pos (by omega)]; exact z_Decode_yes a cap xs n most w h h2.1 h2.2 hx hr
    · rw [if_neg (by omega)]; exact z_Decode_no a cap xs n most w (.inr ⟨h, by omega⟩)
  | false =>
    have h' : ¬ (1 ≤ n ∧ n ≤ 256) := by simpa [mayB] using h
    rw [if_neg (by omega)]; exact z_Decode_no a cap xs n most w (.inl h)
theorem zref_Decode (a : Option Addr) (cap : Nat) (xs : List Int) (n most : Int) (w : World) (hx : xs.length ≤ 1000) (hr : NumsAt .i64 w a xs) :
    Calls Try.prog 38 #[.slice a xs.length cap, .int .i64 n, .int .i64 most] w fun e w' => ResOut w (decN xs n most) e w' := by
  rw [decN_eq]
  unfold decRN
  by_cases h : 1 ≤ n ∧ n ≤ 256 ∧ 0 ≤ most ∧ most ≤ 1099511627776
  · rw [if_pos h]; exact zref_Decode_yes a cap xs n most w h.1 h.2.1 h.2.2.1 h.2.2.2 hx hr
  · rw [if_neg h]; exact zref_Decode_no a cap xs n most w (by omega)

theorem four1 : encN [0, 0, 0, 0, 2] 3 = .ok [1, 0, 3, 4] := by rfl
theorem four2 : decN [1, 0, 3, 4] 3 5 = .ok [0, 0, 0, 0, 2] := by rfl
theorem four3 : decN [1, 0, 3, 4] 3 4 = .error 2 := by rfl

theorem z_four (w : World) : Calls Try.prog 28 #[] w fun e w' => e = .returned (.bool true) ∧ Below w.heap.size w w' := by
  go_enter Try.func28, Try.ntmps28
  go_wp2_with fail
  refine (z_Encode _ _ [0, 0, 0, 0, 2] _ _ (by decide) (NumsAt.new _ _ _ _ _ rfl)).mono ?_
  rw [four1]
  rintro e w1 ⟨⟨a1, c1, rfl, hr1⟩, hb1⟩
  go_wp2_with fail
  refine (z_Decode _ _ [1, 0, 3, 4] _ _ _ (by decide) (NumsAt.new _ _ _ _ _ rfl)).mono ?_
  rw [four2]
  rintro e w2 ⟨⟨a2, c2, rfl, hr2⟩, hb2⟩
  go_wp2_with fail
  refine (z_Decode _ _ [1, 0, 3, 4] _ _ _ (by decide) (NumsAt.new _ _ _ _ _ rfl)).mono ?_
  rw [four3]
  rintro e w3 ⟨rfl, hb3⟩
  go_wp2_with fail
  refine (plain_Ints _ _ _ _ [1, 0, 3, 4] [1, 0, 3, 4] _ (by decide) (((hr1.below (ka (kr _) _)).below hb2).below (ka (kr _) _) |>.below hb3 |>.below (ka (kr _) _)) (NumsAt.new _ _ _ _ _ rfl)).mono ?_
  rintro e w4 ⟨rfl, hb4⟩
  rw [show (([1, 0, 3, 4] : List Int) == [1, 0, 3, 4]) = true by rfl]
  go_wp2_with fail
  refine (plain_Ints _ _ _ _ [0, 0, 0, 0, 2] [0, 0, 0, 0, 2] _ (by decide) ((hr2.below (ka (kr _) _)).below hb3 |>.below (ka (kr _) _) |>.below hb4 |>.below (ka (kr _) _)) (NumsAt.new _ _ _ _ _ rfl)).mono ?_
  rintro e w5 ⟨rfl, hb5⟩
  rw [show (([0, 0, 0, 0, 2] : List Int) == [0, 0, 0, 0, 2]) = true by rfl]
  go_wp2
  go_ret
  exact ⟨rfl, kt (ka (kt (ka (kt (ka (kt (ka (kt (ka (kr _) _) hb1) _) hb2) _) hb3) _) hb4) _) hb5⟩

theorem z_Put_nil (code : Int) (w : World) : Calls Try.prog 32 #[.pointer none, .int .i64 code] w fun e w' => e = .returned (.tuple #[.int .i64 0, .int .i64 0, .int .i64 7]) ∧ w = w' := by
  go_enter Try.func32, Try.ntmps32
  go_wp2
  go_ret3
  exact ⟨rfl, rfl⟩

theorem law_Nil (code : Int) (w : World) : Calls Try.prog 13 #[.int .i64 code] w fun e w' => e = .returned (.bool true) ∧ Below w.heap.size w w' := by
  go_enter Try.func13, Try.ntmps13
  go_wp2_with (first | (go_at_call 32; refine (z_Put_nil _ _).mono ?_; rintro e w1 ⟨rfl, rfl⟩) | (go_at_call 34; refine (z_Done_nil _).mono ?_; rintro e w1 ⟨rfl, rfl⟩) | (go_at_call 35; refine (z_Count_nil _).mono ?_; rintro e w1 ⟨rfl, rfl⟩) | (go_at_call 28; refine (z_four _).mono ?_; rintro e w1 ⟨rfl, hb⟩))
  go_ret
  exact ⟨rfl, (by repeat (first | (with_reducible exact kr _) | (with_reducible assumption) | (with_reducible refine kt ?_ (by assumption)) | (with_reducible refine ka ?_ _) | (with_reducible refine kd ?_ _)))⟩

theorem law_Row_no (m : Int) (w : World) (h : m < 1 ∨ 1 ≤ m ∧ 1099511627776 < m) : Calls Try.prog 14 #[.int .i64 m] w fun e w' => e = .returned (.bool true) ∧ Below w.heap.size w w' := by
  have h' : m < 1 ∨ 1099511627776 < m := by omega
  have HN : Hid (∀ w, Calls Try.prog 39 #[.int .i64 m] w fun e w' => e = .returned (.tuple #[.slice none 0 0, .int .i64 1]) ∧ w = w') := fun w => z_Row_no m w h'
  clear h'
  rcases h with h | ⟨h, h2⟩
  · have hd : decide (m < 1) = true := by simpa using h
    go_enter Try.func14, Try.ntmps14
    go_wp2_with (first | (go_at_call 39; refine (HN.out _).mono ?_; rintro e w1 ⟨rfl, rfl⟩) | (go_at_call 28; refine (z_four _).mono ?_; rintro e w1 ⟨rfl, hb⟩))
    go_ret
    exact ⟨rfl, (by repeat (first | (with_reducible exact kr _) | (with_reducible assumption) | (with_reducible refine kt ?_ (by assumption)) | (with_reducible refine ka ?_ _) | (with_reducible refine kd ?_ _)))⟩
  · have hd : decide (m < 1) = false := by simp; omega
    have hd2 : decide (1099511627776 < m) = true := by simpa using h2
    go_enter Try.func14, Try.ntmps14
    go_wp2_with (first | (go_at_call 39; refine (HN.out _).mono ?_; rintro e w1 ⟨rfl, rfl⟩) | (go_at_call 28; refine (z_four _).mono ?_; rintro e w1 ⟨rfl, hb⟩))
    go_ret
    exact ⟨rfl, (by repeat (first | (with_reducible exact kr _) | (with_reducible assumption) | (with_reducible refine kt ?_ (by assumption)) | (with_reducible refine ka ?_ _) | (with_reducible refine kd ?_ _)))⟩

theorem law_Row (m : Int) (w : World) (h1 : 1 ≤ m) (h2 : m ≤ 1099511627776) : Calls Try.prog 14 #[.int .i64 m] w fun e w' => e = .returned (.bool true) ∧ Below w.heap.size w w' := by
  obtain ⟨m, rfl⟩ := Int.eq_ofNat_of_zero_le (show 0 ≤ m by omega)
  have hd : decide ((m : Int) < 1) = false := by simp; omega
  have hd2 : decide (1099511627776 < (m : Int)) = false := by simp; omega
  have hl := rowN_length m
  have HR : Hid (∀ w, Calls Try.prog 39 #[.int .i64 m] w fun e w' => RowOut w (rowN m) e w') := fun w => by have := z_Row m w h1 h2; rwa [Int.toNat_natCast] at this
  have HQ : Hid (∀ w, Calls Try.prog 40 #[.int .i64 m] w fun e w' => IntsOut w (rowN m) e w') := fun w => zref_Row m (by omega) w
  have HV : Hid (∀ a cap w, NumsAt .i64 w a (rowN m) → Calls Try.prog 41 #[.slice a (rowN m).length cap] w fun e w' => e = .returned (.int .i64 m) ∧ w = w') := fun a cap w hr => by
    have := zref_Value a cap (rowN m) w (by omega) hr (rowN_codes m)
    rwa [valN_rowN m (by omega)] at this
  generalize rowN m = xs at *
  have hxx : (xs == xs) = true := by simp
  go_enter Try.func14, Try.ntmps14
  go_wp2_with fail
  refine (HR.out _).mono ?_
  rintro e w1 ⟨⟨a1, c1, rfl, hr1⟩, hb1⟩
  go_wp2_with fail
  refine (HQ.out _).mono ?_
  rintro e w2 ⟨⟨a2, c2, rfl, hr2⟩, hb2⟩
  go_wp2_with fail
  refine (plain_Ints _ _ _ _ xs xs _ (by omega) (hr1.below hb2) hr2).mono ?_
  rintro e w3 ⟨rfl, hb3⟩
  go_wp2_with fail
  refine (HV.out _ _ _ (hr1.below hb2 |>.below hb3)).mono ?_
  rintro e w4 ⟨rfl, rfl⟩
  go_wp2_with (first | (go_at_call 28; refine (z_four _).mono ?_; rintro e w5 ⟨rfl, hb⟩))
  go_ret
  exact ⟨rfl, (by repeat (first | (with_reducible exact kr _) | (with_reducible assumption) | (with_reducible refine kt ?_ (by assumption)) | (with_reducible refine ka ?_ _) | (with_reducible refine kd ?_ _)))⟩

theorem law_Encodes_big (a : Option Addr) (cap : Nat) (xs : List Int) (n : Int) (w : World) (hm : xs.length ≤ maxLen) (h : 300 < xs.length) :
    Calls Try.prog 8 #[.slice a xs.length cap, .int .i64 n] w fun e w' => e = .returned (.bool true) ∧ Below w.heap.size w w' := by
  unfold maxLen at hm
  go_enter Try.func8, Try.ntmps8
  go_wp2_with (first | (go_at_call 28; refine (z_four _).mono ?_; rintro e w1 ⟨rfl, hb⟩))
  go_ret
  exact ⟨rfl, (by repeat (first | (with_reducible exact kr _) | (with_reducible assumption) | (with_reducible refine kt ?_ (by assumption)) | (with_reducible refine ka ?_ _) | (with_reducible refine kd ?_ _)))⟩

theorem ints_nil (w : World) : Calls Try.prog 23 #[.slice none 0 0, .slice none 0 0] w fun e w' => e = .returned (.bool true) ∧ Below w.heap.size w w' :=
  plain_Ints none none 0 0 [] [] w (by simp) (NumsAt.nil _ _ _) (NumsAt.nil _ _ _)

theorem encGo_len (n : Int) : ∀ (l : List Int) (z : Nat) (out r : List Int), encGo n l z out = .ok r → r.length ≤ out.length + z + l.length + 1
  | [], z, out, r, h => by
    simp only [encGo] at h
    cases h
    have := rowN_length z
    simp; omega
  | p :: ps, z, out, r, h => by
    simp only [encGo] at h
    split at h
    · cases h
    · split at h
      · have := encGo_len n ps _ _ _ h; simp; omega
      · have := encGo_len n ps _ _ _ h
        have := rowN_length z
        simp at *; omega
theorem encN_len (l : List Int) (n : Int) (r : List Int) (h : encN l n = .ok r) : r.length ≤ l.length + 1 := by
  unfold encN at h
  split at h
  · have := encGo_len n l 0 [] r h; simpa using this
  · cases h

theorem law_Encodes (a : Option Addr) (cap : Nat) (xs : List Int) (n : Int) (w : World) (h : xs.length ≤ 300) (hr : NumsAt .i64 w a xs) :
    Calls Try.prog 8 #[.slice a xs.length cap, .int .i64 n] w fun e w' => e = .returned (.bool true) ∧ Below w.heap.size w w' := by
  have HE : Hid (∀ w, NumsAt .i64 w a xs → Calls Try.prog 29 #[.slice a xs.length cap, .int .i64 n] w fun e w' => ResOut w (encN xs n) e w') := fun w hr => z_Encode a cap xs n w (by omega) hr
  have HF : Hid (∀ w, NumsAt .i64 w a xs → Calls Try.prog 30 #[.slice a xs.length cap, .int .i64 n] w fun e w' => ResOut w (encN xs n) e w') := fun w hr => zref_Encode a cap xs n w (by omega) hr
  have hlen := encN_len xs n
  cases hq : encN xs n with
  | error c =>
    rw [hq] at HE HF
    have hcc : (c == c) = true := by simp
    clear hq hlen
    go_enter Try.func8, Try.ntmps8
    go_wp2_with (first | (go_at_call 29; refine (HE.out _ hr).mono ?_; rintro e w1 ⟨rfl, hb1⟩) | (go_at_call 30; refine (HF.out _ (hr.below hb1)).mono ?_; rintro e w2 ⟨rfl, hb2⟩) | (go_at_call 23; refine (ints_nil _).mono ?_; rintro e w3 ⟨rfl, hb3⟩) | (go_at_call 28; refine (z_four _).mono ?_; rintro e w5 ⟨rfl, hb⟩))
    go_ret
    exact ⟨rfl, (by repeat (first | (with_reducible exact kr _) | (with_reducible assumption) | (with_reducible refine kt ?_ (by assumption)) | (with_reducible refine ka ?_ _) | (with_reducible refine kd ?_ _)))⟩
  | ok ys =>
    rw [hq] at HE HF
    have hl := hlen ys hq
    have hyy : (ys == ys) = true := by simp
    clear hq hlen
    go_enter Try.func8, Try.ntmps8
    go_wp2_with (first | (go_at_call 29; refine (HE.out _ hr).mono ?_; rintro e w1 ⟨⟨a1, c1, rfl, hr1⟩, hb1⟩) | (go_at_call 30; refine (HF.out _ (hr.below hb1)).mono ?_; rintro e w2 ⟨⟨a2, c2, rfl, hr2⟩, hb2⟩) | (go_at_call 23; refine (plain_Ints _ _ _ _ ys ys _ (by omega) (hr1.below hb2) hr2).mono ?_; rintro e w3 ⟨rfl, hb3⟩) | (go_at_call 28; refine (z_four _).mono ?_; rintro e w5 ⟨rfl, hb⟩))
    go_ret
    exact ⟨rfl, (by repeat (first | (with_reducible exact kr _) | (with_reducible assumption) | (with_reducible refine kt ?_ (by assumption)) | (with_reducible refine ka ?_ _) | (with_reducible refine kd ?_ _)))⟩

end Go.Proofs.Ytmbmlinbggmipaa

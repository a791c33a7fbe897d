/- Walks of the statements of layer 7: ZerosDecodes, ZerosBack, ZerosForth. -/
import Derived.Test.YtmbmlinbggmipaaZL
import Derived.Test.YtmbmlinbggmipaaZP3
namespace Go.Proofs.Ytmbmlinbggmipaa
set_option linter.unusedVariables false
set_option linter.unusedSimpArgs false
open Go.RowKit Zp

theorem law_Decodes_out (a : Option Addr) (cap : Nat) (xs : List Int) (n most : Int) (w : World) (hm : xs.length ≤ maxLen) (h : 100 < xs.length ∨ xs.length ≤ 100 ∧ 3000 < most ∧ most ≤ 1099511627776) :
    Calls Try.prog 10 #[.slice a xs.length cap, .int .i64 n, .int .i64 most] w fun e w' => e = .returned (.bool true) ∧ Below w.heap.size w w' := by
  unfold maxLen at hm
  rcases h with h | ⟨h, h2, h3⟩
  · have hd : decide (100 < (xs.length : Int)) = true := by simp; omega
    go_enter Try.func10, Try.ntmps10
    go_wp2_with (first | (go_at_call 28; refine (z_four _).mono ?_; rintro e w1 ⟨rfl, hb⟩))
    go_ret
    exact ⟨rfl, (by repeat (first | (with_reducible exact kr _) | (with_reducible assumption) | (with_reducible refine kt ?_ (by assumption)) | (with_reducible refine ka ?_ _) | (with_reducible refine kd ?_ _)))⟩
  · have hd : decide (100 < (xs.length : Int)) = false := by simp; omega
    have hd2 : decide (3000 < most) = true := by simpa using h2
    have hd3 : decide (most ≤ 1099511627776) = true := by simpa using h3
    go_enter Try.func10, Try.ntmps10
    go_wp2_with (first | (go_at_call 28; refine (z_four _).mono ?_; rintro e w1 ⟨rfl, hb⟩))
    go_ret
    exact ⟨rfl, (by repeat (first | (with_reducible exact kr _) | (with_reducible assumption) | (with_reducible refine kt ?_ (by assumption)) | (with_reducible refine ka ?_ _) | (with_reducible refine kd ?_ _)))⟩

theorem decN_big (l : List Int) (n most : Int) (h : 1099511627776 < most) : decN l n most = .error 1 := by
  unfold decN; rw [if_neg (by omega)]

theorem law_Decodes (a : Option Addr) (cap : Nat) (xs : List Int) (n most : Int) (w : World) (h : xs.length ≤ 100) (h2 : most ≤ 3000 ∨ 3000 < most ∧ 1099511627776 < most) (hr : NumsAt .i64 w a xs) :
    Calls Try.prog 10 #[.slice a xs.length cap, .int .i64 n, .int .i64 most] w fun e w' => e = .returned (.bool true) ∧ Below w.heap.size w w' := by
  have HE : Hid (∀ w, NumsAt .i64 w a xs → Calls Try.prog 37 #[.slice a xs.length cap, .int .i64 n, .int .i64 most] w fun e w' => ResOut w (decN xs n most) e w') := fun w hr => z_Decode a cap xs n most w (by omega) hr
  have HF : Hid (∀ w, NumsAt .i64 w a xs → Calls Try.prog 38 #[.slice a xs.length cap, .int .i64 n, .int .i64 most] w fun e w' => ResOut w (decN xs n most) e w') := fun w hr => zref_Decode a cap xs n most w (by omega) hr
  have hd : decide (100 < (xs.length : Int)) = false := by simp; omega
  have hlen := decN_len xs n most
  have hbig := decN_big xs n most
  rcases h2 with h2 | ⟨h2, h3⟩
  · have hd2 : decide (3000 < most) = false := by simpa using h2
    cases hq : decN xs n most with
    | error c =>
      rw [hq] at HE HF
      have hcc : (c == c) = true := by simp
      clear hq hlen hbig
      go_enter Try.func10, Try.ntmps10
      go_wp2_with (first | (go_at_call 37; refine (HE.out _ hr).mono ?_; rintro e w1 ⟨rfl, hb1⟩) | (go_at_call 38; refine (HF.out _ (hr.below hb1)).mono ?_; rintro e w2 ⟨rfl, hb2⟩) | (go_at_call 23; refine (ints_nil _).mono ?_; rintro e w3 ⟨rfl, hb3⟩) | (go_at_call 28; refine (z_four _).mono ?_; rintro e w5 ⟨rfl, hb⟩))
      go_ret
      exact ⟨rfl, (by repeat (first | (with_reducible exact kr _) | (with_reducible assumption) | (with_reducible refine kt ?_ (by assumption)) | (with_reducible refine ka ?_ _) | (with_reducible refine kd ?_ _)))⟩
    | ok ys =>
      rw [hq] at HE HF
      have hl := hlen ys hq
      have hyy : (ys == ys) = true := by simp
      clear hq hlen hbig
      go_enter Try.func10, Try.ntmps10
      go_wp2_with (first | (go_at_call 37; refine (HE.out _ hr).mono ?_; rintro e w1 ⟨⟨a1, c1, rfl, hr1⟩, hb1⟩) | (go_at_call 38; refine (HF.out _ (hr.below hb1)).mono ?_; rintro e w2 ⟨⟨a2, c2, rfl, hr2⟩, hb2⟩) | (go_at_call 23; refine (plain_Ints _ _ _ _ ys ys _ (by omega) (hr1.below hb2) hr2).mono ?_; rintro e w3 ⟨rfl, hb3⟩) | (go_at_call 28; refine (z_four _).mono ?_; rintro e w5 ⟨rfl, hb⟩))
      go_ret
      exact ⟨rfl, (by repeat (first | (with_reducible exact kr _) | (with_reducible assumption) | (with_reducible refine kt ?_ (by assumption)) | (with_reducible refine ka ?_ _) | (with_reducible refine kd ?_ _)))⟩
  · have hd2 : decide (3000 < most) = true := by simpa using h2
    have hd3 : decide (most ≤ 1099511627776) = false := by simp; omega
    have hq := hbig h3
    rw [hq] at HE HF
    clear hq hlen hbig
    go_enter Try.func10, Try.ntmps10
    go_wp2_with (first | (go_at_call 37; refine (HE.out _ hr).mono ?_; rintro e w1 ⟨rfl, hb1⟩) | (go_at_call 38; refine (HF.out _ (hr.below hb1)).mono ?_; rintro e w2 ⟨rfl, hb2⟩) | (go_at_call 23; refine (ints_nil _).mono ?_; rintro e w3 ⟨rfl, hb3⟩) | (go_at_call 28; refine (z_four _).mono ?_; rintro e w5 ⟨rfl, hb⟩))
    go_ret
    exact ⟨rfl, (by repeat (first | (with_reducible exact kr _) | (with_reducible assumption) | (with_reducible refine kt ?_ (by assumption)) | (with_reducible refine ka ?_ _) | (with_reducible refine kd ?_ _)))⟩

theorem encN_err (l : List Int) (n c : Int) (h : encN l n = .error c) : c = 1 := by
  unfold encN at h
  split at h
  · by_cases hv : ∀ p ∈ l, 0 ≤ p ∧ p < n
    · rw [encGo_T n l 0 [] hv] at h; cases h
    · rw [encGo_err n l 0 [] hv] at h; cases h; rfl
  · cases h; rfl

theorem law_Back_big (a : Option Addr) (cap : Nat) (xs : List Int) (n : Int) (w : World) (hm : xs.length ≤ maxLen) (h : 300 < xs.length) :
    Calls Try.prog 11 #[.slice a xs.length cap, .int .i64 n] w fun e w' => e = .returned (.bool true) ∧ Below w.heap.size w w' := by
  unfold maxLen at hm
  go_enter Try.func11, Try.ntmps11
  go_wp2_with (first | (go_at_call 28; refine (z_four _).mono ?_; rintro e w1 ⟨rfl, hb⟩))
  go_ret
  exact ⟨rfl, (by repeat (first | (with_reducible exact kr _) | (with_reducible assumption) | (with_reducible refine kt ?_ (by assumption)) | (with_reducible refine ka ?_ _) | (with_reducible refine kd ?_ _)))⟩

theorem law_Back (a : Option Addr) (cap : Nat) (xs : List Int) (n : Int) (w : World) (h : xs.length ≤ 300) (hr : NumsAt .i64 w a xs) :
    Calls Try.prog 11 #[.slice a xs.length cap, .int .i64 n] w fun e w' => e = .returned (.bool true) ∧ Below w.heap.size w w' := by
  have HE : Hid (∀ w, NumsAt .i64 w a xs → Calls Try.prog 29 #[.slice a xs.length cap, .int .i64 n] w fun e w' => ResOut w (encN xs n) e w') := fun w hr => z_Encode a cap xs n w (by omega) hr
  have HF : Hid (∀ w, NumsAt .i64 w a xs → Calls Try.prog 30 #[.slice a xs.length cap, .int .i64 n] w fun e w' => ResOut w (encN xs n) e w') := fun w hr => zref_Encode a cap xs n w (by omega) hr
  have hlen := encN_len xs n
  have hback := back xs n
  have herr := encN_err xs n
  cases hq : encN xs n with
  | error c =>
    obtain rfl := herr c hq
    rw [hq] at HE HF
    clear hq hlen hback herr
    go_enter Try.func11, Try.ntmps11
    go_wp2_with (first | (go_at_call 29; refine (HE.out _ hr).mono ?_; rintro e w1 ⟨rfl, hb1⟩) | (go_at_call 30; refine (HF.out _ (hr.below hb1)).mono ?_; rintro e w2 ⟨rfl, hb2⟩) | (go_at_call 28; refine (z_four _).mono ?_; rintro e w5 ⟨rfl, hb⟩))
    go_ret
    exact ⟨rfl, (by repeat (first | (with_reducible exact kr _) | (with_reducible assumption) | (with_reducible refine kt ?_ (by assumption)) | (with_reducible refine ka ?_ _) | (with_reducible refine kd ?_ _)))⟩
  | ok ys =>
    rw [hq] at HE HF
    have hl := hlen ys hq
    have hbk : decN ys n xs.length = .ok xs := by
      rcases hback ys hq with h1 | h1
      · exact h1
      · omega
    have HD : Hid (∀ a cap w, NumsAt .i64 w a ys → Calls Try.prog 37 #[.slice a ys.length cap, .int .i64 n, .int .i64 xs.length] w fun e w' => ResOut w (.ok xs) e w') := fun a cap w hr => by
      rw [← hbk]; exact z_Decode a cap ys n xs.length w (by omega) hr
    have hxx : (xs == xs) = true := by simp
    have hdl : decide ((ys.length : Int) ≤ (xs.length : Int) + 1) = true := by simp; omega
    clear hq hlen hback hbk herr
    go_enter Try.func11, Try.ntmps11
    go_wp2_with (first | (go_at_call 29; refine (HE.out _ hr).mono ?_; rintro e w1 ⟨⟨a1, c1, rfl, hr1⟩, hb1⟩) | (go_at_call 37; refine (HD.out _ _ _ hr1).mono ?_; rintro e w2 ⟨⟨a2, c2, rfl, hr2⟩, hb2⟩) | (go_at_call 23; refine (plain_Ints _ _ _ _ xs xs _ (by omega) hr2 ((hr.below hb1).below hb2)).mono ?_; rintro e w3 ⟨rfl, hb3⟩) | (go_at_call 28; refine (z_four _).mono ?_; rintro e w5 ⟨rfl, hb⟩))
    go_ret
    exact ⟨rfl, (by repeat (first | (with_reducible exact kr _) | (with_reducible assumption) | (with_reducible refine kt ?_ (by assumption)) | (with_reducible refine ka ?_ _) | (with_reducible refine kd ?_ _)))⟩

theorem law_Forth_out (a : Option Addr) (cap : Nat) (xs : List Int) (n : Int) (w : World) (hm : xs.length ≤ maxLen) (h : 100 < xs.length ∨ xs.length ≤ 100 ∧ n < 1 ∨ xs.length ≤ 100 ∧ 1 ≤ n ∧ 256 < n) :
    Calls Try.prog 12 #[.slice a xs.length cap, .int .i64 n] w fun e w' => e = .returned (.bool true) ∧ Below w.heap.size w w' := by
  unfold maxLen at hm
  rcases h with h | ⟨h, h2⟩ | ⟨h, h2, h3⟩
  · have hd : decide (100 < (xs.length : Int)) = true := by simp; omega
    go_enter Try.func12, Try.ntmps12
    go_wp2_with (first | (go_at_call 28; refine (z_four _).mono ?_; rintro e w1 ⟨rfl, hb⟩))
    go_ret
    exact ⟨rfl, (by repeat (first | (with_reducible exact kr _) | (with_reducible assumption) | (with_reducible refine kt ?_ (by assumption)) | (with_reducible refine ka ?_ _) | (with_reducible refine kd ?_ _)))⟩
  · have hd : decide (100 < (xs.length : Int)) = false := by simp; omega
    have hd2 : decide (n < 1) = true := by simpa using h2
    go_enter Try.func12, Try.ntmps12
    go_wp2_with (first | (go_at_call 28; refine (z_four _).mono ?_; rintro e w1 ⟨rfl, hb⟩))
    go_ret
    exact ⟨rfl, (by repeat (first | (with_reducible exact kr _) | (with_reducible assumption) | (with_reducible refine kt ?_ (by assumption)) | (with_reducible refine ka ?_ _) | (with_reducible refine kd ?_ _)))⟩
  · have hd : decide (100 < (xs.length : Int)) = false := by simp; omega
    have hd2 : decide (n < 1) = false := by simp; omega
    have hd3 : decide (256 < n) = true := by simpa using h3
    go_enter Try.func12, Try.ntmps12
    go_wp2_with (first | (go_at_call 28; refine (z_four _).mono ?_; rintro e w1 ⟨rfl, hb⟩))
    go_ret
    exact ⟨rfl, (by repeat (first | (with_reducible exact kr _) | (with_reducible assumption) | (with_reducible refine kt ?_ (by assumption)) | (with_reducible refine ka ?_ _) | (with_reducible refine kd ?_ _)))⟩

theorem dec_err (cs : List Int) : ∀ (r : RS) (out : List Int) (c : Int), r.Ok → decGo cs r out = .error c → c ≠ 0 := by
  induction cs with
  | nil =>
    intro r out c _ h
    simp only [decGo] at h
    split at h <;> cases h
    decide
  | cons d ds ih =>
    intro r out c hr h
    have hp := putS_ok r d hr
    simp only [decGo] at h
    by_cases h0 : (putS r d).2.2.2 = 0
    · rw [if_pos h0] at h; exact ih _ _ c hp.1 h
    · rw [if_neg h0] at h
      split at h
      · cases h; decide
      · cases h; exact h0
theorem decN_err (l : List Int) (n most c : Int) (h : decN l n most = .error c) : c ≠ 0 := by
  unfold decN at h
  split at h
  · rename_i hn
    exact dec_err l _ _ c (.start n most hn.1 hn.2.1 hn.2.2.1 hn.2.2.2) h
  · cases h; decide

theorem law_Forth (a : Option Addr) (cap : Nat) (xs : List Int) (n : Int) (w : World) (h : xs.length ≤ 100) (h1 : 1 ≤ n) (h2 : n ≤ 256) (hr : NumsAt .i64 w a xs) :
    Calls Try.prog 12 #[.slice a xs.length cap, .int .i64 n] w fun e w' => e = .returned (.bool true) ∧ Below w.heap.size w w' := by
  have HE : Hid (∀ w, NumsAt .i64 w a xs → Calls Try.prog 37 #[.slice a xs.length cap, .int .i64 n, .int .i64 3000] w fun e w' => ResOut w (decN xs n 3000) e w') := fun w hr => z_Decode a cap xs n 3000 w (by omega) hr
  have HF : Hid (∀ w, NumsAt .i64 w a xs → Calls Try.prog 38 #[.slice a xs.length cap, .int .i64 n, .int .i64 3000] w fun e w' => ResOut w (decN xs n 3000) e w') := fun w hr => zref_Decode a cap xs n 3000 w (by omega) hr
  have hd : decide (100 < (xs.length : Int)) = false := by simp; omega
  have hd2 : decide (n < 1) = false := by simp; omega
  have hd3 : decide (256 < n) = false := by simp; omega
  have hlen := decN_len xs n 3000
  have hforth := forth xs n 3000
  have herr := decN_err xs n 3000
  cases hq : decN xs n 3000 with
  | error c =>
    have hc := herr c hq
    have hc2 : (c != 0) = true := by simpa using hc
    rw [hq] at HE HF
    clear hq hlen hforth herr hc
    go_enter Try.func12, Try.ntmps12
    go_wp2_with (first | (go_at_call 37; refine (HE.out _ hr).mono ?_; rintro e w1 ⟨rfl, hb1⟩) | (go_at_call 38; refine (HF.out _ (hr.below hb1)).mono ?_; rintro e w2 ⟨rfl, hb2⟩) | (go_at_call 28; refine (z_four _).mono ?_; rintro e w5 ⟨rfl, hb⟩))
    go_ret
    exact ⟨rfl, (by repeat (first | (with_reducible exact kr _) | (with_reducible assumption) | (with_reducible refine kt ?_ (by assumption)) | (with_reducible refine ka ?_ _) | (with_reducible refine kd ?_ _)))⟩
  | ok ys =>
    rw [hq] at HE HF
    have hl := hlen ys hq
    have hfo := hforth ys hq
    have HD : Hid (∀ a cap w, NumsAt .i64 w a ys → Calls Try.prog 29 #[.slice a ys.length cap, .int .i64 n] w fun e w' => ResOut w (.ok xs) e w') := fun a cap w hr => by
      rw [← hfo]; exact z_Encode a cap ys n w (by omega) hr
    have hxx : (xs == xs) = true := by simp
    clear hq hlen hforth hfo herr
    go_enter Try.func12, Try.ntmps12
    go_wp2_with (first | (go_at_call 37; refine (HE.out _ hr).mono ?_; rintro e w1 ⟨⟨a1, c1, rfl, hr1⟩, hb1⟩) | (go_at_call 29; refine (HD.out _ _ _ hr1).mono ?_; rintro e w2 ⟨⟨a2, c2, rfl, hr2⟩, hb2⟩) | (go_at_call 23; refine (plain_Ints _ _ _ _ xs xs _ (by omega) hr2 ((hr.below hb1).below hb2)).mono ?_; rintro e w3 ⟨rfl, hb3⟩) | (go_at_call 28; refine (z_four _).mono ?_; rintro e w5 ⟨rfl, hb⟩))
    go_ret
    exact ⟨rfl, (by repeat (first | (with_reducible exact kr _) | (with_reducible assumption) | (with_reducible refine kt ?_ (by assumption)) | (with_reducible refine ka ?_ _) | (with_reducible refine kd ?_ _)))⟩

end Go.Proofs.Ytmbmlinbggmipaa

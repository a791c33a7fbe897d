/- The reference of layer 16: how many steps there are. -/
import Derived.Test.YtbakfaihnecmoaaR5
import Derived.Test.YtbakfaihnecmoaaSU
namespace Go.Proofs.Ytbakfaihnecmoaa
set_option linter.unusedVariables false
set_option linter.unusedSimpArgs false
open Go.RowKit Sp Pl

theorem costT_le (n : Nat) (h : n ≤ 1024) : costT n ≤ 40000 := by
  by_cases h0 : n = 0
  · subst h0; rw [costT_small (by omega)]; omega
  · have h1 := costT_most 10 n (by omega) (by have : (2 : Nat) ^ 10 = 1024 := rfl; omega)
    omega

theorem r_Pass : ∀ (f n : Nat), n ≤ f → n ≤ 1024 → ∀ w : World, Calls Try.prog 45 #[.int .i64 (n : Nat)] w fun e w' => e = .returned (.int .i64 (costT n : Nat)) ∧ w = w'
  | f, n, hf, hn, w => by
    by_cases h : n < 2
    · have hd : decide ((n : Int) < 2) = true := by simp; omega
      have hr : Hid (costT n = 1) := costT_small h
      go_enter Try.func45, Try.ntmps45
      go_wp2
      go_ret
      exact ⟨ret_int (by rw [hr.out]; rfl), rfl⟩
    · match f, hf with
      | 0, hf => omega
      | f + 1, hf =>
        have hd : decide ((n : Int) < 2) = false := by simp; omega
        obtain ⟨a, ha⟩ : ∃ a : Nat, n / 2 = a := ⟨_, rfl⟩
        obtain ⟨b, hb⟩ : ∃ b : Nat, n - n / 2 = b := ⟨_, rfl⟩
        have q1 : (n : Int) / 2 = (a : Nat) := by omega
        have q2 : (n : Int) - (a : Int) = (b : Nat) := by omega
        have H1 := Lib.hid (fun w => r_Pass f a (by omega) (by omega) w)
        have H2 := Lib.hid (fun w => r_Pass f b (by omega) (by omega) w)
        have hr : Hid (costT n = 1 + costT a + costT b + a + n) := by unfold Hid; rw [costT_big (by omega), hb, ha]
        have l1 := costT_le a (by omega)
        have l2 := costT_le b (by omega)
        have ha1 : a ≤ 1024 := by omega
        generalize costT a = ca at *
        generalize costT b = cb at *
        clear ha hb
        go_enter Try.func45, Try.ntmps45
        go_wp2_with fail
        refine (H1.out _).mono ?_
        rintro e w' ⟨rfl, rfl⟩
        go_wp2_with fail
        refine (H2.out _).mono ?_
        rintro e w' ⟨rfl, rfl⟩
        go_wp2_with fail
        go_ret
        exact ⟨ret_int (by rw [hr.out]; push_cast; rfl), rfl⟩

def beginB (s : ByteArray) (i n : Nat) : ByteArray := (rotS s i).extract 0 n
theorem beginB_data (s : ByteArray) (i n : Nat) (hn : n ≤ s.size) : (beginB s i n).data.toList = (rotL s.data.toList i).take n := by
  unfold beginB
  have hl := size_list' (rotS s i)
  rw [rotS_size] at hl
  simp only [ByteArray.data_extract, Array.toList_extract, List.extract_eq_take_drop]
  rw [rotS_data]
  simp
theorem begin_same (s : ByteArray) (i k n : Nat) (hi : i < s.size) (hk : k < s.size) (hn : n ≤ s.size) : decide ((beginB s i n).toList = (beginB s k n).toList) = eqLB s n i k := by
  rw [Bool.eq_iff_iff, decide_eq_true_iff, eqLB_iff, ByteArray.toList_eq, ByteArray.toList_eq, beginB_data s i n hn, beginB_data s k n hn]
  have hl := size_list' s
  have hg : ∀ c j, c < s.size → j < s.size → (rotL s.data.toList c).getD j 0 = rnd s (c + j) := fun c j hc hj => by
    rw [getD_rotL _ _ _ (by omega) (by omega), hl]; rfl
  constructor
  · intro h j hj
    rw [← hg i j hi (by omega), ← hg k j hk (by omega)]
    have := congrArg (fun l => l.getD j 0) h
    simp only [List.getD_eq_getElem?_getD, List.getElem?_take, if_pos hj] at this
    simpa [List.getD_eq_getElem?_getD] using this
  · intro h
    apply List.ext_getElem?
    intro j
    simp only [List.getElem?_take]
    by_cases hj : j < n
    · rw [if_pos hj, if_pos hj]
      have h1 := h j hj
      rw [← hg i j hi (by omega), ← hg k j hk (by omega), List.getD_eq_getElem?_getD, List.getD_eq_getElem?_getD] at h1
      rw [List.getElem?_eq_getElem (by rw [length_rotL]; omega), List.getElem?_eq_getElem (by rw [length_rotL]; omega)] at h1 ⊢
      exact congrArg some h1
    · rw [if_neg hj, if_neg hj]

def strLen : Value → Nat
  | .string s => s.size
  | _ => 0
theorem r_begin (s : ByteArray) (i n : Nat) (w : World) (hs : s.size ≤ 1000) (hi : i < s.size) (hn : n ≤ s.size) (hn1 : 1 ≤ n) :
    Calls Try.prog 53 #[.string s, .int .i64 (i : Nat), .int .i64 (n : Nat)] w fun e w' => e = .returned (.string (beginB s i n)) ∧ Below w.heap.size w w' := by
  have H1 := Lib.hid (fun w => ref_Rotation s (i : Nat) w (by omega) (by omega) (by omega))
  have hR : Hid (beginB s i n = (rotS s i).extract 0 n) := rfl
  have hsz : (rotS s i).size = s.size := rotS_size s i
  have hz : Hid (ByteArray.mk #[] ++ rotS s i = rotS s i) := by
    unfold Hid; apply list_inj; simp
  simp only [Int.toNat_natCast] at H1
  generalize beginB s i n = B at *
  generalize rotS s i = R at *
  have HSZ := Lib.hid hsz
  clear hsz
  go_enter Try.func53, Try.ntmps53
  go_wp2_with fail
  go_loopw [7] (fun v wr => ∃ o : ByteArray, v = .string o ∧ Hid (o = ⟨#[]⟩ ∨ o = R) ∧ Below w.heap.size w wr) (fun v _ => n - strLen v)
  case atStart => exact ⟨_, rfl, .inl rfl, kr _⟩
  case round =>
    obtain ⟨wo, rfl⟩ : ∃ wo : World, wo = wr := ⟨_, rfl⟩
    obtain ⟨o, rfl, ho, hb⟩ := hrel
    rcases ho.out with rfl | rfl
    · have l1 : R.size ≤ 1000 := by have := HSZ.out; omega
      go_wp2_with fail
      refine (H1.out _).mono ?_
      rintro e w1 ⟨rfl, hb1⟩
      go_wp2_with fail
      all_goals
        rw [hz.out]
        refine ⟨⟨_, rfl, .inr rfl, kt hb hb1⟩, ?_⟩
        have := HSZ.out
        show n - R.size < n - 0
        omega
    · have l1 := HSZ.out
      go_wp2_with fail
      go_ret
      rw [hR.out]
      exact ⟨rfl, hb⟩

theorem unlike_of (s : ByteArray) (n : Nat) (h : ∀ i, i < s.size → ∀ k, k < i → eqLB s n i k = false) : unlikeB s n = true := by
  unfold unlikeB
  rw [List.all_eq_true]
  intro i hi
  rw [List.all_eq_true]
  intro k hk
  rw [h i (by simpa using hi) k (by simpa using hk)]
  rfl
theorem unlike_not (s : ByteArray) (n i k : Nat) (hi : i < s.size) (hk : k < i) (h : eqLB s n i k = true) : unlikeB s n = false := by
  rw [Bool.eq_false_iff]
  intro h2
  unfold unlikeB at h2
  rw [List.all_eq_true] at h2
  have h3 := h2 i (by simpa using hi)
  rw [List.all_eq_true] at h3
  have h4 := h3 k (by simpa using hk)
  rw [h] at h4
  cases h4

theorem r_unlike (s : ByteArray) (n : Nat) (w : World) (hs : s.size ≤ 1000) (hn : n ≤ s.size) (hn1 : 1 ≤ n) :
    Calls Try.prog 46 #[.string s, .int .i64 (n : Nat)] w fun e w' => e = .returned (.bool (unlikeB s n)) ∧ Below w.heap.size w w' := by
  obtain ⟨U, hU⟩ : ∃ U, unlikeB s n = U := ⟨_, rfl⟩
  have HU := Lib.hid hU
  rw [hU]
  clear hU
  have HB : Hid (∀ i, i < s.size → ∀ w, Calls Try.prog 53 #[.string s, .int .i64 (i : Nat), .int .i64 (n : Nat)] w fun e w' => e = .returned (.string (beginB s i n)) ∧ Below w.heap.size w w') := fun i hi w => r_begin s i n w hs hi hn hn1
  have HE : Hid (∀ i k, i < s.size → k < s.size → decide ((beginB s i n).toList = (beginB s k n).toList) = eqLB s n i k) := fun i k hi hk => begin_same s i k n hi hk hn
  go_enter Try.func46, Try.ntmps46
  go_wp2_with fail
  go_loopw [9] (fun v wr => ∃ i : Nat, i ≤ s.size ∧ v = .int .i64 (i : Nat) ∧ Hid (∀ i', i' < i → ∀ k, k < i' → eqLB s n i' k = false) ∧ Below w.heap.size w wr) (fun v _ => s.size - (intOf v).toNat)
  case atStart => exact ⟨0, Nat.zero_le _, rfl, fun i' h => absurd h (Nat.not_lt_zero _), kr _⟩
  case round =>
    obtain ⟨wo, rfl⟩ : ∃ wo : World, wo = wr := ⟨_, rfl⟩
    obtain ⟨i, hi, rfl, hp, hb⟩ := hrel
    by_cases hlt : i < s.size
    · have HBi := Lib.hid (HB.out i hlt)
      go_wp2_with fail
      go_loopw [13] (fun v w2 => ∃ k : Nat, k ≤ i ∧ v = .int .i64 (k : Nat) ∧ Hid (∀ k', k' < k → eqLB s n i k' = false) ∧ Below w.heap.size w w2) (fun v _ => i - (intOf v).toNat)
      case atStart => exact ⟨0, Nat.zero_le _, rfl, fun i' h => absurd h (Nat.not_lt_zero _), hb⟩
      case round =>
        obtain ⟨k, hk, rfl, hp2, hb2⟩ := hrel
        by_cases hlt2 : k < i
        · have HBk := Lib.hid (HB.out k (by omega))
          have hdec := HE.out i k hlt (by omega)
          generalize beginB s i n = A at *
          generalize beginB s k n = B at *
          cases hc : eqLB s n i k with
          | true =>
            rw [hc] at hdec
            have HR := Lib.hid (unlike_not s n i k hlt hlt2 hc)
            have HD := Lib.hid hdec
            clear hc hdec
            have hAB : A.toList = B.toList := of_decide_eq_true HD.out
            have hbeq : (A.toList == B.toList) = true := by simpa using hAB
            have hAB := Lib.hid hAB
            go_wp2_with fail
            refine (HBi.out _).mono ?_
            rintro e w1 ⟨rfl, hb3⟩
            go_wp2_with fail
            refine (HBk.out _).mono ?_
            rintro e w4 ⟨rfl, hb4⟩
            go_wp2_with fail
            go_ret
            refine ⟨ret_bool ?_, kt (kt hb2 hb3) hb4⟩
            have := HU.out
            rw [HR.out] at this
            exact this
          | false =>
            rw [hc] at hdec
            have hAB : ¬ A.toList = B.toList := of_decide_eq_false hdec
            have hbeq : (A.toList == B.toList) = false := by simpa using hAB
            have HC : Hid (∀ k', k' < k + 1 → eqLB s n i k' = false) := fun k' h => by
              by_cases e : k' = k
              · rw [e]; exact hc
              · exact hp2.out k' (by omega)
            clear hc hp2
            go_wp2_with fail
            refine (HBi.out _).mono ?_
            rintro e w1 ⟨rfl, hb3⟩
            go_wp2_with fail
            refine (HBk.out _).mono ?_
            rintro e w4 ⟨rfl, hb4⟩
            go_wp2_with fail
            exact ⟨⟨k + 1, by omega, by go_num, HC, kt (kt hb2 hb3) hb4⟩, by simp [intOf]; omega⟩
        · obtain rfl : k = i := by omega
          have HC : Hid (∀ i', i' < k + 1 → ∀ k', k' < i' → eqLB s n i' k' = false) := fun i' h => by
            by_cases e : i' = k
            · rw [e]; exact hp2.out
            · exact hp.out i' (by omega)
          go_wp2_with fail
          exact ⟨⟨k + 1, by omega, by go_num, HC, hb2⟩, by simp [intOf]; omega⟩
    · obtain rfl : i = s.size := by omega
      have HR := Lib.hid (unlike_of s n hp.out)
      go_wp2_with fail
      go_ret
      refine ⟨ret_bool ?_, hb⟩
      have := HU.out
      rw [HR.out] at this
      exact this

theorem goR_step (s : ByteArray) (each f r : Nat) (h : (s.size ≤ r ∨ unlikeB s (min (2 * r) s.size) = true)) : goR s each (f + 1) r = each := by
  rw [goR, if_pos (by rw [Bool.or_eq_true, decide_eq_true_iff]; exact h)]
theorem goR_more (s : ByteArray) (each f r : Nat) (h1 : ¬ s.size ≤ r) (h2 : unlikeB s (min (2 * r) s.size) = false) : goR s each (f + 1) r = each + goR s each f (2 * r) := by
  rw [goR, if_neg (by rw [h2]; simpa using h1)]

theorem r_Steps (s : ByteArray) (w : World) (hs : s.size ≤ 1000) : Calls Try.prog 20 #[.string s] w fun e w' => e = .returned (.int .i64 (stepsR s : Nat)) ∧ Below w.heap.size w w' := by
  by_cases h2 : s.size < 2
  · have hd : decide ((s.size : Int) < 2) = true := by simp; omega
    have hr : Hid (stepsR s = 0) := by unfold Hid stepsR; rw [if_pos h2]
    go_enter Try.func20, Try.ntmps20
    go_wp2
    go_ret
    exact ⟨ret_int (by rw [hr.out]; rfl), kr _⟩
  · have hd : decide ((s.size : Int) < 2) = false := by simp; omega
    obtain ⟨E, hE⟩ : ∃ E, costT s.size + s.size = E := ⟨_, rfl⟩
    obtain ⟨c, hc⟩ : ∃ c, costT s.size = c := ⟨_, rfl⟩
    have hcl : c ≤ 40000 := hc ▸ costT_le s.size (by omega)
    have hEc : (c : Int) + (s.size : Int) = (E : Nat) := by omega
    have hEl : E ≤ 41000 := by omega
    have hstep : stepsR s = if unlikeB s 1 then E else E + goR s E 30 1 := by unfold stepsR; rw [if_neg h2, hE]
    have HST := Lib.hid hstep
    have H1 := Lib.hid (fun w => r_Pass 1000 s.size (by omega) (by omega) w)
    rw [hc] at H1
    have H2 := Lib.hid (fun w => r_unlike s 1 w hs (by omega) (by omega))
    clear hE hc hstep
    generalize hU : unlikeB s 1 = U at *
    generalize hSR : stepsR s = SR at *
    have HU := Lib.hid hU
    clear hU hSR
    cases U with
    | true =>
      have hr : Hid (SR = E) := by unfold Hid; rw [HST.out]; rfl
      go_enter Try.func20, Try.ntmps20
      go_wp2_with fail
      refine (H1.out _).mono ?_
      rintro e w1 ⟨rfl, rfl⟩
      go_wp2_with fail
      refine (H2.out _).mono ?_
      rintro e w1 ⟨rfl, hb1⟩
      go_wp2_with fail
      go_ret
      exact ⟨ret_int (by rw [hr.out]), hb1⟩
    | false =>
      have hr : Hid (SR = E + goR s E 30 1) := by unfold Hid; rw [HST.out]; rfl
      go_enter Try.func20, Try.ntmps20
      go_wp2_with fail
      refine (H1.out _).mono ?_
      rintro e w1 ⟨rfl, rfl⟩
      go_wp2_with fail
      refine (H2.out _).mono ?_
      rintro e w1 ⟨rfl, hb1⟩
      go_wp2_with fail
      go_loopw [4, 5, 19] (fun t r i wr => ∃ j R T : Nat, j ≤ 30 ∧ i = .int .i64 (j : Nat) ∧ r = .int .i64 (R : Nat) ∧ t = .int .i64 (T : Nat) ∧ 1 ≤ R ∧ R ≤ 2000 ∧ T ≤ (j + 1) * 41000 ∧ Hid (SR = T + goR s E (30 - j) R) ∧ Below w.heap.size w wr) (fun _ _ i _ => 30 - (intOf i).toNat)
      case atStart => exact ⟨0, 1, E, by omega, rfl, rfl, rfl, by omega, by omega, by omega, hr, hb1⟩
      case round =>
        obtain ⟨wo, rfl⟩ : ∃ wo : World, wo = wr := ⟨_, rfl⟩
        obtain ⟨j, R, T, hj, rfl, rfl, rfl, hR1, hR2, hT, hS, hb⟩ := hrel
        by_cases hlt : j < 30
        · obtain ⟨f, hf⟩ : ∃ f, 30 - j = f + 1 := ⟨29 - j, by omega⟩
          have hS := hS.out
          rw [hf] at hS
          have hf2 : 30 - (j + 1) = f := by omega
          by_cases hge : s.size ≤ R
          · have d1 : decide (s.size ≤ R) = true := by simpa using hge
            have d2 : decide ((s.size : Int) ≤ (R : Int)) = true := by simpa using hge
            rw [goR_step s E f R (.inl hge)] at hS
            have HS := Lib.hid hS
            clear hS hf hf2
            go_wp2_with fail
            go_ret
            exact ⟨ret_int (by rw [HS.out]; push_cast; rfl), hb⟩
          · have d1 : decide (s.size ≤ R) = false := by simpa using hge
            have d2 : decide ((s.size : Int) ≤ (R : Int)) = false := by simpa using hge
            obtain ⟨m, hm⟩ : ∃ m, min (2 * R) s.size = m := ⟨_, rfl⟩
            have hIf : (if (s.size : Int) < 2 * (R : Int) then (s.size : Int) else 2 * (R : Int)) = (m : Nat) := by split <;> omega
            have H3 := Lib.hid (fun w => r_unlike s m w hs (by omega) (by omega))
            cases hU : unlikeB s m with
            | true =>
              rw [goR_step s E f R (.inr (by rw [hm]; exact hU))] at hS
              have HS := Lib.hid hS
              rw [hU] at H3
              clear hS hf hf2 hU hm
              go_wp2_with fail
              refine (H3.out _).mono ?_
              rintro e w2 ⟨rfl, hb2⟩
              go_wp2_with fail
              go_ret
              exact ⟨ret_int (by rw [HS.out]; push_cast; rfl), kt hb hb2⟩
            | false =>
              rw [goR_more s E f R hge (by rw [hm]; exact hU)] at hS
              have HS : Hid (SR = (T + E) + goR s E (30 - (j + 1)) (2 * R)) := by unfold Hid; rw [hf2, hS]; omega
              rw [hU] at H3
              clear hS hf hf2 hU hm
              go_wp2_with fail
              refine (H3.out _).mono ?_
              rintro e w2 ⟨rfl, hb2⟩
              go_wp2_with fail
              exact ⟨⟨j + 1, 2 * R, T + E, by omega, by go_num, by go_num, by go_num, by omega, by omega, by omega, HS, kt hb hb2⟩, by simp [intOf]; omega⟩
        · obtain rfl : j = 30 := by omega
          have HS : Hid (SR = T) := by have := hS.out; rw [show 30 - 30 = 0 from rfl] at this; exact this
          go_wp2_with fail
          go_ret
          exact ⟨ret_int (by rw [HS.out]), hb⟩

end Go.Proofs.Ytbakfaihnecmoaa

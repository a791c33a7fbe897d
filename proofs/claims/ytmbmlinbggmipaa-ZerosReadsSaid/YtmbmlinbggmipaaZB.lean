/- Walks of Encode: package zeros and the reference of layer 7. -/
import Derived.Test.YtmbmlinbggmipaaZA
namespace Go.Proofs.Ytmbmlinbggmipaa
set_option linter.unusedVariables false
set_option linter.unusedSimpArgs false
open Go.RowKit Zp

/-- a slice of ints and no error, or an error and none -/
def ResOut (w : World) (r : Except Int (List Int)) (e : Ending) (w' : World) : Prop :=
  match r with
  | .error c => e = .returned (.tuple #[.slice none 0 0, .int .i64 c]) ∧ Below w.heap.size w w'
  | .ok xs => RowOut w xs e w'

theorem z_Encode_no (a : Option Addr) (cap : Nat) (xs : List Int) (n : Int) (w : World) (hn : mayB n = false) :
    Calls Try.prog 29 #[.slice a xs.length cap, .int .i64 n] w fun e w' => ResOut w (.error 1) e w' := by
  go_enter Try.func29, Try.ntmps29
  go_wp2_with (first | (go_at_call 44; refine (z_may _ _).mono ?_; rintro e w' ⟨rfl, rfl⟩))
  go_ret2
  exact ⟨rfl, kr _⟩

theorem z_Encode_yes (a : Option Addr) (cap : Nat) (xs : List Int) (n : Int) (w : World) (hn : mayB n = true) (hx : xs.length ≤ 1000000) (hr : NumsAt .i64 w a xs) :
    Calls Try.prog 29 #[.slice a xs.length cap, .int .i64 n] w fun e w' => ResOut w (encGo n xs 0 []) e w' := by
  have hn' : 1 ≤ n ∧ n ≤ 256 := by simpa [mayB] using hn
  obtain ⟨hn1, hn2⟩ := hn'
  go_enter Try.func29, Try.ntmps29
  go_wp2_with (first | (go_at_call 44; refine (z_may _ _).mono ?_; rintro e w' ⟨rfl, rfl⟩))
  go_loopw [6, 7, 15] (fun v z j wr => ∃ k Z : Nat, ∃ out : List Int, k ≤ xs.length ∧ j = .int .i64 k ∧ z = .int .i64 Z ∧ out.length + Z ≤ k ∧ OwnsNums .i64 3 w.heap.size wr v out ∧ Hid (encGo n xs 0 [] = encGo n (xs.drop k) Z out) ∧ Below w.heap.size w wr) (fun _ _ j _ => xs.length - (intOf j).toNat)
  case atStart => exact ⟨0, 0, [], by omega, rfl, rfl, by simp, OwnsNums.nil _ _ _ _, rfl, kr _⟩
  case round =>
    obtain ⟨k, Z, out, hk, rfl, rfl, hl, hown, H, hb⟩ := hrel
    have hbs := hb.size
    by_cases hlt : k < xs.length
    · obtain ⟨b, off, rfl, hcell⟩ := (hr.below hb).some (by omega)
      have c1 := hcell k hlt
      have hdrop : xs.drop k = xs.getD k 0 :: xs.drop (k + 1) := by
        rw [List.drop_eq_getElem_cons hlt, List.getD_eq_getElem?_getD, List.getElem?_eq_getElem hlt]; rfl
      have H2 : Hid (encGo n xs 0 [] = if xs.getD k 0 < 0 ∨ n ≤ xs.getD k 0 then .error 1 else if xs.getD k 0 = 0 then encGo n (xs.drop (k + 1)) (Z + 1) out else encGo n (xs.drop (k + 1)) 0 (out ++ rowN Z ++ [xs.getD k 0 + 1])) := by
        unfold Hid; rw [H.out, hdrop]; rfl
      clear hcell hdrop H
      generalize xs.getD k 0 = p at *
      by_cases h1 : p < 0
      · have H3 : Hid (encGo n xs 0 [] = .error 1) := by unfold Hid; rw [H2.out, if_pos (.inl h1)]
        go_wp2
        go_ret2
        rw [H3.out]
        exact ⟨rfl, hb⟩
      · have hd1 : decide (p < 0) = false := by simpa using h1
        by_cases h2 : n ≤ p
        · have H3 : Hid (encGo n xs 0 [] = .error 1) := by unfold Hid; rw [H2.out, if_pos (.inr h2)]
          have hd2 : decide (n ≤ p) = true := by simpa using h2
          go_wp2
          go_ret2
          rw [H3.out]
          exact ⟨rfl, hb⟩
        · have hd2 : decide (n ≤ p) = false := by simpa using h2
          by_cases h3 : p = 0
          · have H3 : Hid (encGo n xs 0 [] = encGo n (xs.drop (k + 1)) (Z + 1) out) := by unfold Hid; rw [H2.out, if_neg (by omega), if_pos h3]
            have hd3 : (p == 0) = true := by simpa using h3
            clear h3
            go_wp2
            exact ⟨⟨k + 1, Z + 1, out, by omega, by go_num, by go_num, by omega, hown, H3, hb⟩, by simp [intOf]; omega⟩
          · have H3 : Hid (encGo n xs 0 [] = encGo n (xs.drop (k + 1)) 0 (out ++ rowN Z ++ [p + 1])) := by unfold Hid; rw [H2.out, if_neg (by omega), if_neg h3]
            have hd3 : (p == 0) = false := by simpa using h3
            clear h3
            have hrl := rowN_length Z
            have hcr := z_row Z wr (by omega) (by omega)
            rw [Int.toNat_natCast] at hcr
            generalize rowN Z = ys at *
            have HC := Lib.hid hcr
            clear hcr
            go_wp2_with (first | (go_at_call 45; refine (HC.out).mono ?_; rintro e w4 ⟨⟨a4, cap4, rfl, hr4⟩, hb4⟩) | (at_builtin; refine app_nums (w := w4) rfl _ _ 27 3 rfl Try.underlying27 info_int (hown.below hb4) hr4 rfl rfl (by decide) (by omega) (by have := hb4.size; omega) ?_; intro v5 w5 own5 be5) | (at_builtin; refine app_new1 (w := w5) rfl _ _ 27 3 rfl Try.underlying27 info_int own5 rfl rfl (by decide) (by simp; omega) (by have := hb4.size; have := be5.size; omega) ?_; intro v6 w6 own6 be6))
            exact ⟨⟨k + 1, 0, out ++ ys ++ [p + 1], by omega, by go_num, rfl, by simp; omega, own6, H3, ((hb.trans (hb4.mono hbs)).trans be5).trans be6⟩, by simp [intOf]; omega⟩
    · have H3 : Hid (encGo n xs 0 [] = .ok (out ++ rowN Z ++ [n + 1])) := by unfold Hid; rw [H.out, List.drop_of_length_le (by omega)]; rfl
      have hrl := rowN_length Z
      have hcr := z_row Z wr (by omega) (by omega)
      rw [Int.toNat_natCast] at hcr
      generalize rowN Z = ys at *
      have HC := Lib.hid hcr
      clear hcr H
      go_wp2_with (first | (go_at_call 45; refine (HC.out).mono ?_; rintro e w4 ⟨⟨a4, cap4, rfl, hr4⟩, hb4⟩) | (at_builtin; refine app_nums (w := w4) rfl _ _ 27 3 rfl Try.underlying27 info_int (hown.below hb4) hr4 rfl rfl (by decide) (by omega) (by have := hb4.size; omega) ?_; intro v5 w5 own5 be5) | (at_builtin; refine app_new1 (w := w5) rfl _ _ 27 3 rfl Try.underlying27 info_int own5 rfl rfl (by decide) (by simp; omega) (by have := hb4.size; have := be5.size; omega) ?_; intro v6 w6 own6 be6))
      obtain ⟨a6, cap6, rfl, hr6⟩ := own6.reads
      go_ret2
      rw [H3.out]
      exact ⟨⟨a6, cap6, rfl, hr6⟩, ((hb.trans (hb4.mono hbs)).trans be5).trans be6⟩

theorem zref_Encode_no (a : Option Addr) (cap : Nat) (xs : List Int) (n : Int) (w : World) (hn : mayB n = false) :
    Calls Try.prog 30 #[.slice a xs.length cap, .int .i64 n] w fun e w' => ResOut w (.error 1) e w' := by
  have hn' : n < 1 ∨ 1 ≤ n ∧ 256 < n := by simp [mayB] at hn; omega
  rcases hn' with h | ⟨h, h2⟩
  · go_enter Try.func30, Try.ntmps30
    go_wp2
    go_ret2
    exact ⟨rfl, kr _⟩
  · have hd : decide (n < 1) = false := by simp; omega
    go_enter Try.func30, Try.ntmps30
    go_wp2
    go_ret2
    exact ⟨rfl, kr _⟩

theorem zref_Encode_yes (a : Option Addr) (cap : Nat) (xs : List Int) (n : Int) (w : World) (hn : mayB n = true) (hx : xs.length ≤ 1000000) (hr : NumsAt .i64 w a xs) :
    Calls Try.prog 30 #[.slice a xs.length cap, .int .i64 n] w fun e w' => ResOut w (encGo n xs 0 []) e w' := by
  have hn' : 1 ≤ n ∧ n ≤ 256 := by simpa [mayB] using hn
  obtain ⟨hn1, hn2⟩ := hn'
  have hda : decide (n < 1) = false := by simp; omega
  have hdb : decide (256 < n) = false := by simp; omega
  go_enter Try.func30, Try.ntmps30
  go_wp2
  go_loopw [6, 7, 18] (fun v z j wr => ∃ k Z : Nat, ∃ out : List Int, k ≤ xs.length ∧ j = .int .i64 k ∧ z = .int .i64 Z ∧ out.length + Z ≤ k ∧ OwnsNums .i64 3 w.heap.size wr v out ∧ Hid (encGo n xs 0 [] = encGo n (xs.drop k) Z out) ∧ Below w.heap.size w wr) (fun _ _ j _ => xs.length - (intOf j).toNat)
  case atStart => exact ⟨0, 0, [], by omega, rfl, rfl, by simp, OwnsNums.nil _ _ _ _, rfl, kr _⟩
  case round =>
    obtain ⟨k, Z, out, hk, rfl, rfl, hl, hown, H, hb⟩ := hrel
    have hbs := hb.size
    by_cases hlt : k < xs.length
    · obtain ⟨b, off, rfl, hcell⟩ := (hr.below hb).some (by omega)
      have c1 := hcell k hlt
      have hdrop : xs.drop k = xs.getD k 0 :: xs.drop (k + 1) := by
        rw [List.drop_eq_getElem_cons hlt, List.getD_eq_getElem?_getD, List.getElem?_eq_getElem hlt]; rfl
      have H2 : Hid (encGo n xs 0 [] = if xs.getD k 0 < 0 ∨ n ≤ xs.getD k 0 then .error 1 else if xs.getD k 0 = 0 then encGo n (xs.drop (k + 1)) (Z + 1) out else encGo n (xs.drop (k + 1)) 0 (out ++ rowN Z ++ [xs.getD k 0 + 1])) := by
        unfold Hid; rw [H.out, hdrop]; rfl
      clear hcell hdrop H
      generalize xs.getD k 0 = p at *
      by_cases h1 : p < 0
      · have H3 : Hid (encGo n xs 0 [] = .error 1) := by unfold Hid; rw [H2.out, if_pos (.inl h1)]
        go_wp2
        go_ret2
        rw [H3.out]
        exact ⟨rfl, hb⟩
      · have hd1 : decide (p < 0) = false := by simpa using h1
        by_cases h2 : n ≤ p
        · have H3 : Hid (encGo n xs 0 [] = .error 1) := by unfold Hid; rw [H2.out, if_pos (.inr h2)]
          have hd2 : decide (n ≤ p) = true := by simpa using h2
          go_wp2
          go_ret2
          rw [H3.out]
          exact ⟨rfl, hb⟩
        · have hd2 : decide (n ≤ p) = false := by simpa using h2
          by_cases h3 : p = 0
          · have H3 : Hid (encGo n xs 0 [] = encGo n (xs.drop (k + 1)) (Z + 1) out) := by unfold Hid; rw [H2.out, if_neg (by omega), if_pos h3]
            have hd3 : (p == 0) = true := by simpa using h3
            clear h3
            go_wp2
            exact ⟨⟨k + 1, Z + 1, out, by omega, by go_num, by go_num, by omega, hown, H3, hb⟩, by simp [intOf]; omega⟩
          · have H3 : Hid (encGo n xs 0 [] = encGo n (xs.drop (k + 1)) 0 (out ++ rowN Z ++ [p + 1])) := by unfold Hid; rw [H2.out, if_neg (by omega), if_neg h3]
            have hd3 : (p == 0) = false := by simpa using h3
            clear h3
            have hrl := rowN_length Z
            have hcr := zref_Row Z (by omega) wr
            generalize rowN Z = ys at *
            have HC := Lib.hid hcr
            clear hcr
            go_wp2_with (first | (go_at_call 40; refine (HC.out).mono ?_; rintro e w4 ⟨⟨a4, cap4, rfl, hr4⟩, hb4⟩) | (at_builtin; refine app_nums (w := w4) rfl _ _ 27 3 rfl Try.underlying27 info_int (hown.below hb4) hr4 rfl rfl (by decide) (by omega) (by have := hb4.size; omega) ?_; intro v5 w5 own5 be5) | (at_builtin; refine app_new1 (w := w5) rfl _ _ 27 3 rfl Try.underlying27 info_int own5 rfl rfl (by decide) (by simp; omega) (by have := hb4.size; have := be5.size; omega) ?_; intro v6 w6 own6 be6))
            exact ⟨⟨k + 1, 0, out ++ ys ++ [p + 1], by omega, by go_num, rfl, by simp; omega, own6, H3, ((hb.trans (hb4.mono hbs)).trans be5).trans be6⟩, by simp [intOf]; omega⟩
    · have H3 : Hid (encGo n xs 0 [] = .ok (out ++ rowN Z ++ [n + 1])) := by unfold Hid; rw [H.out, List.drop_of_length_le (by omega)]; rfl
      have hrl := rowN_length Z
      have hcr := zref_Row Z (by omega) wr
      generalize rowN Z = ys at *
      have HC := Lib.hid hcr
      clear hcr H
      go_wp2_with (first | (go_at_call 40; refine (HC.out).mono ?_; rintro e w4 ⟨⟨a4, cap4, rfl, hr4⟩, hb4⟩) | (at_builtin; refine app_nums (w := w4) rfl _ _ 27 3 rfl Try.underlying27 info_int (hown.below hb4) hr4 rfl rfl (by decide) (by omega) (by have := hb4.size; omega) ?_; intro v5 w5 own5 be5) | (at_builtin; refine app_new1 (w := w5) rfl _ _ 27 3 rfl Try.underlying27 info_int own5 rfl rfl (by decide) (by simp; omega) (by have := hb4.size; have := be5.size; omega) ?_; intro v6 w6 own6 be6))
      obtain ⟨a6, cap6, rfl, hr6⟩ := own6.reads
      go_ret2
      rw [H3.out]
      exact ⟨⟨a6, cap6, rfl, hr6⟩, ((hb.trans (hb4.mono hbs)).trans be5).trans be6⟩

end Go.Proofs.Ytmbmlinbggmipaa

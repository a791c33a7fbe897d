/- The statement SorterCuts. -/
import Derived.Test.YtbakfaihnecmoaaS1
import Derived.Test.YtbakfaihnecmoaaSO
namespace Go.Proofs.Ytbakfaihnecmoaa
set_option linter.unusedVariables false
set_option linter.unusedSimpArgs false
open Go.RowKit Sp Pl

/-- a sorter that a call has made, and so many steps that it has gone -/
def Own (w : World) (g : Nat) (s : ByteArray) (j : Nat) (wr : World) : Prop := SIn wr (fun b => w.heap.size ≤ b) g s (AtS s j) ∧ Below w.heap.size w wr
theorem Own.then {w wr w' : World} {g j k : Nat} {s : ByteArray} (h : Own w g s j wr) (hp : SPost (fun b => w.heap.size ≤ b) g s wr (AtS s k) w') : Own w g s k w' := by
  have hz := h.2.size
  refine ⟨?_, h.2.trans (hp.2.below hz fun i hi => hi)⟩
  obtain ⟨go, gc, ga, sv, h3, f1, f2, f3, f4, f5⟩ := hp.1
  have ff : ∀ b, (w.heap.size ≤ b ∨ wr.heap.size ≤ b) → w.heap.size ≤ b := fun b hb => by omega
  exact ⟨go, gc, ga, sv, h3, ff _ f1, ff _ f2, ff _ f3, ff _ f4, fun b hb => ff _ (f5 b hb)⟩
theorem Own.below {w wr w' : World} {g j : Nat} {s : ByteArray} (h : Own w g s j wr) (hb : Below wr.heap.size wr w') : Own w g s j w' := ⟨h.1.below hb, kt h.2 hb⟩
theorem Own.step {w wr : World} {g j : Nat} {s : ByteArray} (h : Own w g s j wr) (hn : s.size ≤ 900000) (hj : j ≤ stepsR s) (b : Int) :
    Calls Try.prog 21 #[.pointer (some ⟨g, 0, none⟩), .int .i64 b] wr fun e w' => e = .returned (.int .i64 (goneK s j b : Nat)) ∧ Own w g s (j + goneK s j b) w' :=
  (s_Step hn j hj h.1 b).mono fun _ _ ⟨he, hp⟩ => ⟨he, h.then hp⟩
theorem Own.new (s : ByteArray) (w : World) (h : s.size ≤ 900000) : Calls Try.prog 19 #[.string s] w fun e w' => ∃ g, e = .returned (.tuple #[.pointer (some ⟨g, 0, none⟩), .int .i64 0]) ∧ Own w g s 0 w' :=
  (s_New s w h).mono fun _ _ ⟨⟨g, he, hs⟩, hb⟩ => ⟨g, he, hs, hb⟩
theorem done_eq (s : ByteArray) (h : s.size ≤ 900000) (j : Nat) (hj : j ≤ stepsR s) : (AtS s j).done = (j == stepsR s) := by
  by_cases e : j = stepsR s
  · rw [e, is_done s h]; simp
  · rw [not_done s h j (by omega)]; simpa using e

theorem Own.toSteps {w wr : World} {g j : Nat} {s : ByteArray} (h : Own w g s j wr) : Calls Try.prog 22 #[.pointer (some ⟨g, 0, none⟩)] wr fun e w' => e = .returned (.int .i64 (j : Nat)) ∧ wr = w' := s_Steps j h.1
theorem Own.toHeld {w wr : World} {g j : Nat} {s : ByteArray} (h : Own w g s j wr) (hn : s.size ≤ 900000) : Calls Try.prog 24 #[.pointer (some ⟨g, 0, none⟩)] wr fun e w' => e = .returned (.int .i64 (3 * (s.size : Nat))) ∧ wr = w' := s_Held j hn h.1
theorem Own.toDone {w wr : World} {g j : Nat} {s : ByteArray} (h : Own w g s j wr) (hn : s.size ≤ 900000) (hj : j ≤ stepsR s) (d : Bool) (hd : (j == stepsR s) = d) : Calls Try.prog 23 #[.pointer (some ⟨g, 0, none⟩)] wr fun e w' => e = .returned (.bool d) ∧ wr = w' := by
  have := s_Done _ h.1
  rw [done_eq s hn j hj, hd] at this
  exact this
theorem Own.toOrder {w wr : World} {g j : Nat} {s : ByteArray} (h : Own w g s j wr) (hn : s.size ≤ 900000) (hj : j < stepsR s) : Calls Try.prog 25 #[.pointer (some ⟨g, 0, none⟩)] wr fun e w' => e = .returned (.slice none 0 0) ∧ wr = w' := s_Order_not _ (not_done s hn j hj) h.1
theorem Own.toOrderYs {w wr : World} {g j : Nat} {s : ByteArray} {ys : List Int} (h : Own w g s j wr) (hn : s.size ≤ 900000) (hj : j = stepsR s) (hy : sortTo s s.size = ys) : Calls Try.prog 25 #[.pointer (some ⟨g, 0, none⟩)] wr fun e w' => IntsOut wr ys e w' := by
  subst hj hy
  exact s_Order hn h.1
theorem law_Cuts_big (s : ByteArray) (a : Option Addr) (cap : Nat) (xs : List Int) (w : World) (hm : s.size ≤ maxLen) (hx : xs.length ≤ maxLen) (h : 30 < s.size ∨ s.size ≤ 30 ∧ 20 < xs.length) :
    Calls Try.prog 4 #[.string s, .slice a xs.length cap] w fun e w' => e = .returned (.bool true) ∧ Below w.heap.size w w' := by
  unfold maxLen at hm hx
  rcases h with h | ⟨h1, h2⟩
  · have hd : decide (30 < (s.size : Int)) = true := by simp; omega
    go_enter Try.func4, Try.ntmps4
    go_wp2_with (first | (go_at_call 15; refine (sort_banana _).mono ?_; rintro e w' ⟨rfl, hb⟩))
    go_ret
    exact ⟨rfl, hb⟩
  · have hd : decide (30 < (s.size : Int)) = false := by simp; omega
    have hd2 : decide (20 < (xs.length : Int)) = true := by simp; omega
    go_enter Try.func4, Try.ntmps4
    go_wp2_with (first | (go_at_call 15; refine (sort_banana _).mono ?_; rintro e w' ⟨rfl, hb⟩))
    go_ret
    exact ⟨rfl, hb⟩

set_option maxRecDepth 100000 in
set_option maxHeartbeats 1000000 in
theorem law_Cuts (s : ByteArray) (a : Option Addr) (cap : Nat) (xs : List Int) (w : World) (hs : s.size ≤ 30) (hx : xs.length ≤ 20) (hr : NumsAt .i64 w a xs) (hwf : ∀ n ∈ xs, -9223372036854775808 ≤ n ∧ n ≤ 9223372036854775807) :
    Calls Try.prog 4 #[.string s, .slice a xs.length cap] w fun e w' => e = .returned (.bool true) ∧ Below w.heap.size w w' := by
  have hd : decide (30 < (s.size : Int)) = false := by simp; omega
  have hd2 : decide (20 < (xs.length : Int)) = false := by simp; omega
  have HN := Lib.hid (Own.new s w (by omega))
  have HT := Lib.hid (fun w => r_Steps s w (by omega))
  have HDE := Lib.hid (done_eq s (by omega))
  have hTl := steps_le s (by omega)
  have HO : Hid (∀ (w wr : World) (g j : Nat), Own w g s j wr → j ≤ stepsR s → ∀ b, Calls Try.prog 21 #[.pointer (some ⟨g, 0, none⟩), .int .i64 b] wr fun e w' => e = .returned (.int .i64 (goneK s j b : Nat)) ∧ Own w g s (j + goneK s j b) w') := fun w wr g j h hj b => h.step (by omega) hj b
  have HGK : Hid (∀ j b, goneK s j b = (min b ((stepsR s - j : Nat) : Int)).toNat) := fun j b => rfl
  have HQ1 : Hid (∀ (w wr : World) (g j : Nat), Own w g s j wr → ∀ d : Bool, j ≤ stepsR s → (j == stepsR s) = d → Calls Try.prog 23 #[.pointer (some ⟨g, 0, none⟩)] wr fun e w' => e = .returned (.bool d) ∧ wr = w') := fun w wr g j h d hj hd => h.toDone (by omega) hj d hd
  have HQ2 : Hid (∀ (w wr : World) (g j : Nat), Own w g s j wr → j < stepsR s → Calls Try.prog 25 #[.pointer (some ⟨g, 0, none⟩)] wr fun e w' => e = .returned (.slice none 0 0) ∧ wr = w') := fun w wr g j h hj => h.toOrder (by omega) hj
  obtain ⟨ys, hy⟩ : ∃ ys, sortTo s s.size = ys := ⟨_, rfl⟩
  have hyl : ys.length = s.size := by rw [← hy, sortTo_length]
  have HQ3 : Hid (∀ (w wr : World) (g j : Nat), Own w g s j wr → j = stepsR s → Calls Try.prog 25 #[.pointer (some ⟨g, 0, none⟩)] wr fun e w' => IntsOut wr ys e w') := fun w wr g j h hj => h.toOrderYs (by omega) hj hy
  have H2 := Lib.hid (fun w => ref_Sorted_of s ys w (by omega) hy)
  have HL := Lib.hid hyl
  clear hyl hy
  generalize hT : stepsR s = T at *
  have HTT := Lib.hid hT
  clear hT
  have HR := Lib.hid hr
  have HW := Lib.hid hwf
  clear hr hwf
  go_enter Try.func4, Try.ntmps4
  go_wp2_with fail
  refine HN.out.mono ?_
  rintro e w1 ⟨g, rfl, hs1⟩
  have hs1 := Lib.hid hs1
  go_wp2_with fail
  refine (HT.out _).mono ?_
  rintro e w2 ⟨rfl, hb2⟩
  have hs2 := Lib.hid (hs1.out.below hb2)
  go_wp2_with fail
  go_loopw [8, 30] (fun gn i wr => ∃ j G : Nat, j ≤ 400 ∧ i = .int .i64 (j : Nat) ∧ gn = .int .i64 (G : Nat) ∧ G ≤ T ∧ Hid (Own w g s G wr)) (fun _ i _ => 400 - (intOf i).toNat)
  case atStart => exact ⟨0, 0, by omega, rfl, rfl, by omega, hs2⟩
  case round =>
    obtain ⟨wo, rfl⟩ : ∃ wo : World, wo = wr := ⟨_, rfl⟩
    obtain ⟨j, G, hj, rfl, rfl, hG, hO⟩ := hrel
    by_cases hlt : j < 400
    · have hj4 : decide ((j : Int) < 400) = true := by simp; omega
      go_wp2_with fail
      go_loopw [8, 34] (fun gn i wr => ∃ k G : Nat, k ≤ xs.length ∧ i = .int .i64 (k : Nat) ∧ gn = .int .i64 (G : Nat) ∧ G ≤ T ∧ Hid (Own w g s G wr)) (fun _ i _ => xs.length - (intOf i).toNat)
      case atStart => exact ⟨0, G, by omega, rfl, rfl, hG, hO⟩
      case round =>
        clear hO hG
        obtain ⟨k, G, hk, rfl, rfl, hG, hO⟩ := hrel
        by_cases hlt2 : k < xs.length
        · obtain ⟨b0, off, rfl, hc⟩ := (HR.out.keeps (Keeps.of_below (F := fun _ => False) hO.out.2) (fun _ _ _ => id)).some (by omega)
          have c1 := hc k hlt2
          have hb3 := HW.out (xs.getD k 0) (by rw [List.getD_eq_getElem?_getD, List.getElem?_eq_getElem hlt2]; exact List.getElem_mem hlt2)
          generalize xs.getD k 0 = b at *
          obtain ⟨hb3, hb4⟩ := hb3
          clear hc
          obtain ⟨m, hm⟩ : ∃ m : Int, min b ((T : Int) - (G : Int)) = m := ⟨_, rfl⟩
          have hIf : (if (T : Int) - (G : Int) < b then (T : Int) - (G : Int) else b) = m := by split <;> omega
          have hst := HO.out w wr g G hO.out hG b
          have hml : m ≤ 1267200000 := by omega
          have hml2 : -9223372036854775808 ≤ m := by omega
          by_cases hm0 : m ≤ 0
          · have hW0 : goneK s G b = 0 := by rw [HGK.out]; omega
            rw [hW0] at hst
            have hG2 : G ≤ T := hG
            clear hm hW0
            have HST : Hid (Calls Try.prog 21 #[.pointer (some ⟨g, 0, none⟩), .int .i64 b] wr fun e w' => e = .returned (.int .i64 0) ∧ Own w g s G w') := hst
            clear hst
            go_wp2_with fail
            refine HST.out.mono ?_
            rintro e w3 ⟨rfl, hO3⟩
            have HQs := Lib.hid hO3.toSteps
            have HQh := Lib.hid (hO3.toHeld (by omega))
            have hO4 := Lib.hid hO3
            clear HST hO
            by_cases hE : G = T
            · subst hE
              have HQd := Lib.hid (HQ1.out w w3 g G hO3 true (Nat.le_refl _) (by simp))
              clear hO3
              go_wp2_with (first | (go_at_call 22; refine (HQs.out).mono ?_; rintro e w5 ⟨rfl, rfl⟩) | (go_at_call 24; refine (HQh.out).mono ?_; rintro e w5 ⟨rfl, rfl⟩) | (go_at_call 23; refine (HQd.out).mono ?_; rintro e w5 ⟨rfl, rfl⟩))
              exact ⟨⟨k + 1, G, by omega, by go_num, rfl, hG2, hO4⟩, by simp [intOf]; omega⟩
            · have HQd := Lib.hid (HQ1.out w w3 g G hO3 false hG2 (by simpa using hE))
              have HQo := Lib.hid (HQ2.out w w3 g G hO3 (by omega))
              have e1 : ((G : Int) == (T : Int)) = false := by simp; omega
              have hlt3 : G < T := by omega
              have e2 : decide (G < T) = true := by simp; omega
              have e3 : decide ((G : Int) < (T : Int)) = true := by simp; omega
              clear hO3 hE
              go_wp2_with (first | (go_at_call 22; refine (HQs.out).mono ?_; rintro e w5 ⟨rfl, rfl⟩) | (go_at_call 24; refine (HQh.out).mono ?_; rintro e w5 ⟨rfl, rfl⟩) | (go_at_call 23; refine (HQd.out).mono ?_; rintro e w5 ⟨rfl, rfl⟩) | (go_at_call 25; refine (HQo.out).mono ?_; rintro e w5 ⟨rfl, rfl⟩))
              exact ⟨⟨k + 1, G, by omega, by go_num, rfl, hG2, hO4⟩, by simp [intOf]; omega⟩
          · obtain ⟨W, rfl⟩ := Int.eq_ofNat_of_zero_le (show 0 ≤ m by omega)
            have hW0 : goneK s G b = W := by rw [HGK.out]; omega
            rw [hW0] at hst
            obtain ⟨G', hG'⟩ : ∃ G', G + W = G' := ⟨_, rfl⟩
            rw [hG'] at hst
            have hq : (G : Int) + (W : Int) = (G' : Nat) := by omega
            have hG2 : G' ≤ T := by omega
            clear hm hW0 hG'
            have HST := Lib.hid hst
            clear hst
            go_wp2_with fail
            refine HST.out.mono ?_
            rintro e w3 ⟨rfl, hO3⟩
            have HQs := Lib.hid hO3.toSteps
            have HQh := Lib.hid (hO3.toHeld (by omega))
            have hO4 := Lib.hid hO3
            clear HST hO
            by_cases hE : G' = T
            · subst hE
              have HQd := Lib.hid (HQ1.out w w3 g G' hO3 true (Nat.le_refl _) (by simp))
              clear hO3
              go_wp2_with (first | (go_at_call 22; refine (HQs.out).mono ?_; rintro e w5 ⟨rfl, rfl⟩) | (go_at_call 24; refine (HQh.out).mono ?_; rintro e w5 ⟨rfl, rfl⟩) | (go_at_call 23; refine (HQd.out).mono ?_; rintro e w5 ⟨rfl, rfl⟩))
              exact ⟨⟨k + 1, G', by omega, by go_num, rfl, hG2, hO4⟩, by simp [intOf]; omega⟩
            · have HQd := Lib.hid (HQ1.out w w3 g G' hO3 false hG2 (by simpa using hE))
              have HQo := Lib.hid (HQ2.out w w3 g G' hO3 (by omega))
              have e1 : ((G' : Int) == (T : Int)) = false := by simp; omega
              have hlt3 : G' < T := by omega
              have e2 : decide (G' < T) = true := by simp; omega
              have e3 : decide ((G' : Int) < (T : Int)) = true := by simp; omega
              clear hO3 hE
              go_wp2_with (first | (go_at_call 22; refine (HQs.out).mono ?_; rintro e w5 ⟨rfl, rfl⟩) | (go_at_call 24; refine (HQh.out).mono ?_; rintro e w5 ⟨rfl, rfl⟩) | (go_at_call 23; refine (HQd.out).mono ?_; rintro e w5 ⟨rfl, rfl⟩) | (go_at_call 25; refine (HQo.out).mono ?_; rintro e w5 ⟨rfl, rfl⟩))
              exact ⟨⟨k + 1, G', by omega, by go_num, rfl, hG2, hO4⟩, by simp [intOf]; omega⟩
        · obtain rfl : k = xs.length := by omega
          go_wp2_with fail
          exact ⟨⟨j + 1, G, by omega, by go_num, rfl, hG, hO⟩, by simp [intOf]; omega⟩
    · obtain rfl : j = 400 := by omega
      have hst := HO.out w wo g G hO.out hG ((T : Int) - (G : Int))
      have hg : G + goneK s G ((T : Int) - (G : Int)) = T := by rw [HGK.out]; omega
      rw [hg] at hst
      have HST := Lib.hid hst
      clear hst hg hO
      go_wp2_with fail
      refine HST.out.mono ?_
      rintro e w3 ⟨rfl, hO3⟩
      have HQd := Lib.hid (HQ1.out w w3 g T hO3 true (Nat.le_refl _) (by simp))
      have HQs := Lib.hid hO3.toSteps
      have hst := HO.out w w3 g T hO3 (Nat.le_refl _) 1
      have hg : goneK s T 1 = 0 := by rw [HGK.out]; omega
      rw [hg] at hst
      have HST2 : Hid (Calls Try.prog 21 #[.pointer (some ⟨g, 0, none⟩), .int .i64 1] w3 fun e w' => e = .returned (.int .i64 0) ∧ Own w g s T w') := hst
      clear hst hg hO3 HST
      go_wp2_with (first | (go_at_call 22; refine (HQs.out).mono ?_; rintro e w5 ⟨rfl, rfl⟩) | (go_at_call 23; refine (HQd.out).mono ?_; rintro e w5 ⟨rfl, rfl⟩))
      refine HST2.out.mono ?_
      rintro e w4 ⟨rfl, hO4⟩
      have HQo := Lib.hid (HQ3.out w w4 g T hO4 rfl)
      have hO4 := Lib.hid hO4
      clear HST2
      go_wp2_with fail
      refine HQo.out.mono ?_
      rintro e w5 ⟨⟨a1, cap1, rfl, hr1⟩, hb5⟩
      go_wp2_with fail
      refine (H2.out _).mono ?_
      rintro e w6 ⟨⟨a2, cap2, rfl, hr2⟩, hb6⟩
      go_wp2_with fail
      refine (plain_Ints a1 a2 cap1 cap2 ys ys _ (by rw [HL.out]; omega) (hr1.below hb6) hr2).mono ?_
      rintro e w7 ⟨rfl, hb7⟩
      rw [show (ys == ys) = true by simp]
      go_wp2_with (first | (go_at_call 15; refine (sort_banana _).mono ?_; rintro e w8 ⟨rfl, hb8⟩))
      go_ret
      exact ⟨rfl, kt (kt (kt (kt hO4.out.2 hb5) hb6) hb7) hb8⟩

end Go.Proofs.Ytbakfaihnecmoaa

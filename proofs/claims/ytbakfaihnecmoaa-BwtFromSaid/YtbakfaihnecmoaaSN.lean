/- The walk of banana, of layer 16; the statement SorterNil. -/
import Derived.Test.YtbakfaihnecmoaaSM
import Derived.Test.YtbakfaihnecmoaaPlainW
namespace Go.Proofs.Ytbakfaihnecmoaa
set_option linter.unusedVariables false
set_option linter.unusedSimpArgs false
open Go.RowKit Sp Pl

theorem ban_sorted : sortTo ⟨#[98, 97, 110, 97, 110, 97]⟩ 6 = [5, 3, 1, 0, 4, 2] := by decide +kernel
theorem ab_steps : stepsR ⟨#[97, 98]⟩ = 8 := by
  have h1 : unlikeB ⟨#[97, 98]⟩ 1 = true := by decide +kernel
  have h2 : costT 2 = 6 := by rw [costT_big (by omega), show 2 / 2 = 1 from rfl, show 2 - 1 = 1 from rfl, costT_small (by omega)]
  unfold stepsR
  rw [if_neg (by decide), if_pos h1, show ByteArray.size ⟨#[97, 98]⟩ = 2 from rfl, h2]

theorem sort_banana (w : World) : Calls Try.prog 15 #[] w fun e w' => e = .returned (.bool true) ∧ Below w.heap.size w w' := by
  have h1 : ∀ w, _ := fun w => s_Of ⟨#[98, 97, 110, 97, 110, 97]⟩ w (by decide)
  rw [show ByteArray.size ⟨#[98, 97, 110, 97, 110, 97]⟩ = 6 from rfl, ban_sorted] at h1
  have H1 := Lib.hid h1
  have H2 := Lib.hid (fun w => s_New ⟨#[97, 98]⟩ w (by decide))
  have hg : 0 + goneK ⟨#[97, 98]⟩ 0 3 = 3 := by unfold goneK; rw [ab_steps]; rfl
  have hg0 : goneK ⟨#[97, 98]⟩ 0 3 = 3 := by omega
  have hnd : (AtS ⟨#[97, 98]⟩ 3).done = false := not_done _ (by decide) 3 (by rw [ab_steps]; omega)
  have HG := Lib.hid hg
  have HG0 := Lib.hid hg0
  have HND := Lib.hid hnd
  clear h1 hg hg0 hnd
  go_enter Try.func15, Try.ntmps15
  go_wp2_with fail
  refine (H1.out _).mono ?_
  rintro e w1 ⟨⟨a1, cap1, rfl, hr1⟩, hb1⟩
  go_wp2_with fail
  refine (H2.out _).mono ?_
  rintro e w2 ⟨⟨g, rfl, hs2⟩, hb2⟩
  have hs := s_Step (by decide) 0 (by rw [ab_steps]; omega) hs2 3
  rw [HG.out, HG0.out] at hs
  have HS := Lib.hid hs
  have HR1 := Lib.hid hr1
  clear hs hs2 hr1
  go_wp2_with fail
  refine HS.out.mono ?_
  rintro e w3 ⟨rfl, hp3⟩
  have hb3 : Below w1.heap.size w1 w3 := hb2.trans (hp3.2.below hb2.size (fun i hi => hi))
  have hr3 := HR1.out.below hb3
  have HIN := Lib.hid hp3.1
  clear hp3 HS
  go_wp2_with fail
  refine (plain_Ints a1 (some ⟨w3.heap.size, 0, none⟩) cap1 6 [5, 3, 1, 0, 4, 2] [5, 3, 1, 0, 4, 2] _ (by decide) (hr3.alloc _) (NumsAt.new _ _ _ _ _ rfl)).mono ?_
  rintro e w4 ⟨rfl, hb4⟩
  rw [show (([5, 3, 1, 0, 4, 2] : List Int) == [5, 3, 1, 0, 4, 2]) = true by decide]
  have hin4 := HIN.out.below ((ka (kr _) _).trans (hb4.mono (by simp)))
  have hD := s_Done _ hin4
  rw [HND.out] at hD
  have HD := Lib.hid hD
  have HH := Lib.hid (s_Held 3 (by decide) hin4)
  clear hD hin4
  go_wp2_with (first | (go_at_call 23; refine (HD.out).mono ?_; rintro e w5 ⟨rfl, rfl⟩) | (go_at_call 24; refine (HH.out).mono ?_; rintro e w6 ⟨rfl, rfl⟩))
  go_ret
  exact ⟨rfl, kt (kt hb1 hb3) ((ka (kr _) _).trans (hb4.mono (by simp)))⟩

theorem law_Nil (n : Int) (w : World) : Calls Try.prog 6 #[.int .i64 n] w fun e w' => e = .returned (.bool true) ∧ Below w.heap.size w w' := by
  go_enter Try.func6, Try.ntmps6
  go_wp2_with (first | (go_at_call 21; refine (s_Step_nil _ _).mono ?_; rintro e w5 ⟨rfl, rfl⟩) | (go_at_call 23; refine (s_Done_nil _).mono ?_; rintro e w5 ⟨rfl, rfl⟩) | (go_at_call 25; refine (s_Order_nil _).mono ?_; rintro e w5 ⟨rfl, rfl⟩) | (go_at_call 22; refine (s_Steps_nil _).mono ?_; rintro e w5 ⟨rfl, rfl⟩) | (go_at_call 24; refine (s_Held_nil _).mono ?_; rintro e w5 ⟨rfl, rfl⟩) | (go_at_call 15; refine (sort_banana _).mono ?_; rintro e w5 ⟨rfl, hb⟩))
  go_ret
  exact ⟨rfl, hb⟩

end Go.Proofs.Ytbakfaihnecmoaa

/- A turner: the walk of Of; banana, of layer 17; the statement BwtNil. -/
import Derived.Test.YtbakfaihnecmoaaBD
namespace Go.Proofs.Ytbakfaihnecmoaa
set_option linter.unusedVariables false
set_option linter.unusedSimpArgs false
open Go.RowKit Sp Pl

def lastCell (gt : Nat) (w : World) : Nat := match w.cell? ⟨gt, 3, none⟩ with | some (.slice _ n _) => n | _ => 0
theorem last_cell {B : Nat} {w : World} {gt : Nat} {s : ByteArray} {n : Nat} (h : TOwn B gt s n w) : lastCell gt w = n - stepsR s := by
  obtain ⟨set, F, g, o, l, h⟩ := h
  obtain ⟨a, cap, rfl, _⟩ := h.lastv
  have := h.main.at_ (v := .slice a (n - stepsR s) cap) 3 rfl
  unfold lastCell
  rw [this]
theorem TOwn.below {B : Nat} {w w' : World} {gt : Nat} {s : ByteArray} {n : Nat} (h : TOwn B gt s n w) (k : Below w.heap.size w w') : TOwn B gt s n w' := by
  obtain ⟨set, h⟩ := h
  exact ⟨set, h.below k⟩
theorem TOwn.toDone {B : Nat} {w : World} {gt : Nat} {s : ByteArray} {n : Nat} (h : TOwn B gt s n w) (hs : s.size ≤ 900000) (hn : n ≤ stepsR s + s.size) (d : Bool) (hd : (n - stepsR s == s.size) = d) :
    Calls Try.prog 36 #[.pointer (some ⟨gt, 0, none⟩)] w fun e w' => e = .returned (.bool d) ∧ Below w.heap.size w w' := by
  obtain ⟨set, h⟩ := h
  exact b_Done h hs hn d hd
theorem TOwn.toSteps {B : Nat} {w : World} {gt : Nat} {s : ByteArray} {n : Nat} (h : TOwn B gt s n w) (hs : s.size ≤ 900000) (hn : n ≤ stepsR s + s.size) :
    Calls Try.prog 38 #[.pointer (some ⟨gt, 0, none⟩)] w fun e w' => e = .returned (.int .i64 (n : Nat)) ∧ Below w.heap.size w w' := by
  obtain ⟨set, h⟩ := h
  exact b_Steps h hs hn
theorem TOwn.toHeld {B : Nat} {w : World} {gt : Nat} {s : ByteArray} {n : Nat} (h : TOwn B gt s n w) (hs : s.size ≤ 900000) (hn : n ≤ stepsR s + s.size) :
    Calls Try.prog 39 #[.pointer (some ⟨gt, 0, none⟩)] w fun e w' => e = .returned (.int .i64 (3 * (s.size : Nat) + ((n - stepsR s : Nat) : Int))) ∧ Below w.heap.size w w' := by
  obtain ⟨set, h⟩ := h
  exact b_Held h hs hn
theorem TOwn.toNot {B : Nat} {w : World} {gt : Nat} {s : ByteArray} {n : Nat} (h : TOwn B gt s n w) (hs : s.size ≤ 900000) (hn : n < stepsR s + s.size) :
    Calls Try.prog 40 #[.pointer (some ⟨gt, 0, none⟩)] w fun e w' => e = .returned (.tuple #[.string ⟨#[]⟩, .int .i64 0]) ∧ Below w.heap.size w w' := by
  obtain ⟨set, h⟩ := h
  exact b_Result_not h hs hn
theorem TOwn.toResult {B : Nat} {w : World} {gt : Nat} {s : ByteArray} {n : Nat} (h : TOwn B gt s n w) (hs : s.size ≤ 900000) (hn : n = stepsR s + s.size) (h1 : 1 ≤ s.size) (L : ByteArray) (o : Nat) (hL : lastStr s = L) (ho : origTo s s.size = o) :
    Calls Try.prog 40 #[.pointer (some ⟨gt, 0, none⟩)] w fun e w' => e = .returned (.tuple #[.string L, .int .i64 (o : Nat)]) ∧ Below w.heap.size w w' := by
  obtain ⟨set, h⟩ := h
  subst hL ho
  exact b_Result h hs hn h1

theorem b_Of_nil (w : World) : Calls Try.prog 29 #[.string ⟨#[]⟩] w fun e w' => e = .returned (.tuple #[.string ⟨#[]⟩, .int .i64 0, .int .i64 1]) ∧ w = w' := by
  go_enter Try.func29, Try.ntmps29
  go_wp2_with (first | (go_at_call 34; refine (b_New_nil _).mono ?_; rintro e w1 ⟨rfl, rfl⟩))
  go_ret3
  exact ⟨rfl, rfl⟩

theorem b_Of (s : ByteArray) (w : World) (hs : s.size ≤ 900000) (h1 : 1 ≤ s.size) (L : ByteArray) (o : Nat) (hL : lastStr s = L) (ho : origTo s s.size = o) :
    Calls Try.prog 29 #[.string s] w fun e w' => e = .returned (.tuple #[.string L, .int .i64 (o : Nat), .int .i64 0]) ∧ Below w.heap.size w w' := by
  have hT := steps_le s hs
  have HN := Lib.hid (b_New s w hs h1)
  have HL := Lib.hid hL
  have HO := Lib.hid ho
  clear hL ho
  go_enter Try.func29, Try.ntmps29
  go_wp2_with fail
  refine HN.out.mono ?_
  rintro e w1 ⟨⟨gt, rfl, ht⟩, hb1⟩
  have ht := Lib.hid ht
  go_wp2_with fail
  go_loopw [17] (fun v wr => ∃ n : Nat, n ≤ stepsR s + s.size ∧ (n = 0 ∨ n = stepsR s + s.size) ∧ Hid (TOwn w.heap.size gt s n wr ∧ Below w.heap.size w wr)) (fun v wr => s.size - lastCell gt wr)
  case atStart => exact ⟨0, Nat.zero_le _, .inl rfl, ⟨⟨false, ht.out⟩, hb1⟩⟩
  case round =>
    obtain ⟨wo, rfl⟩ : ∃ wo : World, wo = wr := ⟨_, rfl⟩
    obtain ⟨n, hn, hn2, hp⟩ := hrel
    by_cases hlt : n = stepsR s + s.size
    · have HD := Lib.hid (hp.out.1.toDone hs hn true (by simp; omega))
      have HR : Hid (∀ w1, Below wo.heap.size wo w1 → Calls Try.prog 40 #[.pointer (some ⟨gt, 0, none⟩)] w1 fun e w' => e = .returned (.tuple #[.string L, .int .i64 (o : Nat)]) ∧ Below w1.heap.size w1 w') := fun w1 hb => (hp.out.1.below hb).toResult hs hlt h1 L o HL.out HO.out
      clear hlt hn2
      go_wp2_with fail
      refine HD.out.mono ?_
      rintro e w2 ⟨rfl, hb2⟩
      go_wp2_with fail
      refine (HR.out w2 hb2).mono ?_
      rintro e w3 ⟨rfl, hb3⟩
      go_wp2_with fail
      go_ret3
      exact ⟨rfl, kt (kt hp.out.2 hb2) hb3⟩
    · have HD := Lib.hid (hp.out.1.toDone hs hn false (by simp; omega))
      obtain rfl : n = 0 := by omega
      have hg : 0 + goneT s 0 1099511627776 = stepsR s + s.size := by unfold goneT; omega
      have HS : Hid (∀ w1, Below wo.heap.size wo w1 → Calls Try.prog 35 #[.pointer (some ⟨gt, 0, none⟩), .int .i64 1099511627776] w1 fun e w' => e = .returned (.int .i64 (goneT s 0 1099511627776 : Nat)) ∧ TOwn w.heap.size gt s (stepsR s + s.size) w' ∧ Below w.heap.size w1 w') := fun w1 hb => by
        have := b_Step (hp.out.1.below hb) hs h1 hn (Nat.le_trans hp.out.2.size hb.size) 1099511627776
        rw [hg] at this
        exact this
      have hm0 := last_cell hp.out.1
      rw [Nat.zero_sub] at hm0
      have HM0 := Lib.hid hm0
      clear hlt hn2 hg hm0
      go_wp2_with fail
      refine HD.out.mono ?_
      rintro e w2 ⟨rfl, hb2⟩
      go_wp2_with fail
      refine (HS.out w2 hb2).mono ?_
      rintro e w3 ⟨rfl, ht3, hb3⟩
      have hm3 := last_cell ht3
      have HM3 := Lib.hid hm3
      have hn3 : Hid (TOwn w.heap.size gt s (stepsR s + s.size) w3 ∧ Below w.heap.size w w3) := ⟨ht3, (kt hp.out.2 hb2).trans hb3⟩
      clear ht3 hb3 hm3 HS
      go_wp2_with fail
      refine ⟨⟨stepsR s + s.size, Nat.le_refl _, .inr rfl, hn3⟩, ?_⟩
      rw [HM3.out, HM0.out]
      omega

theorem ban_last : lastStr ⟨#[98, 97, 110, 97, 110, 97]⟩ = ⟨#[110, 110, 98, 97, 97, 97]⟩ := by decide +kernel
theorem ban_orig : origTo ⟨#[98, 97, 110, 97, 110, 97]⟩ (ByteArray.size ⟨#[98, 97, 110, 97, 110, 97]⟩) = 3 := by decide +kernel
theorem turn_banana (w : World) : Calls Try.prog 28 #[] w fun e w' => e = .returned (.bool true) ∧ Below w.heap.size w w' := by
  have H1 := Lib.hid (fun w => b_Of ⟨#[98, 97, 110, 97, 110, 97]⟩ w (by decide) (by decide) _ _ ban_last ban_orig)
  go_enter Try.func28, Try.ntmps28
  go_wp2_with fail
  refine (H1.out _).mono ?_
  rintro e w1 ⟨rfl, hb1⟩
  go_wp2_with fail
  go_ret
  exact ⟨rfl, hb1⟩

theorem law_BNil (n : Int) (w : World) : Calls Try.prog 13 #[.int .i64 n] w fun e w' => e = .returned (.bool true) ∧ Below w.heap.size w w' := by
  go_enter Try.func13, Try.ntmps13
  go_wp2_with fail
  refine (b_Result_nil _).mono ?_
  rintro e w1 ⟨rfl, hb1⟩
  go_wp2_with (first | (go_at_call 34; refine (b_New_nil _).mono ?_; rintro e w5 ⟨rfl, rfl⟩) | (go_at_call 35; refine (b_Step_nil _ _).mono ?_; rintro e w5 ⟨rfl, rfl⟩))
  refine (b_Done_nil _).mono ?_
  rintro e w2 ⟨rfl, hb2⟩
  go_wp2_with (first | (go_at_call 38; refine (b_Steps_nil _).mono ?_; rintro e w5 ⟨rfl, rfl⟩) | (go_at_call 39; refine (b_Held_nil _).mono ?_; rintro e w5 ⟨rfl, rfl⟩) | (go_at_call 28; refine (turn_banana _).mono ?_; rintro e w5 ⟨rfl, hb3⟩))
  go_ret
  exact ⟨rfl, kt (kt hb1 hb2) hb3⟩

end Go.Proofs.Ytbakfaihnecmoaa

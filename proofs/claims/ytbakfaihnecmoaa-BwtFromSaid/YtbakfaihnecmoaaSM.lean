/- The walks of Clone, Order, Of. -/
import Derived.Test.YtbakfaihnecmoaaSL
namespace Go.Proofs.Ytbakfaihnecmoaa
set_option linter.unusedVariables false
set_option linter.unusedSimpArgs false
open Go.RowKit Sp Pl
variable {w : World} {F : Nat → Prop} {g : Nat} {s : ByteArray}

theorem nums_of_nat {w : World} {g : Nat} {t : TypeId} {xs : List Nat} (h : Blk w g t (natRow xs)) : NumsAt .i64 w (some ⟨g, 0, none⟩) (xs.map fun (v : Nat) => (v : Int)) := by
  intro j hj
  rw [List.length_map] at hj
  refine ⟨g, 0, rfl, ?_⟩
  rw [Nat.zero_add, natRow_at h hj]
  simp [List.getD_eq_getElem?_getD, hj]

theorem owns_new0 (w : World) : OwnsNums .i64 3 w.heap.size (w.alloc (.cells #[] 3)) (.slice (some ⟨w.heap.size, 0, none⟩) 0 0) [] :=
  World.ownsRow_lit (base := w.heap.size) (e := 3) (size := 1) w #[] 0 (Nat.le_refl _) (Nat.zero_le _) rfl

theorem clone (p : Addr) (xs : List Int) (cap : Nat) (w : World) (hl : xs.length ≤ 1099511627776) (hr : NumsAt .i64 w (some p) xs) :
    Calls Try.prog 48 #[.slice (some p) xs.length cap] w fun e w' => IntsOut w xs e w' := by
  have ho := Lib.hid (owns_new0 w)
  have hr := Lib.hid (hr.alloc (.cells #[] 3))
  have hnil : ∀ w : World, Sem.run Try.prog (binOp .eql 23 (.slice (some p) xs.length cap) (.slice none 0 0)) w = .ok (.bool false) w := fun w => Lib.run_eql_slice_nil w 23 3 (some p) xs.length cap 0 0 Try.underlying23
  go_enter Try.func48, Try.ntmps48
  go_wp2_with (first | (at_builtin; refine app_nums (w := (w.alloc (.cells #[] 3))) rfl _ _ 23 3 rfl Try.underlying23 info_int ho.out hr.out rfl rfl (by decide) (by (simp; omega)) (by (simp)) ?_; intro v3 w3 own3 be3))
  obtain ⟨a, c, rfl, hr3⟩ := own3.reads
  go_ret
  simp only [List.nil_append] at hr3 ⊢
  exact ⟨⟨a, c, rfl, hr3⟩, (ka (kr w) _).trans be3⟩

theorem s_Order_not (x : SS) (hd : x.done = false) (h : SIn w F g s x) : Calls Try.prog 25 #[.pointer (some ⟨g, 0, none⟩)] w fun e w' => e = .returned (.slice none 0 0) ∧ w = w' := by
  have HD := s_Done x h
  rw [hd] at HD
  have HD := Lib.hid HD
  clear h hd
  go_enter Try.func25, Try.ntmps25
  go_wp2_with (first | (go_at_call 23; refine (HD.out).mono ?_; rintro e w1 ⟨rfl, rfl⟩))
  go_ret
  exact ⟨rfl, rfl⟩
theorem s_Order (hn : s.size ≤ 900000) (h : SIn w F g s (AtS s (stepsR s))) : Calls Try.prog 25 #[.pointer (some ⟨g, 0, none⟩)] w fun e w' => IntsOut w (sortTo s s.size) e w' := by
  have HD := s_Done _ h
  rw [is_done s hn] at HD
  have HD := Lib.hid HD
  obtain ⟨go, gc, ga, sv, h, _⟩ := h
  have c1 : w.cell? ⟨g, 1, none⟩ = some (.slice (some ⟨go, 0, none⟩) s.size s.size) := h.main.at_ 1 rfl
  have hr := nums_of_nat h.ord
  rw [is_sorted s hn] at hr
  have hc := clone ⟨go, 0, none⟩ (sortTo s s.size) s.size w (by rw [sortTo_length]; omega) hr
  rw [sortTo_length] at hc
  have HC := Lib.hid hc
  clear h hr hc
  go_enter Try.func25, Try.ntmps25
  go_wp2_with (first | (go_at_call 23; refine (HD.out).mono ?_; rintro e w1 ⟨rfl, rfl⟩))
  refine HC.out.mono ?_
  rintro e w' ⟨⟨a, cap, rfl, hr⟩, hb⟩
  go_wp2_with fail
  go_ret
  exact ⟨⟨a, cap, rfl, hr⟩, hb⟩

theorem s_Of_long (s : ByteArray) (w : World) (hm : s.size ≤ maxLen) (h : 900000 < s.size) : Calls Try.prog 16 #[.string s] w fun e w' => e = .returned (.tuple #[.slice none 0 0, .int .i64 2]) ∧ w = w' := by
  have HN := Lib.hid (s_New_long s w hm h)
  go_enter Try.func16, Try.ntmps16
  go_wp2_with (first | (go_at_call 19; refine (HN.out).mono ?_; rintro e w1 ⟨rfl, rfl⟩))
  go_ret2
  exact ⟨rfl, rfl⟩

theorem s_Of (s : ByteArray) (w : World) (h : s.size ≤ 900000) :
    Calls Try.prog 16 #[.string s] w fun e w' => (∃ a cap, e = .returned (.tuple #[.slice a (sortTo s s.size).length cap, .int .i64 0]) ∧ NumsAt .i64 w' a (sortTo s s.size)) ∧ Below w.heap.size w w' := by
  have hT := steps_le s h
  have HN := Lib.hid (s_New s w h)
  go_enter Try.func16, Try.ntmps16
  go_wp2_with fail
  refine HN.out.mono ?_
  rintro e w1 ⟨⟨g, rfl, h1⟩, hb1⟩
  have h1 := Lib.hid h1
  go_wp2_with fail
  go_loopw [14] (fun v wr => ∃ j : Nat, j ≤ stepsR s ∧ (j = 0 ∨ j = stepsR s) ∧ Hid (SIn wr (fun b => w.heap.size ≤ b) g s (AtS s j) ∧ Below w.heap.size w wr)) (fun v wr => stepsR s - stepsCell g wr)
  case atStart => exact ⟨0, Nat.zero_le _, .inl rfl, ⟨h1.out, hb1⟩⟩
  case round =>
    obtain ⟨wo, rfl⟩ : ∃ wo : World, wo = wr := ⟨_, rfl⟩
    obtain ⟨j, hj, hj2, hp⟩ := hrel
    by_cases hlt : j < stepsR s
    · have hd := s_Done _ hp.out.1
      rw [not_done s h j hlt] at hd
      have HD := Lib.hid hd
      have hst := s_Step h j hj hp.out.1 1099511627776
      have hg : j + goneK s j 1099511627776 = stepsR s := by unfold goneK; omega
      rw [hg] at hst
      have HS := Lib.hid hst
      have hmeas : Hid (stepsCell g wo = j) := by
        obtain ⟨go, gc, ga, sv, h3, _⟩ := hp.out.1
        have := h3.main.at_ (v := .int .i64 ((AtS s j).steps : Nat)) 14 rfl
        rw [AtS_steps] at this
        unfold Hid stepsCell
        rw [this]; rfl
      clear hd hst hg h1
      go_wp2_with fail
      refine HD.out.mono ?_
      rintro e w2 ⟨rfl, rfl⟩
      go_wp2_with fail
      refine HS.out.mono ?_
      rintro e w3 ⟨rfl, hsp⟩
      have hz := hp.out.2.size
      have hn : Hid (SIn w3 (fun b => w.heap.size ≤ b) g s (AtS s (stepsR s)) ∧ Below w.heap.size w w3) := by
        have e1 := hsp.1
        refine ⟨?_, hp.out.2.trans (hsp.2.below hz fun i hi => hi)⟩
        obtain ⟨go, gc, ga, sv, h3, f1, f2, f3, f4, f5⟩ := e1
        have ff : ∀ b, (w.heap.size ≤ b ∨ wo.heap.size ≤ b) → w.heap.size ≤ b := fun b hb => by omega
        exact ⟨go, gc, ga, sv, h3, ff _ f1, ff _ f2, ff _ f3, ff _ f4, fun b hb => ff _ (f5 b hb)⟩
      have hm2 : Hid (stepsCell g w3 = stepsR s) := by
        obtain ⟨go, gc, ga, sv, h3, _⟩ := hn.out.1
        have := h3.main.at_ (v := .int .i64 ((AtS s (stepsR s)).steps : Nat)) 14 rfl
        rw [AtS_steps] at this
        unfold Hid stepsCell
        rw [this]; rfl
      clear hsp
      go_wp2_with fail
      refine ⟨⟨stepsR s, Nat.le_refl _, .inr rfl, hn⟩, ?_⟩
      rw [hm2.out, hmeas.out]
      omega
    · obtain rfl : j = stepsR s := by omega
      have hd := s_Done _ hp.out.1
      rw [is_done s h] at hd
      have HD := Lib.hid hd
      have HO := Lib.hid (s_Order h hp.out.1)
      clear hd h1 hj2
      go_wp2_with fail
      refine HD.out.mono ?_
      rintro e w2 ⟨rfl, rfl⟩
      go_wp2_with fail
      refine HO.out.mono ?_
      rintro e w3 ⟨⟨a, cap, rfl, hr⟩, hb⟩
      have hz := hp.out.2.size
      go_wp2_with fail
      go_ret2
      exact ⟨⟨a, cap, rfl, hr⟩, hp.out.2.trans (hb.mono hz)⟩

end Go.Proofs.Ytbakfaihnecmoaa

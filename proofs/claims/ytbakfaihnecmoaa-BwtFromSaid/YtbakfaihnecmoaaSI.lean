/- The walk of rank. -/
import Derived.Test.YtbakfaihnecmoaaSH
namespace Go.Proofs.Ytbakfaihnecmoaa
set_option linter.unusedVariables false
set_option linter.unusedSimpArgs false
open Go.RowKit Sp
variable {w : World} {F : Nat → Prop} {g : Nat} {s : ByteArray} {x : SS}

theorem s_pass (h : SIn w F g s x) (hol : x.ord.length = s.size) (hn2 : s.size ≤ 900000) (hrl : x.reach ≤ 2 * s.size) (hll : x.last ≤ s.size) (hs : x.stk = []) :
    Calls Try.prog 60 #[.pointer (some ⟨g, 0, none⟩)] w fun e w' => e = .returned (.tuple #[]) ∧ SPost F g s w (passS x) w' := by
  by_cases hc : x.last + 1 = s.size ∨ s.size ≤ x.reach
  · exact s_pass_done h hol hn2 hrl hll hc
  · exact s_pass_more h hol hn2 hll hs hc


theorem s_rank_zero (h : SIn w F g s x) {n m : Nat} (hn : n = s.size) (ho : Ok n m x) (hn2 : n ≤ 900000) (hs : x.stk = []) (h0 : x.hi = 0) (hd : x.done = false) (hr : x.rnk = 0) :
    Calls Try.prog 58 #[.pointer (some ⟨g, 0, none⟩)] w fun e w' => e = .returned (.tuple #[]) ∧ SPost F g s w (rankS s x) w' := by
  subst hn
  have hrn := ho.rnk hd
  have hlx := ho.last2
  have hln := ho.last
  have hol := ho.ol
  have hal := ho.al
  have hrl := ho.rle
  obtain ⟨L, hL⟩ : ∃ L, lastS s x = L := ⟨_, rfl⟩
  have hLl : L ≤ s.size := by have := lastS_le s ho; omega
  have hlt := ho.ord x.rnk hrn
  have hlt2 := ho.ord (x.rnk - 1) (by omega)
  obtain ⟨go, gc, ga, sv, h, f1, f2, f3, f4, f5⟩ := h
  have hX : Hid (rankS s x = if (classS s x).rnk = x.ord.length then passS (classS s x) else classS s x) := rfl
  have hL0 : L = 0 := by rw [← hL]; unfold lastS; rw [if_pos hr]
  have c0 : w.cell? ⟨g, 12, none⟩ = some (.int .i64 (x.rnk : Nat)) := h.main.at_ 12 rfl
  have c13 : w.cell? ⟨g, 13, none⟩ = some (.int .i64 (x.last : Nat)) := h.main.at_ 13 rfl
  have k13 := h.main.free 13
  have hd0 : ((x.rnk : Int) == 0) = true := by simpa using hr
  have HR := Lib.hid hr
  clear hr
  go_enter Try.func58, Try.ntmps58
  go_wp2_with fail
  obtain ⟨W2, hW2⟩ : ∃ W2 : World, w.setCell ⟨g, 13, none⟩ (.int .i64 0) = W2 := ⟨_, rfl⟩
  have h2 : SAt W2 g go gc ga sv s { x with last := L } := by
    rw [← hW2, hL0]; exact h.put 13 _ { x with last := 0 } rfl rfl rfl rfl rfl
  have kp2 : Keeps F w W2 := by rw [← hW2]; exact (Keeps.refl F w).set (.inr f1) _
  rw [hW2]
  clear hW2 c0 c13 k13 h hL0 hd0
  have HL := Lib.hid hL
  clear hL
  have c1 : W2.cell? ⟨g, 1, none⟩ = some (.slice (some ⟨go, 0, none⟩) s.size s.size) := h2.main.at_ 1 rfl
  have c3 : W2.cell? ⟨g, 3, none⟩ = some (.slice (some ⟨ga, 0, none⟩) s.size s.size) := h2.main.at_ 3 rfl
  have c10 : W2.cell? ⟨g, 12, none⟩ = some (.int .i64 (x.rnk : Nat)) := h2.main.at_ 12 rfl
  have c11 : W2.cell? ⟨g, 13, none⟩ = some (.int .i64 (L : Nat)) := h2.main.at_ 13 rfl
  have k10 := h2.main.free 12
  have i1 := natRow_at h2.ord (i := x.rnk) (by show _ < x.ord.length; omega)
  have i2 := natRow_at h2.asd (i := x.ord.getD x.rnk 0) (by show _ < x.asd.length; omega)
  have kk2 := h2.asd.free (x.ord.getD x.rnk 0)
  have n1 := h2.gne.1
  have n3 := h2.gne.2.2
  have n4 := h2.oa
  have q1 : (0 : Int) ≤ (x.rnk : Int) := by omega
  have q2 : (x.rnk : Int) < (s.size : Int) := by omega
  have hfin : Hid (∀ W5, W5 = (((W2.setCell ⟨ga, x.ord.getD x.rnk 0, none⟩ (.int .i64 (L : Nat))).drew).setCell ⟨g, 12, none⟩ (.int .i64 ((x.rnk : Int) + 1))) → SAt W5 g go gc ga sv s (classS s x) ∧ Keeps F w W5) := by
    intro W5 e
    subst e
    unfold classS
    rw [HL.out]
    exact ⟨(h2.putAsd (x.ord.getD x.rnk 0) L).drew.put 12 _ { x with last := L, asd := x.asd.set (x.ord.getD x.rnk 0) L, rnk := x.rnk + 1 } rfl rfl rfl rfl rfl, ((kp2.set (.inr f4) _).drew).set (.inr f1) _⟩
  have hcl : Hid ((classS s x).last = L) := by unfold Hid classS; exact HL.out
  simp only at i1 i2
  generalize x.ord.getD x.rnk 0 = u at *
  generalize x.asd.getD u 0 = u2 at *
  clear h2 kp2
  go_region
  go_wp2_with fail
  obtain ⟨W5, hW5⟩ : ∃ W5 : World, (((W2.setCell ⟨ga, u, none⟩ (.int .i64 (L : Nat))).drew).setCell ⟨g, 12, none⟩ (.int .i64 ((x.rnk : Int) + 1))) = W5 := ⟨_, rfl⟩
  obtain ⟨a5, k5⟩ := hfin.out W5 hW5.symm
  rw [show ((W2.setCell ⟨ga, u, none⟩ (.int .i64 (L : Nat))).setCell ⟨g, 12, none⟩ (.int .i64 ((x.rnk : Int) + 1))).drew = W5 from hW5]
  clear hW5 c1 c3 c10 c11 k10 i1 i2 kk2 hfin
  have c1 : W5.cell? ⟨g, 1, none⟩ = some (.slice (some ⟨go, 0, none⟩) s.size s.size) := a5.main.at_ 1 rfl
  have c10 : W5.cell? ⟨g, 12, none⟩ = some (.int .i64 ((x.rnk : Int) + 1)) := a5.main.at_ 12 rfl
  by_cases he : x.rnk + 1 = s.size
  · have hd7 : ((x.rnk : Int) + 1 == (s.size : Int)) = true := by simp; omega
    go_quiet (fail)
    have a6 := a5.below (kd (kr _) nq)
    have k6 := k5.drewN nq
    have hin : SIn (W5.drewN nq) (fun b => F b ∨ w.heap.size ≤ b) g s (classS s x) := ⟨go, gc, ga, sv, a6, .inl f1, .inl f2, .inl f3, .inl f4, fun b hb => .inl (f5 b hb)⟩
    go_wp2_with fail
    refine (s_pass hin hol hn2 hrl (by rw [hcl.out]; exact hLl) hs).mono ?_
    rintro e w' ⟨rfl, hsp⟩
    go_wp2_with fail
    go_end0
    rw [hX.out, if_pos (by show x.rnk + 1 = _; rw [hol]; exact he)]
    exact ⟨rfl, (spost a6 f1 f2 f3 f4 f5 k6).then hsp⟩
  · have hd7 : ((x.rnk : Int) + 1 == (s.size : Int)) = false := by simp; omega
    go_quiet (fail)
    have a6 := a5.below (kd (kr _) nq)
    have k6 := k5.drewN nq
    go_wp2_with fail
    go_end0
    rw [hX.out, if_neg (by show ¬ x.rnk + 1 = _; rw [hol]; exact he)]
    exact ⟨rfl, spost a6 f1 f2 f3 f4 f5 k6⟩

theorem s_rank_up (h : SIn w F g s x) {n m : Nat} (hn : n = s.size) (ho : Ok n m x) (hn2 : n ≤ 900000) (hs : x.stk = []) (h0 : x.hi = 0) (hd : x.done = false) (hr : x.rnk ≠ 0) (hab : abS s x (x.ord.getD x.rnk 0) (x.ord.getD (x.rnk - 1) 0) = true) :
    Calls Try.prog 58 #[.pointer (some ⟨g, 0, none⟩)] w fun e w' => e = .returned (.tuple #[]) ∧ SPost F g s w (rankS s x) w' := by
  subst hn
  have hrn := ho.rnk hd
  have hlx := ho.last2
  have hln := ho.last
  have hol := ho.ol
  have hal := ho.al
  have hrl := ho.rle
  obtain ⟨L, hL⟩ : ∃ L, lastS s x = L := ⟨_, rfl⟩
  have hLl : L ≤ s.size := by have := lastS_le s ho; omega
  have hlt := ho.ord x.rnk hrn
  have hlt2 := ho.ord (x.rnk - 1) (by omega)
  obtain ⟨go, gc, ga, sv, h, f1, f2, f3, f4, f5⟩ := h
  have hX : Hid (rankS s x = if (classS s x).rnk = x.ord.length then passS (classS s x) else classS s x) := rfl
  have hLr : L = x.last + 1 := by rw [← hL]; unfold lastS; rw [if_neg hr, if_pos hab]
  obtain ⟨r, hr1⟩ : ∃ r, x.rnk = r + 1 := ⟨x.rnk - 1, by omega⟩
  have hr2 : x.rnk - 1 = r := by omega
  rw [hr2] at hab hlt2
  rw [hr1] at hab hlt hrn
  have c0 : w.cell? ⟨g, 12, none⟩ = some (.int .i64 ((r : Int) + 1)) := by have := h.main.at_ (v := .int .i64 (x.rnk : Nat)) 12 rfl; rw [this, hr1]; rfl
  have c13 : w.cell? ⟨g, 13, none⟩ = some (.int .i64 (x.last : Nat)) := h.main.at_ 13 rfl
  have k13 := h.main.free 13
  have c1 : w.cell? ⟨g, 1, none⟩ = some (.slice (some ⟨go, 0, none⟩) s.size s.size) := h.main.at_ 1 rfl
  have hd0 : ((r : Int) + 1 == 0) = false := by simp; omega
  have i1 := natRow_at h.ord (i := r + 1) (by omega)
  have i2 := natRow_at h.ord (i := r) (by omega)
  have HA : Hid (∀ W, Below w.heap.size w W → Calls Try.prog 59 #[.pointer (some ⟨g, 0, none⟩), .int .i64 (x.ord.getD (r + 1) 0 : Nat), .int .i64 (x.ord.getD r 0 : Nat)] W fun e w'' => e = .returned (.bool true) ∧ Below W.heap.size W w'') := by
    intro W hW
    have := s_above (h.below hW) rfl ho hn2 (x.ord.getD (r + 1) 0) (x.ord.getD r 0) hlt hlt2
    rw [hab] at this
    exact this
  have hAL : Hid (∀ W, Below w.heap.size w W → SAt W g go gc ga sv s x) := fun W hW => h.below hW
  have q1 : (0 : Int) ≤ ((r : Int) + 1) := by omega
  have q2 : ((r : Int) + 1) < (s.size : Int) := by omega
  have q3 : (0 : Int) ≤ ((r : Nat) : Int) := by omega
  have q4 : ((r : Nat) : Int) < (s.size : Int) := by omega
  have q5 : r + 1 < s.size := hrn
  have q6 : r < s.size := by omega
  have hkeep : Hid (∀ W, Below w.heap.size w W → Below w.heap.size w W ∧ W.cell? ⟨g, 1, none⟩ = some (.slice (some ⟨go, 0, none⟩) s.size s.size) ∧ W.cell? ⟨go, r + 1, none⟩ = some (.int .i64 (x.ord.getD (r + 1) 0 : Nat)) ∧ W.cell? ⟨go, r, none⟩ = some (.int .i64 (x.ord.getD r 0 : Nat))) :=
    fun W hW => ⟨hW, cell_below c1 hW, cell_below i1 hW, cell_below i2 hW⟩
  have hw2 : IntKind.i64.wrap (r : Int) = (r : Int) := IntWalk.i64_in _ (by omega)
  have HR := Lib.hid hr1
  have HB := Lib.hid hab
  generalize hu0 : x.ord.getD (r + 1) 0 = u at *
  generalize hv0 : x.ord.getD r 0 = v at *
  have HU := Lib.hid hu0
  clear hr hab hr1 hr2 hu0 hv0
  go_enter Try.func58, Try.ntmps58
  go_wp2_with fail
  go_region_held3 (fun W => Below w.heap.size w W ∧ W.cell? ⟨g, 1, none⟩ = some (.slice (some ⟨go, 0, none⟩) s.size s.size) ∧ W.cell? ⟨go, r + 1, none⟩ = some (.int .i64 (u : Nat)) ∧ W.cell? ⟨go, r, none⟩ = some (.int .i64 (v : Nat)))
    ((refine hkeep.out _ ?_; (repeat (first | exact kr _ | assumption | exact And.left (by assumption) | refine kdr ?_ | refine kd ?_ _ | refine kt ?_ (by assumption)))))
    (first | (go_at_call 59; refine (HA.out _ (And.left (by assumption))).mono ?_; rintro e w7 ⟨rfl, hb7⟩))
  have hH := And.left ‹Below w.heap.size w _ ∧ _›
  have h8 := hAL.out _ hH
  have c13' := h8.main.at_ (v := .int .i64 (x.last : Nat)) 13 rfl
  have k13' := h8.main.free 13
  clear hw2 hkeep HA hAL h c0 c13 k13 c1 i1 i2 q1 q2 q3 q4 q5 q6 hd0
  rw [show ((r : Int) + 1) = (x.rnk : Int) from by have := HR.out; omega]
  rw [← HR.out] at hrn
  have hlt : x.ord.getD x.rnk 0 < s.size := by rw [HR.out, HU.out]; exact hlt
  go_wp2_with fail
  obtain ⟨W2, hW2⟩ : ∃ W2 : World, w7.setCell ⟨g, 13, none⟩ (.int .i64 ((x.last : Int) + 1)) = W2 := ⟨_, rfl⟩
  have h2 : SAt W2 g go gc ga sv s { x with last := L } := by
    rw [← hW2, hLr]; exact h8.put 13 _ { x with last := x.last + 1 } rfl rfl rfl rfl rfl
  have kp2 : Keeps F w W2 := by rw [← hW2]; exact ((Keeps.refl F w).then hH).set (.inr f1) _
  rw [hW2]
  clear hW2 c13' k13' h8 hLr
  have HL := Lib.hid hL
  clear hL
  have c1 : W2.cell? ⟨g, 1, none⟩ = some (.slice (some ⟨go, 0, none⟩) s.size s.size) := h2.main.at_ 1 rfl
  have c3 : W2.cell? ⟨g, 3, none⟩ = some (.slice (some ⟨ga, 0, none⟩) s.size s.size) := h2.main.at_ 3 rfl
  have c10 : W2.cell? ⟨g, 12, none⟩ = some (.int .i64 (x.rnk : Nat)) := h2.main.at_ 12 rfl
  have c11 : W2.cell? ⟨g, 13, none⟩ = some (.int .i64 (L : Nat)) := h2.main.at_ 13 rfl
  have k10 := h2.main.free 12
  have i1 := natRow_at h2.ord (i := x.rnk) (by show _ < x.ord.length; omega)
  have i2 := natRow_at h2.asd (i := x.ord.getD x.rnk 0) (by show _ < x.asd.length; omega)
  have kk2 := h2.asd.free (x.ord.getD x.rnk 0)
  have n1 := h2.gne.1
  have n3 := h2.gne.2.2
  have n4 := h2.oa
  have q1 : (0 : Int) ≤ (x.rnk : Int) := by omega
  have q2 : (x.rnk : Int) < (s.size : Int) := by omega
  have hfin : Hid (∀ W5, W5 = (((W2.setCell ⟨ga, x.ord.getD x.rnk 0, none⟩ (.int .i64 (L : Nat))).drew).setCell ⟨g, 12, none⟩ (.int .i64 ((x.rnk : Int) + 1))) → SAt W5 g go gc ga sv s (classS s x) ∧ Keeps F w W5) := by
    intro W5 e
    subst e
    unfold classS
    rw [HL.out]
    exact ⟨(h2.putAsd (x.ord.getD x.rnk 0) L).drew.put 12 _ { x with last := L, asd := x.asd.set (x.ord.getD x.rnk 0) L, rnk := x.rnk + 1 } rfl rfl rfl rfl rfl, ((kp2.set (.inr f4) _).drew).set (.inr f1) _⟩
  have hcl : Hid ((classS s x).last = L) := by unfold Hid classS; exact HL.out
  simp only at i1 i2
  generalize x.ord.getD x.rnk 0 = u at *
  generalize x.asd.getD u 0 = u2 at *
  clear h2 kp2
  go_region
  go_wp2_with fail
  obtain ⟨W5, hW5⟩ : ∃ W5 : World, (((W2.setCell ⟨ga, u, none⟩ (.int .i64 (L : Nat))).drew).setCell ⟨g, 12, none⟩ (.int .i64 ((x.rnk : Int) + 1))) = W5 := ⟨_, rfl⟩
  obtain ⟨a5, k5⟩ := hfin.out W5 hW5.symm
  rw [show ((W2.setCell ⟨ga, u, none⟩ (.int .i64 (L : Nat))).setCell ⟨g, 12, none⟩ (.int .i64 ((x.rnk : Int) + 1))).drew = W5 from hW5]
  clear hW5 c1 c3 c10 c11 k10 i1 i2 kk2 hfin
  have c1 : W5.cell? ⟨g, 1, none⟩ = some (.slice (some ⟨go, 0, none⟩) s.size s.size) := a5.main.at_ 1 rfl
  have c10 : W5.cell? ⟨g, 12, none⟩ = some (.int .i64 ((x.rnk : Int) + 1)) := a5.main.at_ 12 rfl
  by_cases he : x.rnk + 1 = s.size
  · have hd7 : ((x.rnk : Int) + 1 == (s.size : Int)) = true := by simp; omega
    go_quiet (fail)
    have a6 := a5.below (kd (kr _) nq)
    have k6 := k5.drewN nq
    have hin : SIn (W5.drewN nq) (fun b => F b ∨ w.heap.size ≤ b) g s (classS s x) := ⟨go, gc, ga, sv, a6, .inl f1, .inl f2, .inl f3, .inl f4, fun b hb => .inl (f5 b hb)⟩
    go_wp2_with fail
    refine (s_pass hin hol hn2 hrl (by rw [hcl.out]; exact hLl) hs).mono ?_
    rintro e w' ⟨rfl, hsp⟩
    go_wp2_with fail
    go_end0
    rw [hX.out, if_pos (by show x.rnk + 1 = _; rw [hol]; exact he)]
    exact ⟨rfl, (spost a6 f1 f2 f3 f4 f5 k6).then hsp⟩
  · have hd7 : ((x.rnk : Int) + 1 == (s.size : Int)) = false := by simp; omega
    go_quiet (fail)
    have a6 := a5.below (kd (kr _) nq)
    have k6 := k5.drewN nq
    go_wp2_with fail
    go_end0
    rw [hX.out, if_neg (by show ¬ x.rnk + 1 = _; rw [hol]; exact he)]
    exact ⟨rfl, spost a6 f1 f2 f3 f4 f5 k6⟩

theorem s_rank_stay (h : SIn w F g s x) {n m : Nat} (hn : n = s.size) (ho : Ok n m x) (hn2 : n ≤ 900000) (hs : x.stk = []) (h0 : x.hi = 0) (hd : x.done = false) (hr : x.rnk ≠ 0) (hab : abS s x (x.ord.getD x.rnk 0) (x.ord.getD (x.rnk - 1) 0) = false) :
    Calls Try.prog 58 #[.pointer (some ⟨g, 0, none⟩)] w fun e w' => e = .returned (.tuple #[]) ∧ SPost F g s w (rankS s x) w' := by
  subst hn
  have hrn := ho.rnk hd
  have hlx := ho.last2
  have hln := ho.last
  have hol := ho.ol
  have hal := ho.al
  have hrl := ho.rle
  obtain ⟨L, hL⟩ : ∃ L, lastS s x = L := ⟨_, rfl⟩
  have hLl : L ≤ s.size := by have := lastS_le s ho; omega
  have hlt := ho.ord x.rnk hrn
  have hlt2 := ho.ord (x.rnk - 1) (by omega)
  obtain ⟨go, gc, ga, sv, h, f1, f2, f3, f4, f5⟩ := h
  have hX : Hid (rankS s x = if (classS s x).rnk = x.ord.length then passS (classS s x) else classS s x) := rfl
  have hLr : L = x.last := by rw [← hL]; unfold lastS; rw [if_neg hr, if_neg (by rw [hab]; simp)]
  obtain ⟨r, hr1⟩ : ∃ r, x.rnk = r + 1 := ⟨x.rnk - 1, by omega⟩
  have hr2 : x.rnk - 1 = r := by omega
  rw [hr2] at hab hlt2
  rw [hr1] at hab hlt hrn
  have c0 : w.cell? ⟨g, 12, none⟩ = some (.int .i64 ((r : Int) + 1)) := by have := h.main.at_ (v := .int .i64 (x.rnk : Nat)) 12 rfl; rw [this, hr1]; rfl
  have c13 : w.cell? ⟨g, 13, none⟩ = some (.int .i64 (x.last : Nat)) := h.main.at_ 13 rfl
  have k13 := h.main.free 13
  have c1 : w.cell? ⟨g, 1, none⟩ = some (.slice (some ⟨go, 0, none⟩) s.size s.size) := h.main.at_ 1 rfl
  have hd0 : ((r : Int) + 1 == 0) = false := by simp; omega
  have i1 := natRow_at h.ord (i := r + 1) (by omega)
  have i2 := natRow_at h.ord (i := r) (by omega)
  have HA : Hid (∀ W, Below w.heap.size w W → Calls Try.prog 59 #[.pointer (some ⟨g, 0, none⟩), .int .i64 (x.ord.getD (r + 1) 0 : Nat), .int .i64 (x.ord.getD r 0 : Nat)] W fun e w'' => e = .returned (.bool false) ∧ Below W.heap.size W w'') := by
    intro W hW
    have := s_above (h.below hW) rfl ho hn2 (x.ord.getD (r + 1) 0) (x.ord.getD r 0) hlt hlt2
    rw [hab] at this
    exact this
  have hAL : Hid (∀ W, Below w.heap.size w W → SAt W g go gc ga sv s x) := fun W hW => h.below hW
  have q1 : (0 : Int) ≤ ((r : Int) + 1) := by omega
  have q2 : ((r : Int) + 1) < (s.size : Int) := by omega
  have q3 : (0 : Int) ≤ ((r : Nat) : Int) := by omega
  have q4 : ((r : Nat) : Int) < (s.size : Int) := by omega
  have q5 : r + 1 < s.size := hrn
  have q6 : r < s.size := by omega
  have hkeep : Hid (∀ W, Below w.heap.size w W → Below w.heap.size w W ∧ W.cell? ⟨g, 1, none⟩ = some (.slice (some ⟨go, 0, none⟩) s.size s.size) ∧ W.cell? ⟨go, r + 1, none⟩ = some (.int .i64 (x.ord.getD (r + 1) 0 : Nat)) ∧ W.cell? ⟨go, r, none⟩ = some (.int .i64 (x.ord.getD r 0 : Nat))) :=
    fun W hW => ⟨hW, cell_below c1 hW, cell_below i1 hW, cell_below i2 hW⟩
  have hw2 : IntKind.i64.wrap (r : Int) = (r : Int) := IntWalk.i64_in _ (by omega)
  have HR := Lib.hid hr1
  have HB := Lib.hid hab
  generalize hu0 : x.ord.getD (r + 1) 0 = u at *
  generalize hv0 : x.ord.getD r 0 = v at *
  have HU := Lib.hid hu0
  clear hr hab hr1 hr2 hu0 hv0
  go_enter Try.func58, Try.ntmps58
  go_wp2_with fail
  go_region_held3 (fun W => Below w.heap.size w W ∧ W.cell? ⟨g, 1, none⟩ = some (.slice (some ⟨go, 0, none⟩) s.size s.size) ∧ W.cell? ⟨go, r + 1, none⟩ = some (.int .i64 (u : Nat)) ∧ W.cell? ⟨go, r, none⟩ = some (.int .i64 (v : Nat)))
    ((refine hkeep.out _ ?_; (repeat (first | exact kr _ | assumption | exact And.left (by assumption) | refine kdr ?_ | refine kd ?_ _ | refine kt ?_ (by assumption)))))
    (first | (go_at_call 59; refine (HA.out _ (And.left (by assumption))).mono ?_; rintro e w7 ⟨rfl, hb7⟩))
  have hH := And.left ‹Below w.heap.size w _ ∧ _›
  have h8 := hAL.out _ hH
  have c13' := h8.main.at_ (v := .int .i64 (x.last : Nat)) 13 rfl
  have k13' := h8.main.free 13
  clear hw2 hkeep HA hAL h c0 c13 k13 c1 i1 i2 q1 q2 q3 q4 q5 q6 hd0
  rw [show ((r : Int) + 1) = (x.rnk : Int) from by have := HR.out; omega]
  rw [← HR.out] at hrn
  have hlt : x.ord.getD x.rnk 0 < s.size := by rw [HR.out, HU.out]; exact hlt
  go_wp2_with fail
  have h2 : SAt w7 g go gc ga sv s { x with last := L } := by
    rw [hLr]; exact h8
  have kp2 : Keeps F w w7 := (Keeps.refl F w).then hH
  clear c13' k13' h8 hLr
  have HL := Lib.hid hL
  clear hL
  have c1 : w7.cell? ⟨g, 1, none⟩ = some (.slice (some ⟨go, 0, none⟩) s.size s.size) := h2.main.at_ 1 rfl
  have c3 : w7.cell? ⟨g, 3, none⟩ = some (.slice (some ⟨ga, 0, none⟩) s.size s.size) := h2.main.at_ 3 rfl
  have c10 : w7.cell? ⟨g, 12, none⟩ = some (.int .i64 (x.rnk : Nat)) := h2.main.at_ 12 rfl
  have c11 : w7.cell? ⟨g, 13, none⟩ = some (.int .i64 (L : Nat)) := h2.main.at_ 13 rfl
  have k10 := h2.main.free 12
  have i1 := natRow_at h2.ord (i := x.rnk) (by show _ < x.ord.length; omega)
  have i2 := natRow_at h2.asd (i := x.ord.getD x.rnk 0) (by show _ < x.asd.length; omega)
  have kk2 := h2.asd.free (x.ord.getD x.rnk 0)
  have n1 := h2.gne.1
  have n3 := h2.gne.2.2
  have n4 := h2.oa
  have q1 : (0 : Int) ≤ (x.rnk : Int) := by omega
  have q2 : (x.rnk : Int) < (s.size : Int) := by omega
  have hfin : Hid (∀ W5, W5 = (((w7.setCell ⟨ga, x.ord.getD x.rnk 0, none⟩ (.int .i64 (L : Nat))).drew).setCell ⟨g, 12, none⟩ (.int .i64 ((x.rnk : Int) + 1))) → SAt W5 g go gc ga sv s (classS s x) ∧ Keeps F w W5) := by
    intro W5 e
    subst e
    unfold classS
    rw [HL.out]
    exact ⟨(h2.putAsd (x.ord.getD x.rnk 0) L).drew.put 12 _ { x with last := L, asd := x.asd.set (x.ord.getD x.rnk 0) L, rnk := x.rnk + 1 } rfl rfl rfl rfl rfl, ((kp2.set (.inr f4) _).drew).set (.inr f1) _⟩
  have hcl : Hid ((classS s x).last = L) := by unfold Hid classS; exact HL.out
  simp only at i1 i2
  generalize x.ord.getD x.rnk 0 = u at *
  generalize x.asd.getD u 0 = u2 at *
  clear h2 kp2
  go_region
  go_wp2_with fail
  obtain ⟨W5, hW5⟩ : ∃ W5 : World, (((w7.setCell ⟨ga, u, none⟩ (.int .i64 (L : Nat))).drew).setCell ⟨g, 12, none⟩ (.int .i64 ((x.rnk : Int) + 1))) = W5 := ⟨_, rfl⟩
  obtain ⟨a5, k5⟩ := hfin.out W5 hW5.symm
  rw [show ((w7.setCell ⟨ga, u, none⟩ (.int .i64 (L : Nat))).setCell ⟨g, 12, none⟩ (.int .i64 ((x.rnk : Int) + 1))).drew = W5 from hW5]
  clear hW5 c1 c3 c10 c11 k10 i1 i2 kk2 hfin
  have c1 : W5.cell? ⟨g, 1, none⟩ = some (.slice (some ⟨go, 0, none⟩) s.size s.size) := a5.main.at_ 1 rfl
  have c10 : W5.cell? ⟨g, 12, none⟩ = some (.int .i64 ((x.rnk : Int) + 1)) := a5.main.at_ 12 rfl
  by_cases he : x.rnk + 1 = s.size
  · have hd7 : ((x.rnk : Int) + 1 == (s.size : Int)) = true := by simp; omega
    go_quiet (fail)
    have a6 := a5.below (kd (kr _) nq)
    have k6 := k5.drewN nq
    have hin : SIn (W5.drewN nq) (fun b => F b ∨ w.heap.size ≤ b) g s (classS s x) := ⟨go, gc, ga, sv, a6, .inl f1, .inl f2, .inl f3, .inl f4, fun b hb => .inl (f5 b hb)⟩
    go_wp2_with fail
    refine (s_pass hin hol hn2 hrl (by rw [hcl.out]; exact hLl) hs).mono ?_
    rintro e w' ⟨rfl, hsp⟩
    go_wp2_with fail
    go_end0
    rw [hX.out, if_pos (by show x.rnk + 1 = _; rw [hol]; exact he)]
    exact ⟨rfl, (spost a6 f1 f2 f3 f4 f5 k6).then hsp⟩
  · have hd7 : ((x.rnk : Int) + 1 == (s.size : Int)) = false := by simp; omega
    go_quiet (fail)
    have a6 := a5.below (kd (kr _) nq)
    have k6 := k5.drewN nq
    go_wp2_with fail
    go_end0
    rw [hX.out, if_neg (by show ¬ x.rnk + 1 = _; rw [hol]; exact he)]
    exact ⟨rfl, spost a6 f1 f2 f3 f4 f5 k6⟩

theorem s_rank (h : SIn w F g s x) {n m : Nat} (hn : n = s.size) (ho : Ok n m x) (hn2 : n ≤ 900000) (hs : x.stk = []) (h0 : x.hi = 0) (hd : x.done = false) :
    Calls Try.prog 58 #[.pointer (some ⟨g, 0, none⟩)] w fun e w' => e = .returned (.tuple #[]) ∧ SPost F g s w (rankS s x) w' := by
  by_cases hr : x.rnk = 0
  · exact s_rank_zero h hn ho hn2 hs h0 hd hr
  · cases hab : abS s x (x.ord.getD x.rnk 0) (x.ord.getD (x.rnk - 1) 0) with
    | true => exact s_rank_up h hn ho hn2 hs h0 hd hr hab
    | false => exact s_rank_stay h hn ho hn2 hs h0 hd hr hab


end Go.Proofs.Ytbakfaihnecmoaa

/- The walk of put, where two places are compared. -/
import Derived.Test.YtbakfaihnecmoaaSC
namespace Go.Proofs.Ytbakfaihnecmoaa
set_option linter.unusedVariables false
set_option linter.unusedSimpArgs false
open Go.RowKit Sp
variable {w : World} {F : Nat → Prop} {g : Nat} {s : ByteArray} {x : SS}

theorem SPost.drew {w' : World} {x' : SS} (h : SPost F g s w x' w') : SPost F g s w x' w'.drew := ⟨h.1.below (kdr (kr _)), h.2.drew⟩

set_option maxHeartbeats 2000000 in
theorem s_put_b (h : SIn w F g s x) {n m : Nat} (hn : n = s.size) (ho : Ok n m x) (hn2 : n ≤ 900000) (h0 : 0 < x.hi) (h1 : ¬ x.laid < x.mid - x.lo) (h2 : x.two < x.hi) (h3 : x.one < x.laid) :
    Calls Try.prog 56 #[.pointer (some ⟨g, 0, none⟩)] w fun e w' => e = .returned (.tuple #[]) ∧ SPost F g s w (putS s x) w' := by
  subst hn
  obtain ⟨go, gc, ga, sv, h, f1, f2, f3, f4, f5⟩ := h
  obtain ⟨m1, m2, m3, m4, m5, m6, m7, m8, m9, m10⟩ := ho.merge.resolve_left (by omega)
  have hol := ho.ol
  have hal := ho.al
  obtain ⟨n1, n2, n3⟩ := h.gne
  have n4 := h.oa
  have l1 := h.main.lt
  have l2 := h.ord.lt
  have l3 := h.asd.lt
  have HA : Hid (∀ w', Below w.heap.size w w' → Calls Try.prog 59 #[.pointer (some ⟨g, 0, none⟩), .int .i64 (x.asd.getD x.one 0 : Nat), .int .i64 (x.ord.getD x.two 0 : Nat)] w' fun e w'' => e = .returned (.bool (abS s x (x.asd.getD x.one 0) (x.ord.getD x.two 0))) ∧ Below w'.heap.size w' w'') :=
    fun w' hw => s_above (h.below hw) rfl ho hn2 _ _ (m10 _ h3) (ho.ord _ (by omega))
  have hd : ((x.two : Int) == (x.hi : Int)) = false := by simp; omega
  have hd2 : decide (x.one < x.laid) = true := by simp; omega
  have c1 : w.cell? ⟨g, 1, none⟩ = some (.slice (some ⟨go, 0, none⟩) s.size s.size) := h.main.at_ 1 rfl
  have c3 : w.cell? ⟨g, 3, none⟩ = some (.slice (some ⟨ga, 0, none⟩) s.size s.size) := h.main.at_ 3 rfl
  have c6 : w.cell? ⟨g, 6, none⟩ = some (.int .i64 (x.lo : Nat)) := h.main.at_ 6 rfl
  have c7 : w.cell? ⟨g, 7, none⟩ = some (.int .i64 (x.mid : Nat)) := h.main.at_ 7 rfl
  have c8 : w.cell? ⟨g, 8, none⟩ = some (.int .i64 (x.hi : Nat)) := h.main.at_ 8 rfl
  have c9 : w.cell? ⟨g, 9, none⟩ = some (.int .i64 (x.laid : Nat)) := h.main.at_ 9 rfl
  have c10 : w.cell? ⟨g, 10, none⟩ = some (.int .i64 (x.one : Nat)) := h.main.at_ 10 rfl
  have c11 : w.cell? ⟨g, 11, none⟩ = some (.int .i64 (x.two : Nat)) := h.main.at_ 11 rfl
  have i1 := natRow_at h.ord (i := x.two) (by omega)
  have i2 := natRow_at h.asd (i := x.one) (by omega)
  have hE : Hid (putS s x = if (!(abS s x (x.asd.getD x.one 0) (x.ord.getD x.two 0))) then endS { x with ord := x.ord.set (x.lo + x.one + x.two - x.mid) (x.asd.getD x.one 0), one := x.one + 1 } (x.lo + x.one + x.two - x.mid + 1 == x.hi)
      else endS { x with ord := x.ord.set (x.lo + x.one + x.two - x.mid) (x.ord.getD x.two 0), two := x.two + 1 } (x.lo + x.one + x.two - x.mid + 1 == x.hi)) := by
    have ht : takeS s x = !(abS s x (x.asd.getD x.one 0) (x.ord.getD x.two 0)) := by
      have e1 : (x.two == x.hi) = false := by simp; omega
      unfold takeS
      rw [e1, decide_eq_true h3, Bool.false_or, Bool.true_and]
    unfold Hid putS
    rw [ht]
    split <;> rfl
  have hoi := natRow_at h.ord (i := x.lo + x.one + x.two - x.mid) (by omega)
  go_enter Try.func56, Try.ntmps56
  go_wp2_with fail
  go_quiet (fail)
  go_wp2_with fail
  obtain ⟨W0, hW0⟩ : ∃ W0 : World, (w.alloc (.cells #[.int .i64 (x.lo : Nat), .int .i64 (x.mid : Nat), .int .i64 (x.hi : Nat)] 63)).drewN nq = W0 := ⟨_, rfl⟩
  have bm : Blk W0 w.heap.size 63 #[.int .i64 (x.lo : Nat), .int .i64 (x.mid : Nat), .int .i64 (x.hi : Nat)] := hW0 ▸ (Blk.new w _ _).drewN nq
  have hb0 : Below w.heap.size w W0 := hW0 ▸ kd (ka (kr _) _) _
  have h9 := h.below hb0
  have HA2 : Hid (∀ W, Below W0.heap.size W0 W → Calls Try.prog 59 #[.pointer (some ⟨g, 0, none⟩), .int .i64 (x.asd.getD x.one 0 : Nat), .int .i64 (x.ord.getD x.two 0 : Nat)] W fun e w'' => e = .returned (.bool (abS s x (x.asd.getD x.one 0) (x.ord.getD x.two 0))) ∧ Below W.heap.size W w'') :=
    fun W hW => HA.out W (kt hb0 hW)
  have b1 := cell_below c1 hb0
  have b3 := cell_below c3 hb0
  have b8 := cell_below c8 hb0
  have b9 := cell_below c9 hb0
  have b10 := cell_below c10 hb0
  have b11 := cell_below c11 hb0
  have j1 := cell_below i1 hb0
  have j2 := cell_below i2 hb0
  have bm2 := bm.at_ 2 rfl
  rw [hW0]
  clear hW0 c1 c3 c6 c7 c8 c9 c10 c11 i1 i2 HA ho hoi
  generalize abS s x (x.asd.getD x.one 0) (x.ord.getD x.two 0) = r at *
  generalize hu0 : x.asd.getD x.one 0 = u at *
  generalize hv0 : x.ord.getD x.two 0 = v at *
  have hu := Lib.hid hu0
  have hv := Lib.hid hv0
  clear hu0 hv0
  have hkeep : Hid (∀ W, Below W0.heap.size W0 W → Below W0.heap.size W0 W ∧ W.cell? ⟨w.heap.size, 2, none⟩ = some (.int .i64 (x.hi : Nat)) ∧ W.cell? ⟨g, 11, none⟩ = some (.int .i64 (x.two : Nat)) ∧ W.cell? ⟨g, 10, none⟩ = some (.int .i64 (x.one : Nat)) ∧ W.cell? ⟨g, 9, none⟩ = some (.int .i64 (x.laid : Nat)) ∧ W.cell? ⟨g, 3, none⟩ = some (.slice (some ⟨ga, 0, none⟩) s.size s.size) ∧ W.cell? ⟨g, 1, none⟩ = some (.slice (some ⟨go, 0, none⟩) s.size s.size) ∧ W.cell? ⟨go, x.two, none⟩ = some (.int .i64 (v : Nat)) ∧ W.cell? ⟨ga, x.one, none⟩ = some (.int .i64 (u : Nat))) :=
    fun W hbW => ⟨hbW, cell_below bm2 hbW, cell_below b11 hbW, cell_below b10 hbW, cell_below b9 hbW, cell_below b3 hbW, cell_below b1 hbW, cell_below j1 hbW, cell_below j2 hbW⟩
  have q1 : (0 : Int) ≤ (x.one : Int) := by omega
  have q2 : (x.one : Int) < (s.size : Int) := by omega
  have q3 : (0 : Int) ≤ (x.two : Int) := by omega
  have q4 : (x.two : Int) < (s.size : Int) := by omega
  have q5 : x.one < s.size := by omega
  have q6 : x.two < s.size := by omega
  go_region_held3 (fun W => Below W0.heap.size W0 W ∧ W.cell? ⟨w.heap.size, 2, none⟩ = some (.int .i64 (x.hi : Nat)) ∧ W.cell? ⟨g, 11, none⟩ = some (.int .i64 (x.two : Nat)) ∧ W.cell? ⟨g, 10, none⟩ = some (.int .i64 (x.one : Nat)) ∧ W.cell? ⟨g, 9, none⟩ = some (.int .i64 (x.laid : Nat)) ∧ W.cell? ⟨g, 3, none⟩ = some (.slice (some ⟨ga, 0, none⟩) s.size s.size) ∧ W.cell? ⟨g, 1, none⟩ = some (.slice (some ⟨go, 0, none⟩) s.size s.size) ∧ W.cell? ⟨go, x.two, none⟩ = some (.int .i64 (v : Nat)) ∧ W.cell? ⟨ga, x.one, none⟩ = some (.int .i64 (u : Nat)))
    ((refine hkeep.out _ ?_; (repeat (first | exact kr _ | assumption | exact And.left (by assumption) | refine kdr ?_ | refine kd ?_ _ | refine kt ?_ (by assumption)))))
    (first | (go_at_call 59; refine (HA2.out _ (And.left (by assumption))).mono ?_; rintro e w7 ⟨rfl, hb7⟩))
  have hH := And.left ‹Below W0.heap.size W0 _ ∧ _›
  have h8 := h9.below hH
  have hk8 := ((Keeps.refl F w).then hb0).then (kt (kr _) hH)
  have bm8 := bm.kept hH
  have p0 := bm8.at_ 0 rfl
  have p1 := bm8.at_ 1 rfl
  have p2 := bm8.at_ 2 rfl
  clear hkeep HA2 bm h9 b1 b3 b8 b9 b10 b11 j1 j2 bm2 h
  have c1 := h8.main.at_ (v := .slice (some ⟨go, 0, none⟩) s.size s.size) 1 rfl
  have c3 := h8.main.at_ (v := .slice (some ⟨ga, 0, none⟩) s.size s.size) 3 rfl
  have c6 := h8.main.at_ (v := .int .i64 (x.lo : Nat)) 6 rfl
  have c7 := h8.main.at_ (v := .int .i64 (x.mid : Nat)) 7 rfl
  have c8 := h8.main.at_ (v := .int .i64 (x.hi : Nat)) 8 rfl
  have c10 := h8.main.at_ (v := .int .i64 (x.one : Nat)) 10 rfl
  have c11 := h8.main.at_ (v := .int .i64 (x.two : Nat)) 11 rfl
  have k6 := h8.main.free 6
  have k7 := h8.main.free 7
  have k8 := h8.main.free 8
  have k10 := h8.main.free 10
  have k11 := h8.main.free 11
  have i1 := natRow_at h8.ord (i := x.lo + x.one + x.two - x.mid) (by omega)
  have k2 := h8.ord.free (x.lo + x.one + x.two - x.mid)
  have i2 := natRow_at h8.asd (i := x.one) (by omega)
  have i3 := natRow_at h8.ord (i := x.two) (by omega)
  rw [hu.out] at i2
  rw [hv.out] at i3
  have he : (x.lo + x.one + x.two - x.mid + 1 == x.hi) = false := by simp; omega
  cases r with
  | false =>
    have hE := hE.out.trans (if_pos rfl)
    rw [he] at hE
    have hE := Lib.hid hE
    go_wp2_with fail
    go_region
    go_wp2
    go_end0
    rw [hE.out]
    refine ⟨rfl, ?_⟩
    with_reducible refine SPost.drew ?_
    with_reducible refine end_one ?_ ?_ f1 f2 f3 f4 f5 _ _
    · exact h8
    · exact hk8
  | true =>
    have hE := hE.out.trans (if_neg (by simp))
    rw [he] at hE
    have hE := Lib.hid hE
    go_wp2_with fail
    go_region
    go_wp2
    go_end0
    rw [hE.out]
    refine ⟨rfl, ?_⟩
    with_reducible refine SPost.drew ?_
    with_reducible refine end_two ?_ ?_ f1 f2 f3 f4 f5 _ _
    · exact h8
    · exact hk8

theorem s_put (h : SIn w F g s x) {n m : Nat} (hn : n = s.size) (ho : Ok n m x) (hn2 : n ≤ 900000) (h0 : 0 < x.hi) (h1 : ¬ x.laid < x.mid - x.lo) :
    Calls Try.prog 56 #[.pointer (some ⟨g, 0, none⟩)] w fun e w' => e = .returned (.tuple #[]) ∧ SPost F g s w (putS s x) w' := by
  have hm := ho.merge.resolve_left (by omega)
  have := hm.two2
  by_cases h2 : x.two = x.hi
  · exact s_put_a h hn ho hn2 h0 h1 h2
  · by_cases h3 : x.one < x.laid
    · exact s_put_b h hn ho hn2 h0 h1 (by omega) h3
    · exact s_put_c h hn ho hn2 h0 h1 (by omega) (by omega)

end Go.Proofs.Ytbakfaihnecmoaa

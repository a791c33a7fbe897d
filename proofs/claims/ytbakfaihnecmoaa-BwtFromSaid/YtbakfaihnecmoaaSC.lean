/- The walk of put. -/
import Derived.Test.YtbakfaihnecmoaaSB
import Derived.Deep.RegionHeld3
namespace Go.Proofs.Ytbakfaihnecmoaa
set_option linter.unusedVariables false
set_option linter.unusedSimpArgs false
open Go.RowKit Sp
variable {w : World} {F : Nat → Prop} {g : Nat} {s : ByteArray} {x : SS}

section
variable {w W : World} {F : Nat → Prop} {g go gc ga : Nat} {sv : Value} {s : ByteArray} {x : SS}
theorem end_one (h : SAt W g go gc ga sv s x) (k : Keeps F w W) (f1 : F g) (f2 : F go) (f3 : F gc) (f4 : F ga) (f5 : ∀ b, sv.ownBlock = some b → F b) (i u : Nat) :
    SPost F g s w (endS { x with ord := x.ord.set i u, one := x.one + 1 } false) ((W.setCell ⟨go, i, none⟩ (.int .i64 (u : Nat))).setCell ⟨g, 10, none⟩ (.int .i64 ((x.one : Int) + 1))) :=
  spost ((h.putOrd i u).put 10 _ { x with ord := x.ord.set i u, one := x.one + 1 } rfl rfl rfl rfl rfl) f1 f2 f3 f4 f5 ((k.set (.inr f2) _).set (.inr f1) _)
theorem end_two (h : SAt W g go gc ga sv s x) (k : Keeps F w W) (f1 : F g) (f2 : F go) (f3 : F gc) (f4 : F ga) (f5 : ∀ b, sv.ownBlock = some b → F b) (i u : Nat) :
    SPost F g s w (endS { x with ord := x.ord.set i u, two := x.two + 1 } false) ((W.setCell ⟨go, i, none⟩ (.int .i64 (u : Nat))).setCell ⟨g, 11, none⟩ (.int .i64 ((x.two : Int) + 1))) :=
  spost ((h.putOrd i u).put 11 _ { x with ord := x.ord.set i u, two := x.two + 1 } rfl rfl rfl rfl rfl) f1 f2 f3 f4 f5 ((k.set (.inr f2) _).set (.inr f1) _)
theorem end_done {x : SS} (h : SPost F g s w (endS x false) W) : SPost F g s w (endS x true) (((W.setCell ⟨g, 6, none⟩ (.int .i64 0)).setCell ⟨g, 7, none⟩ (.int .i64 0)).setCell ⟨g, 8, none⟩ (.int .i64 0)) := by
  obtain ⟨⟨go, gc, ga, sv, h, f1, f2⟩, k⟩ := h
  have hF : ∀ b, F b ∨ w.heap.size ≤ b → w.heap.size ≤ b ∨ F b := fun b hb => hb.symm
  refine ⟨⟨go, gc, ga, sv, ((h.put 6 _ { endS x false with lo := 0 } rfl rfl rfl rfl rfl).put 7 _ { endS x false with lo := 0, mid := 0 } rfl rfl rfl rfl rfl).put 8 _ (endS x true) rfl rfl rfl rfl rfl, f1, f2⟩, ?_⟩
  exact ((k.set (hF _ f1) _).set (hF _ f1) _).set (hF _ f1) _
end

set_option maxHeartbeats 1000000 in
theorem s_put_a (h : SIn w F g s x) {n m : Nat} (hn : n = s.size) (ho : Ok n m x) (hn2 : n ≤ 900000) (h0 : 0 < x.hi) (h1 : ¬ x.laid < x.mid - x.lo) (h2 : x.two = x.hi) :
    Calls Try.prog 56 #[.pointer (some ⟨g, 0, none⟩)] w fun e w' => e = .returned (.tuple #[]) ∧ SPost F g s w (putS s x) w' := by
  subst hn
  obtain ⟨go, gc, ga, sv, h, f1, f2, f3, f4, f5⟩ := h
  obtain ⟨m1, m2, m3, m4, m5, m6, m7, m8, m9, m10⟩ := ho.merge.resolve_left (by omega)
  have hol := ho.ol
  have hal := ho.al
  obtain ⟨n1, n2, n3⟩ := h.gne
  have n4 := h.oa
  have l1 := h.main.lt
  have l2 := h.ord.lt
  have l3 := h.asd.lt
  have ht : toS x = x.lo + x.one + x.hi - x.mid := by unfold toS; rw [h2]
  have hE : Hid (putS s x = endS { x with ord := x.ord.set (x.lo + x.one + x.hi - x.mid) (x.asd.getD x.one 0), one := x.one + 1 } (x.lo + x.one + x.hi - x.mid + 1 == x.hi)) := by
    unfold Hid putS; rw [if_pos (by simp [takeS, h2]), ht]
  have c1 : w.cell? ⟨g, 1, none⟩ = some (.slice (some ⟨go, 0, none⟩) s.size s.size) := h.main.at_ 1 rfl
  have c3 : w.cell? ⟨g, 3, none⟩ = some (.slice (some ⟨ga, 0, none⟩) s.size s.size) := h.main.at_ 3 rfl
  have c6 : w.cell? ⟨g, 6, none⟩ = some (.int .i64 (x.lo : Nat)) := h.main.at_ 6 rfl
  have c7 : w.cell? ⟨g, 7, none⟩ = some (.int .i64 (x.mid : Nat)) := h.main.at_ 7 rfl
  have c8 : w.cell? ⟨g, 8, none⟩ = some (.int .i64 (x.hi : Nat)) := h.main.at_ 8 rfl
  have c9 : w.cell? ⟨g, 9, none⟩ = some (.int .i64 (x.laid : Nat)) := h.main.at_ 9 rfl
  have c10 : w.cell? ⟨g, 10, none⟩ = some (.int .i64 (x.one : Nat)) := h.main.at_ 10 rfl
  have c11 : w.cell? ⟨g, 11, none⟩ = some (.int .i64 (x.two : Nat)) := h.main.at_ 11 rfl
  have k6 := h.main.free 6
  have k7 := h.main.free 7
  have k8 := h.main.free 8
  have k10 := h.main.free 10
  have k11 := h.main.free 11
  have i1 := natRow_at h.ord (i := x.lo + x.one + x.hi - x.mid) (by omega)
  have i2 := natRow_at h.asd (i := x.one) (by omega)
  have k2 := h.ord.free (x.lo + x.one + x.hi - x.mid)
  have hd : ((x.two : Int) == (x.hi : Int)) = true := by simp [h2]
  clear ht
  generalize x.asd.getD x.one 0 = u at *
  generalize x.ord.getD (x.lo + x.one + x.hi - x.mid) 0 = u2 at *
  by_cases he : x.lo + x.one + x.hi - x.mid + 1 = x.hi
  all_goals
    go_enter Try.func56, Try.ntmps56
    go_wp2_with fail
    go_quiet (fail)
    go_wp2_with fail
    go_quiet (fail)
    go_wp2_with fail
    go_region
    go_wp2
    go_end0
  · rw [hE.out, show (x.lo + x.one + x.hi - x.mid + 1 == x.hi) = true by simpa using he]
    refine ⟨rfl, ?_⟩
    with_reducible refine end_done ?_
    with_reducible refine end_one ?_ ?_ f1 f2 f3 f4 f5 _ _
    · exact h.below (kd (ka (kr _) _) _)
    · exact ((Keeps.refl F w).alloc _).drewN _
  · rw [hE.out, show (x.lo + x.one + x.hi - x.mid + 1 == x.hi) = false by simpa using he]
    refine ⟨rfl, ?_⟩
    with_reducible refine end_one ?_ ?_ f1 f2 f3 f4 f5 _ _
    · exact h.below (kd (ka (kr _) _) _)
    · exact ((Keeps.refl F w).alloc _).drewN _

set_option maxHeartbeats 1000000 in
theorem s_put_c (h : SIn w F g s x) {n m : Nat} (hn : n = s.size) (ho : Ok n m x) (hn2 : n ≤ 900000) (h0 : 0 < x.hi) (h1 : ¬ x.laid < x.mid - x.lo) (h2 : x.two < x.hi) (h3 : x.laid ≤ x.one) :
    Calls Try.prog 56 #[.pointer (some ⟨g, 0, none⟩)] w fun e w' => e = .returned (.tuple #[]) ∧ SPost F g s w (putS s x) w' := by
  subst hn
  obtain ⟨go, gc, ga, sv, h, f1, f2, f3, f4, f5⟩ := h
  obtain ⟨m1, m2, m3, m4, m5, m6, m7, m8, m9, m10⟩ := ho.merge.resolve_left (by omega)
  have hol := ho.ol
  have hal := ho.al
  obtain ⟨n1, n2, n3⟩ := h.gne
  have n4 := h.oa
  have l1 := h.main.lt
  have l2 := h.ord.lt
  have l3 := h.asd.lt
  have ht : toS x = x.lo + x.one + x.two - x.mid := rfl
  have hE : Hid (putS s x = endS { x with ord := x.ord.set (x.lo + x.one + x.two - x.mid) (x.ord.getD x.two 0), two := x.two + 1 } (x.lo + x.one + x.two - x.mid + 1 == x.hi)) := by
    unfold Hid putS; rw [if_neg (by simp [takeS]; omega), ht]
  have c1 : w.cell? ⟨g, 1, none⟩ = some (.slice (some ⟨go, 0, none⟩) s.size s.size) := h.main.at_ 1 rfl
  have c3 : w.cell? ⟨g, 3, none⟩ = some (.slice (some ⟨ga, 0, none⟩) s.size s.size) := h.main.at_ 3 rfl
  have c6 : w.cell? ⟨g, 6, none⟩ = some (.int .i64 (x.lo : Nat)) := h.main.at_ 6 rfl
  have c7 : w.cell? ⟨g, 7, none⟩ = some (.int .i64 (x.mid : Nat)) := h.main.at_ 7 rfl
  have c8 : w.cell? ⟨g, 8, none⟩ = some (.int .i64 (x.hi : Nat)) := h.main.at_ 8 rfl
  have c9 : w.cell? ⟨g, 9, none⟩ = some (.int .i64 (x.laid : Nat)) := h.main.at_ 9 rfl
  have c10 : w.cell? ⟨g, 10, none⟩ = some (.int .i64 (x.one : Nat)) := h.main.at_ 10 rfl
  have c11 : w.cell? ⟨g, 11, none⟩ = some (.int .i64 (x.two : Nat)) := h.main.at_ 11 rfl
  have k6 := h.main.free 6
  have k7 := h.main.free 7
  have k8 := h.main.free 8
  have k10 := h.main.free 10
  have k11 := h.main.free 11
  have i1 := natRow_at h.ord (i := x.lo + x.one + x.two - x.mid) (by omega)
  have i2 := natRow_at h.ord (i := x.two) (by omega)
  have k2 := h.ord.free (x.lo + x.one + x.two - x.mid)
  have hd : ((x.two : Int) == (x.hi : Int)) = false := by simp; omega
  clear ht
  have hd2 : decide (x.one < x.laid) = false := by simp; omega
  generalize x.ord.getD x.two 0 = u at *
  generalize x.ord.getD (x.lo + x.one + x.two - x.mid) 0 = u2 at *
  by_cases he : x.lo + x.one + x.two - x.mid + 1 = x.hi
  all_goals
    go_enter Try.func56, Try.ntmps56
    go_wp2_with fail
    go_quiet (fail)
    go_wp2_with fail
    go_quiet (fail)
    go_wp2_with fail
    go_region
    go_wp2
    go_end0
  · rw [hE.out, show (x.lo + x.one + x.two - x.mid + 1 == x.hi) = true by simpa using he]
    refine ⟨rfl, ?_⟩
    with_reducible refine end_done ?_
    with_reducible refine end_two ?_ ?_ f1 f2 f3 f4 f5 _ _
    · exact h.below (kd (ka (kr _) _) _)
    · exact ((Keeps.refl F w).alloc _).drewN _
  · rw [hE.out, show (x.lo + x.one + x.two - x.mid + 1 == x.hi) = false by simpa using he]
    refine ⟨rfl, ?_⟩
    with_reducible refine end_two ?_ ?_ f1 f2 f3 f4 f5 _ _
    · exact h.below (kd (ka (kr _) _) _)
    · exact ((Keeps.refl F w).alloc _).drewN _

end Go.Proofs.Ytbakfaihnecmoaa

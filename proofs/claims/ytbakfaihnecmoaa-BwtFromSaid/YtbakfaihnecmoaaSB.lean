/- Stores into a sorter; the walk of lay. -/
import Derived.Test.YtbakfaihnecmoaaSA
namespace Go.Proofs.Ytbakfaihnecmoaa
set_option linter.unusedVariables false
set_option linter.unusedSimpArgs false
open Go.RowKit Sp

section
variable {w : World} {g go gc ga : Nat} {sv : Value} {s : ByteArray} {x : SS}
theorem SAt.gne (h : SAt w g go gc ga sv s x) : go ≠ g ∧ gc ≠ g ∧ ga ≠ g := ⟨h.ord.ne h.main (by decide), h.cls.ne h.main (by decide), h.asd.ne h.main (by decide)⟩
theorem SAt.svg (h : SAt w g go gc ga sv s x) : sv.ownBlock ≠ some g := owns_ne h.stk h.main (by decide)
theorem SAt.svo (h : SAt w g go gc ga sv s x) : sv.ownBlock ≠ some go := owns_ne h.stk h.ord (by decide)
theorem SAt.svc (h : SAt w g go gc ga sv s x) : sv.ownBlock ≠ some gc := owns_ne h.stk h.cls (by decide)
theorem SAt.sva (h : SAt w g go gc ga sv s x) : sv.ownBlock ≠ some ga := owns_ne h.stk h.asd (by decide)
theorem owns_far {base : Nat} {e : TypeId} {size : Nat} {v : Value} {n : Nat} {xs : List Value} (h : w.ownsRow base e size v n xs) {p : Addr} (hp : v.ownBlock ≠ some p.block) (u : Value) : (w.setCell p u).ownsRow base e size v n xs :=
  owns_keeps h (F := fun i => i = p.block) (Keeps.set (F := fun i => i = p.block) (Keeps.refl _ w) (.inr rfl) u) fun b hb hb' => hp (by rw [hb, hb'])
/-- a number of the sorter's own is stored -/
theorem SAt.put (h : SAt w g go gc ga sv s x) (i : Nat) (u : Value) (x' : SS) (hx : (cellsS s x go gc ga sv).setIfInBounds i u = cellsS s x' go gc ga sv) (h1 : x'.ord = x.ord) (h2 : x'.cls = x.cls) (h3 : x'.asd = x.asd) (h4 : x'.stk = x.stk) :
    SAt (w.setCell ⟨g, i, none⟩ u) g go gc ga sv s x' := by
  obtain ⟨n1, n2, n3⟩ := h.gne
  refine ⟨hx ▸ h.main.put i u, ?_, ?_, ?_, ?_, h.oc, h.oa, h.ca⟩
  · rw [h1]; exact h.ord.far n1 u
  · rw [h2]; exact h.cls.far n2 u
  · rw [h3]; exact h.asd.far n3 u
  · rw [h4]; exact owns_far h.stk h.svg u
theorem SAt.putOrd (h : SAt w g go gc ga sv s x) (i v : Nat) : SAt (w.setCell ⟨go, i, none⟩ (.int .i64 (v : Nat))) g go gc ga sv s { x with ord := x.ord.set i v } := by
  obtain ⟨n1, n2, n3⟩ := h.gne
  exact ⟨h.main.far n1.symm _, natRow_set x.ord i v ▸ h.ord.put i _, h.cls.far h.oc.symm _, h.asd.far h.oa.symm _, owns_far h.stk h.svo _, h.oc, h.oa, h.ca⟩
theorem SAt.putAsd (h : SAt w g go gc ga sv s x) (i v : Nat) : SAt (w.setCell ⟨ga, i, none⟩ (.int .i64 (v : Nat))) g go gc ga sv s { x with asd := x.asd.set i v } := by
  obtain ⟨n1, n2, n3⟩ := h.gne
  exact ⟨h.main.far n3.symm _, h.ord.far h.oa _, h.cls.far h.ca _, natRow_set x.asd i v ▸ h.asd.put i _, owns_far h.stk h.sva _, h.oc, h.oa, h.ca⟩
/-- another stack is stored -/
theorem SAt.putStk (h : SAt w g go gc ga sv s x) (sv' : Value) (l : List (Nat × Nat × Nat)) (ho : w.ownsRow 0 63 3 sv' l.length (stkCells l.reverse)) : SAt (w.setCell ⟨g, 5, none⟩ sv') g go gc ga sv' s { x with stk := l } := by
  obtain ⟨n1, n2, n3⟩ := h.gne
  exact ⟨h.main.put 5 sv', h.ord.far n1 _, h.cls.far n2 _, h.asd.far n3 _, owns_far ho (owns_ne ho h.main (by decide)) _, h.oc, h.oa, h.ca⟩
/-- the classes and the row that is laid aside change places -/
theorem SAt.swap (h : SAt w g go gc ga sv s x) : SAt ((w.setCell ⟨g, 2, none⟩ (.slice (some ⟨ga, 0, none⟩) s.size s.size)).setCell ⟨g, 3, none⟩ (.slice (some ⟨gc, 0, none⟩) s.size s.size)) g go ga gc sv s { x with cls := x.asd, asd := x.cls } := by
  obtain ⟨n1, n2, n3⟩ := h.gne
  exact ⟨(h.main.put 2 _).put 3 _, (h.ord.far n1 _).far n1 _, (h.asd.far n3 _).far n3 _, (h.cls.far n2 _).far n2 _, owns_far (owns_far h.stk h.svg _) h.svg _, h.oa, h.oc, h.ca.symm⟩
end

variable {w : World} {F : Nat → Prop} {g : Nat} {s : ByteArray} {x : SS}
theorem spost {w' : World} {x' : SS} {go gc ga : Nat} {sv : Value} (h : SAt w' g go gc ga sv s x') (f1 : F g) (f2 : F go) (f3 : F gc) (f4 : F ga) (f5 : ∀ b, sv.ownBlock = some b → F b) (k : Keeps F w w') : SPost F g s w x' w' :=
  ⟨⟨go, gc, ga, sv, h, .inl f1, .inl f2, .inl f3, .inl f4, fun b hb => .inl (f5 b hb)⟩, k⟩
theorem SAt.drew {w : World} {g go gc ga : Nat} {sv : Value} {s : ByteArray} {x : SS} (h : SAt w g go gc ga sv s x) : SAt w.drew g go gc ga sv s x := h.below (kdr (kr _))
theorem Keeps.drew {w w' : World} {F : Nat → Prop} (h : Keeps F w w') : Keeps F w w'.drew := h.then (kdr (kr _))

theorem s_lay (h : SIn w F g s x) {n m : Nat} (hn : n = s.size) (ho : Ok n m x) (hn2 : n ≤ 900000) (h0 : 0 < x.hi) (h1 : x.laid < x.mid - x.lo) :
    Calls Try.prog 55 #[.pointer (some ⟨g, 0, none⟩)] w fun e w' => e = .returned (.tuple #[]) ∧ SPost F g s w (layS x) w' := by
  subst hn
  obtain ⟨go, gc, ga, sv, h, f1, f2, f3, f4, f5⟩ := h
  obtain ⟨m1, m2, m3, m4, m5, m6, m7, m8, m9, m10⟩ := ho.merge.resolve_left (by omega)
  have hol := ho.ol
  have hal := ho.al
  obtain ⟨n1, n2, n3⟩ := h.gne
  have n4 := h.oa
  have c1 : w.cell? ⟨g, 1, none⟩ = some (.slice (some ⟨go, 0, none⟩) s.size s.size) := h.main.at_ 1 rfl
  have c3 : w.cell? ⟨g, 3, none⟩ = some (.slice (some ⟨ga, 0, none⟩) s.size s.size) := h.main.at_ 3 rfl
  have c6 : w.cell? ⟨g, 6, none⟩ = some (.int .i64 (x.lo : Nat)) := h.main.at_ 6 rfl
  have c9 : w.cell? ⟨g, 9, none⟩ = some (.int .i64 (x.laid : Nat)) := h.main.at_ 9 rfl
  have k9 := h.main.free 9
  have i1 := natRow_at h.ord (i := x.lo + x.laid) (by omega)
  have i2 := natRow_at h.asd (i := x.laid) (by omega)
  have k2 := h.asd.free x.laid
  have hp : Hid (SPost F g s w (layS x) (((w.setCell ⟨ga, x.laid, none⟩ (.int .i64 ((x.ord.getD (x.lo + x.laid) 0 : Nat) : Int))).setCell ⟨g, 9, none⟩ (.int .i64 ((x.laid : Int) + 1))).drew)) :=
    spost ((h.putAsd x.laid _).put 9 _ (layS x) rfl rfl rfl rfl rfl).drew f1 f2 f3 f4 f5 (((Keeps.refl F w).set (.inr f4) _).set (.inr f1) _).drew
  generalize x.ord.getD (x.lo + x.laid) 0 = u at *
  generalize x.asd.getD x.laid 0 = u2 at *
  go_enter Try.func55, Try.ntmps55
  go_wp2_with fail
  go_region
  go_wp2
  go_end0
  exact ⟨rfl, hp.out⟩

end Go.Proofs.Ytbakfaihnecmoaa

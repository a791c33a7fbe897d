/- The walk of pass. -/
import Derived.Test.YtbakfaihnecmoaaSE
import Derived.Test.YtbakfaihnecmoaaAppStep
namespace Go.Proofs.Ytbakfaihnecmoaa
set_option linter.unusedVariables false
set_option linter.unusedSimpArgs false
open Go.RowKit Sp
variable {w : World} {F : Nat → Prop} {g : Nat} {s : ByteArray} {x : SS}

theorem s_pass_done (h : SIn w F g s x) (hol : x.ord.length = s.size) (hn2 : s.size ≤ 900000) (hrl : x.reach ≤ 2 * s.size) (hll : x.last ≤ s.size) (hc : x.last + 1 = s.size ∨ s.size ≤ x.reach) :
    Calls Try.prog 60 #[.pointer (some ⟨g, 0, none⟩)] w fun e w' => e = .returned (.tuple #[]) ∧ SPost F g s w (passS x) w' := by
  have hj : Hid (passS x = { x with cls := x.asd, asd := x.cls, rnk := 0, done := true }) := by
    unfold Hid passS; rw [if_pos (by rw [hol]; exact hc)]
  obtain ⟨go, gc, ga, sv, h, f1, f2, f3, f4, f5⟩ := h
  have c1 : w.cell? ⟨g, 1, none⟩ = some (.slice (some ⟨go, 0, none⟩) s.size s.size) := h.main.at_ 1 rfl
  have c2 : w.cell? ⟨g, 2, none⟩ = some (.slice (some ⟨gc, 0, none⟩) s.size s.size) := h.main.at_ 2 rfl
  have c3 : w.cell? ⟨g, 3, none⟩ = some (.slice (some ⟨ga, 0, none⟩) s.size s.size) := h.main.at_ 3 rfl
  have c4 : w.cell? ⟨g, 4, none⟩ = some (.int .i64 (x.reach : Nat)) := h.main.at_ 4 rfl
  have c12 : w.cell? ⟨g, 12, none⟩ = some (.int .i64 (x.rnk : Nat)) := h.main.at_ 12 rfl
  have c13 : w.cell? ⟨g, 13, none⟩ = some (.int .i64 (x.last : Nat)) := h.main.at_ 13 rfl
  have c15 : w.cell? ⟨g, 15, none⟩ = some (.bool x.done) := h.main.at_ 15 rfl
  have e2 := h.main.free 2
  have e3 := h.main.free 3
  have e12 := h.main.free 12
  have e15 := h.main.free 15
  have hfin : Hid (∀ k, SPost F g s w (passS x) (((((w.setCell ⟨g, 2, none⟩ (.slice (some ⟨ga, 0, none⟩) s.size s.size)).setCell ⟨g, 3, none⟩ (.slice (some ⟨gc, 0, none⟩) s.size s.size)).setCell ⟨g, 12, none⟩ (.int .i64 0)).drewN k).setCell ⟨g, 15, none⟩ (.bool true))) := by
    intro k
    rw [hj.out]
    have a1 := (h.swap.put 12 (.int .i64 0) { x with cls := x.asd, asd := x.cls, rnk := 0 } rfl rfl rfl rfl rfl).below (kd (kr _) k)
    have a2 := a1.put 15 (.bool true) { x with cls := x.asd, asd := x.cls, rnk := 0, done := true } rfl rfl rfl rfl rfl
    exact spost a2 f1 f2 f4 f3 f5 (((((Keeps.refl F w).set (.inr f1) _).set (.inr f1) _).set (.inr f1) _).drewN k |>.set (.inr f1) _)
  by_cases hl : x.last + 1 = s.size
  · have hd : ((x.last : Int) == (s.size : Int) - 1) = true := by simp; omega
    go_enter Try.func60, Try.ntmps60
    go_wp2_with fail
    go_quiet (fail)
    go_wp2
    (refine bodyPost_ret (results_none rfl _ _ _) rfl ?_)
    exact ⟨rfl, hfin.out _⟩
  · have hd : ((x.last : Int) == (s.size : Int) - 1) = false := by simp; omega
    have hd2 : decide ((s.size : Int) ≤ (x.reach : Int)) = true := by simp; omega
    go_enter Try.func60, Try.ntmps60
    go_wp2_with fail
    go_quiet (fail)
    go_wp2
    (refine bodyPost_ret (results_none rfl _ _ _) rfl ?_)
    exact ⟨rfl, hfin.out _⟩

end Go.Proofs.Ytbakfaihnecmoaa

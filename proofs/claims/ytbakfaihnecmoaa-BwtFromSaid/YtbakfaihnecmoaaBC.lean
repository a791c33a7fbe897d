/- A turner: the walk of Step. -/
import Derived.Test.YtbakfaihnecmoaaBB
namespace Go.Proofs.Ytbakfaihnecmoaa
set_option linter.unusedVariables false
set_option linter.unusedSimpArgs false
open Go.RowKit Sp Pl

theorem clone_new (p : Addr) (xs : List Int) (cap : Nat) (w : World) (hl : xs.length ≤ 1099511627776) (hr : NumsAt .i64 w (some p) xs) :
    Calls Try.prog 48 #[.slice (some p) xs.length cap] w fun e w' => (∃ a cap, e = .returned (.slice a xs.length cap) ∧ NumsAt .i64 w' a xs ∧ ∀ q, a = some q → w.heap.size ≤ q.block) ∧ Below w.heap.size w w' := by
  have ho := Lib.hid (owns_new0 w)
  have hr := Lib.hid (hr.alloc (.cells #[] 3))
  have hnil : ∀ w : World, Sem.run Try.prog (binOp .eql 23 (.slice (some p) xs.length cap) (.slice none 0 0)) w = .ok (.bool false) w := fun w => Lib.run_eql_slice_nil w 23 3 (some p) xs.length cap 0 0 Try.underlying23
  go_enter Try.func48, Try.ntmps48
  go_wp2_with (first | (at_builtin; refine app_nums (w := (w.alloc (.cells #[] 3))) rfl _ _ 23 3 rfl Try.underlying23 info_int ho.out hr.out rfl rfl (by decide) (by (simp; omega)) (by (simp)) ?_; intro v3 w3 own3 be3))
  obtain ⟨a, c, rfl, hr3⟩ := own3.reads
  have hfar := own3.far
  go_ret
  simp only [List.nil_append] at hr3 ⊢
  exact ⟨⟨a, c, rfl, hr3, hfar⟩, (ka (kr w) _).trans be3⟩
theorem s_Order_new {w : World} {F : Nat → Prop} {g : Nat} {s : ByteArray} (hn : s.size ≤ 900000) (h : SIn w F g s (AtS s (stepsR s))) : Calls Try.prog 25 #[.pointer (some ⟨g, 0, none⟩)] w fun e w' => (∃ a cap, e = .returned (.slice a s.size cap) ∧ NumsAt .i64 w' a (sortTo s s.size) ∧ ∀ q, a = some q → w.heap.size ≤ q.block) ∧ Below w.heap.size w w' := by
  have HD := s_Done _ h
  rw [is_done s hn] at HD
  have HD := Lib.hid HD
  obtain ⟨go, gc, ga, sv, h, _⟩ := h
  have c1 : w.cell? ⟨g, 1, none⟩ = some (.slice (some ⟨go, 0, none⟩) s.size s.size) := h.main.at_ 1 rfl
  have hr := nums_of_nat h.ord
  rw [is_sorted s hn] at hr
  have hc := clone_new ⟨go, 0, none⟩ (sortTo s s.size) s.size w (by rw [sortTo_length]; omega) hr
  rw [sortTo_length] at hc
  have HC := Lib.hid hc
  clear h hr hc
  go_enter Try.func25, Try.ntmps25
  go_wp2_with (first | (go_at_call 23; refine (HD.out).mono ?_; rintro e w1 ⟨rfl, rfl⟩))
  refine HC.out.mono ?_
  rintro e w' ⟨⟨a, cap, rfl, hr, hf⟩, hb⟩
  go_wp2_with fail
  go_ret
  exact ⟨⟨a, cap, rfl, hr, hf⟩, hb⟩

/-- how many steps are gone, of so many that may be, of a turner -/
def goneT (s : ByteArray) (n : Nat) (b : Int) : Nat := (min b ((stepsR s + s.size - n : Nat) : Int)).toNat

theorem TIn.sorted {B : Nat} {w w1 : World} {gt : Nat} {s : ByteArray} {n : Nat} {set : Bool} {F : Nat → Prop} {g : Nat} {ordv lastv : Value} (h : TIn B w gt s n set F g ordv lastv) (h1 : 1 ≤ s.size) (hB : B ≤ w.heap.size) {k : Nat} (hp : SPost F g s w (AtS s (min (n + k) (stepsR s))) w1) (hk : n + k ≤ stepsR s ∨ k = 0) :
    TIn B w1 gt s (n + k) set (fun b => (F b ∨ w.heap.size ≤ b) ∧ b < w1.heap.size) g ordv lastv ∧ Below B w w1 := by
  have l1 := h.main.lt
  have e1 : n + k - stepsR s = n - stepsR s := by omega
  have ol : ∀ b, lastv.ownBlock = some b → b < w.heap.size := fun b hb => (World.ownsRow.lt h.last b hb).2
  refine ⟨⟨hp.1.shrink, by rw [e1]; exact h.main.keeps hp.2 h.nF, fun hf => ?_, fun hs => ?_, fun hs => ?_, ?_, fun b hb hf => ?_, fun b hb => ?_, h.bt, h.bl⟩, hp.2.below hB fun i hi => h.bF i hi⟩
  · rcases hf.1 with hf | hf
    · exact h.nF hf
    · omega
  · have := h.unset hs
    exact ⟨this.1, by omega⟩
  · obtain ⟨q1, p, cap, q2, q3, q4, q5, q6⟩ := h.isset hs
    refine ⟨by omega, p, cap, q2, q3.keeps hp.2 (fun q hq _ hf => by cases hq; exact q4 hf), fun hf => ?_, q5, q6⟩
    rcases hf.1 with hf | hf
    · exact q4 hf
    · obtain ⟨b, off, e, hc⟩ := q3 0 (by rw [sortTo_length]; omega)
      cases e
      have h2 : b < w.heap.size := World.block_lt_of_cell? w _ hc
      have h3 : w.heap.size ≤ b := hf
      omega
  · rw [e1]
    exact owns_keeps h.last hp.2 h.lastF
  · rcases hf.1 with hf | hf
    · exact h.lastF b hb hf
    · have := ol b hb; omega
  · rcases hb.1 with hb | hb
    · exact h.bF b hb
    · omega

theorem TIn.order {B : Nat} {w w2 : World} {gt : Nat} {s : ByteArray} {n : Nat} {F : Nat → Prop} {g : Nat} {ordv lastv : Value} (h : TIn B w gt s n false F g ordv lastv) (hFl : ∀ b, F b → b < w.heap.size) (hn : stepsR s ≤ n) (hk : Below w.heap.size w w2) {p : Addr} {cap : Nat} (hr : NumsAt .i64 w2 (some p) (sortTo s s.size)) (hf : w.heap.size ≤ p.block) :
    TIn B (w2.setCell ⟨gt, 2, none⟩ (.slice (some p) s.size cap)) gt s n true F g (.slice (some p) s.size cap) lastv := by
  have l1 := h.main.lt
  have ol : ∀ b, lastv.ownBlock = some b → b < w.heap.size := fun b hb => (World.ownsRow.lt h.last b hb).2
  have h2 := h.below hk
  have ng : p.block ≠ gt := by omega
  refine ⟨?_, h2.main.put 2 _, h.nF, fun e => (by cases e), fun _ => ⟨hn, p, cap, rfl, hr.set (fun q hq => by cases hq; exact ng) _, fun hq => ?_, ng, fun e => ?_⟩, ?_, h.lastF, h.bF, h.bt, h.bl⟩
  · exact h2.sor.keeps (G := fun i => i = gt) ((Keeps.refl (fun i => i = gt) w2).set (p := ⟨gt, 2, none⟩) (.inr rfl) _) fun b hb e => by subst e; exact h.nF hb
  · have := hFl _ hq; omega
  · have := ol _ e; omega
  · exact owns_far h2.last (owns_ne h2.last h2.main (by decide)) _

theorem b_Step_none (s : ByteArray) (gt : Nat) (w : World) (b : Int) (hb : b < 1) : Calls Try.prog 35 #[.pointer (some ⟨gt, 0, none⟩), .int .i64 b] w fun e w' => e = .returned (.int .i64 0) ∧ w = w' := by
  have hd : decide (b < 1) = true := by simpa using hb
  go_enter Try.func35, Try.ntmps35
  go_wp2
  go_ret
  exact ⟨rfl, rfl⟩

/-- a turner that a call may go on with: so many steps are gone -/
def TOwn (B : Nat) (gt : Nat) (s : ByteArray) (n : Nat) (w : World) : Prop := ∃ set, Turn B w gt s n set
/-- what is left when the sorter has gone its steps and the order is laid if it is to be -/
def Mid (B : Nat) (gt : Nat) (s : ByteArray) (n : Nat) (w : World) : Prop := ∃ set, Turn B w gt s n set ∧ (stepsR s ≤ n → set = true)

end Go.Proofs.Ytbakfaihnecmoaa

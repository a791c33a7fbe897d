/- The walk of pass, where another pass is to come. -/
import Derived.Test.YtbakfaihnecmoaaSF
namespace Go.Proofs.Ytbakfaihnecmoaa
set_option linter.unusedVariables false
set_option linter.unusedSimpArgs false
open Go.RowKit Sp
theorem info_part : (Try.prog.info? 63).map (fun i => (i.zero, i.size, i.bytes)) = some (some (.agg #[.int .i64 0, .int .i64 0, .int .i64 0]), 3, 24) := by kernel_rfl
theorem owns_slice {w : World} {base : Nat} {e : TypeId} {size : Nat} {v : Value} {n : Nat} {xs : List Value} (h : w.ownsRow base e size v n xs) (hn : 0 < n) : ∃ gk cap, v = .slice (some ⟨gk, 0, none⟩) n cap := by
  rcases h.2 with ⟨_, h1⟩ | ⟨gk, cap, cur, rfl, _⟩
  · omega
  · exact ⟨_, _, rfl⟩
theorem new_cells (w : World) (e : TypeId) (news : List Value) : ∀ j u, news[j]? = some u → (w.alloc (.cells news.toArray e)).cell? ((⟨w.heap.size, 0, none⟩ : Addr).add j) = some u := by
  intro j u hu
  rw [add_plain, Nat.zero_add, cell_of_row _ w.heap.size j _ e (0, 0) (heap_alloc_new w _)]
  simpa using hu
/-- another stack, that was appended to the one that lay there, is stored -/
theorem SAt.append {W W1 w6 : World} {g go gc ga : Nat} {sv v6 : Value} {s : ByteArray} {x : SS} (h : SAt W g go gc ga sv s x) (hW : Below W.heap.size W W1) (hg : W1.grownBy w6 sv.ownBlock) (l : List (Nat × Nat × Nat)) {m : Nat} {cs : List Value} (own : w6.ownsRow 0 63 3 v6 m cs) (hm : m = l.length) (hcs : cs = stkCells l.reverse) :
    SAt (w6.setCell ⟨g, 5, none⟩ v6) g go gc ga v6 s { x with stk := l } := by
  subst hm hcs
  obtain ⟨n1, n2, n3⟩ := h.gne
  have bk : ∀ {i : Nat} {t : TypeId} {cs : Array Value}, Blk W i t cs → sv.ownBlock ≠ some i → Blk w6 i t cs := fun {i t cs} hb hn => by
    have e1 := hb.kept hW
    exact (hg.block i e1.lt (fun e => hn e.symm)).trans e1
  have m6 := bk h.main h.svg
  exact ⟨m6.put 5 v6, (bk h.ord h.svo).far n1 _, (bk h.cls h.svc).far n2 _, (bk h.asd h.sva).far n3 _, owns_far own (owns_ne own m6 (by decide)) _, h.oc, h.oa, h.ca⟩
theorem spost_append {w W W1 w6 : World} {F : Nat → Prop} {g go gc ga : Nat} {sv v6 : Value} {s : ByteArray} {x : SS} (h : SAt W g go gc ga sv s x) (hW : Below W.heap.size W W1) (hg : W1.grownBy w6 sv.ownBlock) (l : List (Nat × Nat × Nat)) {m : Nat} {cs : List Value} (own : w6.ownsRow 0 63 3 v6 m cs) (hm : m = l.length) (hcs : cs = stkCells l.reverse)
    (k : Keeps F w W) (f1 : F g) (f2 : F go) (f3 : F gc) (f4 : F ga) (f5 : ∀ b, sv.ownBlock = some b → F b) (pl : v6.ownBlock = sv.ownBlock ∨ v6.ownBlock = some W1.heap.size) :
    SPost F g s w { x with stk := l } (w6.setCell ⟨g, 5, none⟩ v6) := by
  refine ⟨⟨go, gc, ga, v6, h.append hW hg l own hm hcs, .inl f1, .inl f2, .inl f3, .inl f4, fun b hb => ?_⟩, ?_⟩
  · rcases pl with pl | pl
    · exact .inl (f5 b (pl ▸ hb))
    · rw [pl] at hb
      cases hb
      have := k.size
      have := hW.size
      exact .inr (by omega)
  · refine Keeps.set ((k.then hW).trans (G := F) ⟨hg.os, hg.tape, hg.output, hg.size, fun i hi hn => hg.block i hi (fun e => hn (f5 i e.symm))⟩ fun _ _ h => h) (.inr f1) v6
variable {w : World} {F : Nat → Prop} {g : Nat} {s : ByteArray} {x : SS}

set_option maxHeartbeats 2000000 in
theorem s_pass_more (h : SIn w F g s x) (hol : x.ord.length = s.size) (hn2 : s.size ≤ 900000) (hll : x.last ≤ s.size) (hs : x.stk = []) (hc : ¬ (x.last + 1 = s.size ∨ s.size ≤ x.reach)) :
    Calls Try.prog 60 #[.pointer (some ⟨g, 0, none⟩)] w fun e w' => e = .returned (.tuple #[]) ∧ SPost F g s w (passS x) w' := by
  obtain ⟨go, gc, ga, sv, h, f1, f2, f3, f4, f5⟩ := h
  have c1 : w.cell? ⟨g, 1, none⟩ = some (.slice (some ⟨go, 0, none⟩) s.size s.size) := h.main.at_ 1 rfl
  have c2 : w.cell? ⟨g, 2, none⟩ = some (.slice (some ⟨gc, 0, none⟩) s.size s.size) := h.main.at_ 2 rfl
  have c3 : w.cell? ⟨g, 3, none⟩ = some (.slice (some ⟨ga, 0, none⟩) s.size s.size) := h.main.at_ 3 rfl
  have c4 : w.cell? ⟨g, 4, none⟩ = some (.int .i64 (x.reach : Nat)) := h.main.at_ 4 rfl
  have c5 : w.cell? ⟨g, 5, none⟩ = some sv := h.main.at_ 5 rfl
  have c12 : w.cell? ⟨g, 12, none⟩ = some (.int .i64 (x.rnk : Nat)) := h.main.at_ 12 rfl
  have c13 : w.cell? ⟨g, 13, none⟩ = some (.int .i64 (x.last : Nat)) := h.main.at_ 13 rfl
  have e2 := h.main.free 2
  have e3 := h.main.free 3
  have e4 := h.main.free 4
  have e5 := h.main.free 5
  have e12 := h.main.free 12
  have hd : ((x.last : Int) == (s.size : Int) - 1) = false := by simp; omega
  have hd2 : decide ((s.size : Int) ≤ (x.reach : Int)) = false := by simp; omega
  obtain ⟨R, hR⟩ : ∃ R : Nat, R = max 1 (2 * x.reach) := ⟨_, rfl⟩
  have hmax : max (1 : Int) (2 * (x.reach : Int)) = (R : Nat) := by omega
  by_cases h0 : x.reach = 0
  · have c4' : w.cell? ⟨g, 4, none⟩ = some (.int .i64 0) := by rw [c4, h0]; rfl
    have hz : ¬ s.size = 0 := by omega
    have hz2 : decide ((s.size : Int) ≤ 0) = false := decide_eq_false (by omega)
    have hz3 : decide (s.size = 0) = false := by simpa using hz
    have hz4 : 0 < s.size := by omega
    clear c4
    go_enter Try.func60, Try.ntmps60
    go_wp2_with fail
    go_quiet (fail)
    go_wp2_with fail
    obtain ⟨W5, hW5⟩ : ∃ W5 : World, ((((w.setCell ⟨g, 2, none⟩ (.slice (some ⟨ga, 0, none⟩) s.size s.size)).setCell ⟨g, 3, none⟩ (.slice (some ⟨gc, 0, none⟩) s.size s.size)).setCell ⟨g, 12, none⟩ (.int .i64 0)).drewN nq).setCell ⟨g, 4, none⟩ (.int .i64 1) = W5 := ⟨_, rfl⟩
    rw [hW5]
    have a5 : SAt W5 g go ga gc sv s { x with cls := x.asd, asd := x.cls, rnk := 0, reach := 1 } := by
      rw [← hW5]
      exact ((h.swap.put 12 (.int .i64 0) { x with cls := x.asd, asd := x.cls, rnk := 0 } rfl rfl rfl rfl rfl).below (kd (kr _) nq)).put 4 _ { x with cls := x.asd, asd := x.cls, rnk := 0, reach := 1 } (by simp [cellsS]) rfl rfl rfl rfl
    have k5 : Keeps F w W5 := by
      rw [← hW5]
      exact (((((Keeps.refl F w).set (.inr f1) _).set (.inr f1) _).set (.inr f1) _).drewN nq).set (.inr f1) _
    have z1 : W5.cell? ⟨g, 1, none⟩ = some (.slice (some ⟨go, 0, none⟩) s.size s.size) := a5.main.at_ 1 rfl
    have z5 : W5.cell? ⟨g, 5, none⟩ = some sv := a5.main.at_ 5 rfl
    have y5 := a5.main.free 5
    have l5 := a5.main.lt
    have hown0 : Hid (W5.ownsRow 0 63 3 sv 0 []) := by
      have := a5.stk
      simp only [hs] at this
      exact this
    have hblk : Hid (∀ W w6, Below W5.heap.size W5 W → W.grownBy w6 sv.ownBlock → Blk w6 g 65 (cellsS s { x with cls := x.asd, asd := x.cls, rnk := 0, reach := 1 } go ga gc sv)) := fun W w6 hW hg => by
      have e1 := a5.main.kept hW
      exact (hg.block g e1.lt (fun e => a5.svg e.symm)).trans e1
    have a5 := Lib.hid a5
    have k5 := Lib.hid k5
    clear hW5 c1 c2 c3 c4' c5 c12 c13 e2 e3 e4 e5 e12 h
    obtain ⟨i0, hi, hz0, hz1, hz2⟩ := info_parts info_part
    have hown1 : Hid (∀ W, Below W5.heap.size W5 W → W.ownsRow 0 63 3 sv 0 []) := fun W hW => owns_below hown0.out hW (Nat.le_refl _)
    have hfin : Hid (∀ W v6 w6, Below W5.heap.size W5 W → W.grownBy w6 sv.ownBlock → w6.ownsRow 0 63 3 v6 (0 + 1) ([] ++ [.int .i64 0, .int .i64 0, .int .i64 (s.size : Nat)]) → (v6.ownBlock = sv.ownBlock ∨ v6.ownBlock = some W.heap.size) → SPost F g s w (passS x) (w6.setCell ⟨g, 5, none⟩ v6)) := by
      intro W v6 w6 hW hg own pl
      have e1 : passS x = { x with cls := x.asd, asd := x.cls, rnk := 0, reach := 1, stk := [(0, 0, s.size)] } := by
        unfold passS
        rw [if_neg (by rw [hol]; exact hc), hs, hol, show max 1 (2 * x.reach) = 1 by omega]
      rw [e1]
      exact spost_append a5.out hW hg [(0, 0, s.size)] own rfl rfl k5.out f1 f2 f4 f3 f5 pl
    go_region_law (refine step_append_own rfl (.tmp 60) (.tmp 67) 61 rfl 0 63 i0 (.agg #[.int .i64 0, .int .i64 0, .int .i64 0]) 3 24 Try.underlying61 hi hz0 hz1 hz2 rfl (by decide) sv 0 [] rfl (hown1.out _ (ka (kdr (kr _)) _)) ⟨W5.heap.size, 0, none⟩ 1 1 [.int .i64 0, .int .i64 0, .int .i64 (s.size : Nat)] rfl rfl (new_cells _ _ _) (fun u hu => by simp at hu; rcases hu with rfl | rfl <;> rfl) (by decide) (by decide) (Nat.zero_le _) ?_; intro v6 w6 own6 gr6 pl6; obtain ⟨gk6, cap6, rfl⟩ := owns_slice own6 (by decide); have b6 := hblk.out _ _ (ka (kdr (kr _)) _) gr6; have t5 : w6.cell? ⟨g, 5, none⟩ = some sv := b6.at_ 5 rfl; have u5 := b6.free 5; have l6 := b6.lt)
    all_goals
      go_wp2_with fail
      go_end0
      refine ⟨rfl, ?_⟩
      with_reducible refine hfin.out _ _ _ ?_ gr6 own6 pl6
      exact ka (kdr (kr _)) _
  · have hd3 : decide (1 < 2 * (x.reach : Int)) = true := by simp; omega
    have hd4 : (1 : Int) < 2 * (x.reach : Int) := by omega
    go_enter Try.func60, Try.ntmps60
    go_wp2_with fail
    go_quiet (fail)
    go_wp2_with fail
    obtain ⟨W5, hW5⟩ : ∃ W5 : World, ((((w.setCell ⟨g, 2, none⟩ (.slice (some ⟨ga, 0, none⟩) s.size s.size)).setCell ⟨g, 3, none⟩ (.slice (some ⟨gc, 0, none⟩) s.size s.size)).setCell ⟨g, 12, none⟩ (.int .i64 0)).drewN nq).setCell ⟨g, 4, none⟩ (.int .i64 (2 * (x.reach : Int))) = W5 := ⟨_, rfl⟩
    rw [hW5]
    have a5 : SAt W5 g go ga gc sv s { x with cls := x.asd, asd := x.cls, rnk := 0, reach := 2 * x.reach } := by
      rw [← hW5]
      exact ((h.swap.put 12 (.int .i64 0) { x with cls := x.asd, asd := x.cls, rnk := 0 } rfl rfl rfl rfl rfl).below (kd (kr _) nq)).put 4 _ { x with cls := x.asd, asd := x.cls, rnk := 0, reach := 2 * x.reach } (by simp [cellsS]) rfl rfl rfl rfl
    have k5 : Keeps F w W5 := by
      rw [← hW5]
      exact (((((Keeps.refl F w).set (.inr f1) _).set (.inr f1) _).set (.inr f1) _).drewN nq).set (.inr f1) _
    have z1 : W5.cell? ⟨g, 1, none⟩ = some (.slice (some ⟨go, 0, none⟩) s.size s.size) := a5.main.at_ 1 rfl
    have z5 : W5.cell? ⟨g, 5, none⟩ = some sv := a5.main.at_ 5 rfl
    have y5 := a5.main.free 5
    have l5 := a5.main.lt
    have hown0 : Hid (W5.ownsRow 0 63 3 sv 0 []) := by
      have := a5.stk
      simp only [hs] at this
      exact this
    have hblk : Hid (∀ W w6, Below W5.heap.size W5 W → W.grownBy w6 sv.ownBlock → Blk w6 g 65 (cellsS s { x with cls := x.asd, asd := x.cls, rnk := 0, reach := 2 * x.reach } go ga gc sv)) := fun W w6 hW hg => by
      have e1 := a5.main.kept hW
      exact (hg.block g e1.lt (fun e => a5.svg e.symm)).trans e1
    have a5 := Lib.hid a5
    have k5 := Lib.hid k5
    clear hW5 c1 c2 c3 c4 c5 c12 c13 e2 e3 e4 e5 e12 h
    obtain ⟨i0, hi, hz0, hz1, hz2⟩ := info_parts info_part
    have hown1 : Hid (∀ W, Below W5.heap.size W5 W → W.ownsRow 0 63 3 sv 0 []) := fun W hW => owns_below hown0.out hW (Nat.le_refl _)
    have hfin : Hid (∀ W v6 w6, Below W5.heap.size W5 W → W.grownBy w6 sv.ownBlock → w6.ownsRow 0 63 3 v6 (0 + 1) ([] ++ [.int .i64 0, .int .i64 0, .int .i64 (s.size : Nat)]) → (v6.ownBlock = sv.ownBlock ∨ v6.ownBlock = some W.heap.size) → SPost F g s w (passS x) (w6.setCell ⟨g, 5, none⟩ v6)) := by
      intro W v6 w6 hW hg own pl
      have e1 : passS x = { x with cls := x.asd, asd := x.cls, rnk := 0, reach := 2 * x.reach, stk := [(0, 0, s.size)] } := by
        unfold passS
        rw [if_neg (by rw [hol]; exact hc), hs, hol, show max 1 (2 * x.reach) = 2 * x.reach by omega]
      rw [e1]
      exact spost_append a5.out hW hg [(0, 0, s.size)] own rfl rfl k5.out f1 f2 f4 f3 f5 pl
    go_region_law (refine step_append_own rfl (.tmp 60) (.tmp 67) 61 rfl 0 63 i0 (.agg #[.int .i64 0, .int .i64 0, .int .i64 0]) 3 24 Try.underlying61 hi hz0 hz1 hz2 rfl (by decide) sv 0 [] rfl (hown1.out _ (ka (kdr (kr _)) _)) ⟨W5.heap.size, 0, none⟩ 1 1 [.int .i64 0, .int .i64 0, .int .i64 (s.size : Nat)] rfl rfl (new_cells _ _ _) (fun u hu => by simp at hu; rcases hu with rfl | rfl <;> rfl) (by decide) (by decide) (Nat.zero_le _) ?_; intro v6 w6 own6 gr6 pl6; obtain ⟨gk6, cap6, rfl⟩ := owns_slice own6 (by decide); have b6 := hblk.out _ _ (ka (kdr (kr _)) _) gr6; have t5 : w6.cell? ⟨g, 5, none⟩ = some sv := b6.at_ 5 rfl; have u5 := b6.free 5; have l6 := b6.lt)
    all_goals
      go_wp2_with fail
      go_end0
      refine ⟨rfl, ?_⟩
      with_reducible refine hfin.out _ _ _ ?_ gr6 own6 pl6
      exact ka (kdr (kr _)) _

end Go.Proofs.Ytbakfaihnecmoaa

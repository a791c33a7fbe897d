/- The walk of begin. -/
import Derived.Test.YtbakfaihnecmoaaSG
import Derived.Deep.RegionHeld3
import Derived.Deep.AppendLies
namespace Go.Proofs.Ytbakfaihnecmoaa
set_option linter.unusedVariables false
set_option linter.unusedSimpArgs false
open Go.RowKit Sp
variable {w : World} {F : Nat → Prop} {g : Nat} {s : ByteArray} {x : SS}

theorem s_begin_one (h : SIn w F g s x) {n m : Nat} (ho : Ok n m x) (hn2 : n ≤ 900000) (hsl : x.stk.length ≤ 1099511627776) {p : Nat × Nat × Nat} {r : List (Nat × Nat × Nat)} (hs : x.stk = p :: r) (hp : p.2.2 - p.1 < 2) :
    Calls Try.prog 57 #[.pointer (some ⟨g, 0, none⟩)] w fun e w' => e = .returned (.tuple #[]) ∧ SPost F g s w (beginS x) w' := by
  have hj : Hid (beginS x = { x with stk := r }) := by
    unfold Hid beginS; rw [hs]; simp only; rw [if_pos hp]
  obtain ⟨q1, q2, q3⟩ := ho.stk p (by rw [hs]; simp)
  obtain ⟨go, gc, ga, sv, h, f1, f2, f3, f4, f5⟩ := h
  have c5 : w.cell? ⟨g, 5, none⟩ = some sv := h.main.at_ 5 rfl
  have e5 := h.main.free 5
  have l5 := h.main.lt
  obtain ⟨gk, cap, rfl, k1, k2, k3, k4, k5, k6, k7, k8⟩ := stk_top h hs
  rw [hs] at hsl
  simp only [List.length_cons] at hsl
  have q4 : (0 : Int) ≤ (r.length : Int) := by omega
  obtain ⟨p1, p2, p3⟩ := p
  dsimp only at *
  have q5 : decide ((p3 : Int) - (p1 : Int) < 2) = true := by simp; omega
  have hfin : Hid (∀ W1, Below w.heap.size w W1 → SPost F g s w { x with stk := r } (W1.setCell ⟨g, 5, none⟩ (.slice (some ⟨gk, 0, none⟩) r.length cap)).drew) := by
    intro W1 hW
    exact spost ((h.below hW).putStk (.slice (some ⟨gk, 0, none⟩) r.length cap) r (owns_below k8 hW (Nat.le_refl _))).drew f1 f2 f3 f4 f5 (((Keeps.refl F w).then hW).set (.inr f1) _).drew
  have hf : Hid (∀ b, (Value.slice (some ⟨gk, 0, none⟩) r.length cap).ownBlock = some b → F b) := fun b hb => f5 b hb
  go_enter Try.func57, Try.ntmps57
  go_wp2_with fail
  go_region
  go_wp2_with fail
  obtain ⟨W1, hW1⟩ : ∃ W1 : World, (w.alloc (.cells #[.int .i64 (p1 : Nat), .int .i64 (p2 : Nat), .int .i64 (p3 : Nat)] 63)).drew = W1 := ⟨_, rfl⟩
  have hb1 : Below w.heap.size w W1 := hW1 ▸ kdr (ka (kr _) _)
  have z5 := cell_below c5 hb1
  have h1 := h.below hb1
  have bm : Blk W1 w.heap.size 63 #[.int .i64 (p1 : Nat), .int .i64 (p2 : Nat), .int .i64 (p3 : Nat)] := hW1 ▸ (Blk.new w _ _).drewN 1
  have u0 := bm.at_ 0 rfl
  have u2 := bm.at_ 2 rfl
  have z5f := h1.main.free 5
  have ne1 : w.heap.size ≠ g := by omega
  rw [hW1]
  have HW := Lib.hid hW1
  clear hW1 c5 e5 k5 k6 k7 k8 h1 bm h
  go_region
  go_wp2_with fail
  refine bodyPost_ret (results_none rfl _ _ _) rfl ?_
  rw [hj.out]
  exact ⟨rfl, hfin.out _ hb1⟩

theorem s_begin_two (h : SIn w F g s x) {n m : Nat} (ho : Ok n m x) (hn2 : n ≤ 900000) (hsl : x.stk.length ≤ 1099511627776) {p : Nat × Nat × Nat} {r : List (Nat × Nat × Nat)} (hs : x.stk = p :: r) (hp : ¬ p.2.2 - p.1 < 2) :
    Calls Try.prog 57 #[.pointer (some ⟨g, 0, none⟩)] w fun e w' => e = .returned (.tuple #[]) ∧ SPost F g s w (beginS x) w' := by
  obtain ⟨M, hM⟩ : ∃ M : Nat, (p.1 + p.2.2) / 2 = M := ⟨_, rfl⟩
  have hj : Hid (beginS x = { x with stk := (p.1, 0, M) :: (M, 0, p.2.2) :: (p.1, M, p.2.2) :: r }) := by
    unfold Hid beginS; rw [hs]; simp only; rw [if_neg hp, hM]
  obtain ⟨q1, q2, q3⟩ := ho.stk p (by rw [hs]; simp)
  obtain ⟨go, gc, ga, sv, h, f1, f2, f3, f4, f5⟩ := h
  have c5 : w.cell? ⟨g, 5, none⟩ = some sv := h.main.at_ 5 rfl
  have e5 := h.main.free 5
  have l5 := h.main.lt
  obtain ⟨gk, cap, rfl, k1, k2, k3, k4, k5, k6, k7, k8⟩ := stk_top h hs
  rw [hs] at hsl
  simp only [List.length_cons] at hsl
  have q4 : (0 : Int) ≤ (r.length : Int) := by omega
  obtain ⟨p1, p2, p3⟩ := p
  dsimp only at *
  have q5 : decide ((p3 : Int) - (p1 : Int) < 2) = false := by simp; omega
  have q6 : ((p1 : Int) + (p3 : Int)) / 2 = (M : Int) := by omega
  have HM := Lib.hid hM
  clear hM
  have hat : Hid (∀ W1, Below w.heap.size w W1 → SAt (W1.setCell ⟨g, 5, none⟩ (.slice (some ⟨gk, 0, none⟩) r.length cap)).drew g go gc ga (.slice (some ⟨gk, 0, none⟩) r.length cap) s { x with stk := r } ∧ Keeps F w (W1.setCell ⟨g, 5, none⟩ (.slice (some ⟨gk, 0, none⟩) r.length cap)).drew) := by
    intro W1 hW
    exact ⟨((h.below hW).putStk (.slice (some ⟨gk, 0, none⟩) r.length cap) r (owns_below k8 hW (Nat.le_refl _))).drew, (((Keeps.refl F w).then hW).set (.inr f1) _).drew⟩
  go_enter Try.func57, Try.ntmps57
  go_wp2_with fail
  go_region
  go_wp2_with fail
  obtain ⟨W1, hW1⟩ : ∃ W1 : World, (w.alloc (.cells #[.int .i64 (p1 : Nat), .int .i64 (p2 : Nat), .int .i64 (p3 : Nat)] 63)).drew = W1 := ⟨_, rfl⟩
  have hb1 : Below w.heap.size w W1 := hW1 ▸ kdr (ka (kr _) _)
  have z5 := cell_below c5 hb1
  have h1 := h.below hb1
  have bm : Blk W1 w.heap.size 63 #[.int .i64 (p1 : Nat), .int .i64 (p2 : Nat), .int .i64 (p3 : Nat)] := hW1 ▸ (Blk.new w _ _).drewN 1
  have u0 := bm.at_ 0 rfl
  have u2 := bm.at_ 2 rfl
  have z5f := h1.main.free 5
  have ne1 : w.heap.size ≠ g := by omega
  rw [hW1]
  have HW := Lib.hid hW1
  obtain ⟨a4, kp4⟩ := hat.out W1 hb1
  have bm4 : Blk (W1.setCell ⟨g, 5, none⟩ (.slice (some ⟨gk, 0, none⟩) r.length cap)).drew w.heap.size 63 #[.int .i64 (p1 : Nat), .int .i64 (p2 : Nat), .int .i64 (p3 : Nat)] := (bm.far (p := ⟨g, 5, none⟩) ne1 _).drewN 1
  have hf5 : Hid (∀ b, (Value.slice (some ⟨gk, 0, none⟩) r.length cap).ownBlock = some b → F b) := fun b hb => f5 b hb
  clear hW1 c5 e5 k5 k6 k7 k8 h1 bm h hat
  go_region
  go_wp2_with fail
  generalize hW4 : (W1.setCell ⟨g, 5, none⟩ (.slice (some ⟨gk, 0, none⟩) r.length cap)).drew = W4 at *
  have HW4 := Lib.hid hW4
  clear hW4 u0 u2 z5 z5f
  have z5 : W4.cell? ⟨g, 5, none⟩ = some (.slice (some ⟨gk, 0, none⟩) r.length cap) := a4.main.at_ 5 rfl
  have z5f := a4.main.free 5
  have u0 := bm4.at_ 0 rfl
  have u2 := bm4.at_ 2 rfl
  have lt4 := a4.main.lt
  have lu4 := bm4.lt
  have hown0 := a4.stk
  have bmH := Lib.hid bm4
  have a4H := Lib.hid a4
  have kpH := Lib.hid kp4
  clear a4 kp4 bm4
  go_wp2_with fail
  obtain ⟨i0, hi, hz0, hz1, hz2⟩ := info_parts info_part
  have hown1 : Hid (∀ W, Below W4.heap.size W4 W → W.ownsRow 0 63 3 (.slice (some ⟨gk, 0, none⟩) r.length cap) r.length (stkCells r.reverse)) := fun W hW => owns_below hown0 hW (Nat.le_refl _)
  clear hown0
  have hblk : Hid (∀ W w6, Below W4.heap.size W4 W → W.grownBy w6 (Value.slice (some ⟨gk, 0, none⟩) r.length cap).ownBlock → Blk w6 g 65 (cellsS s { x with stk := r } go gc ga (.slice (some ⟨gk, 0, none⟩) r.length cap)) ∧ Blk w6 w.heap.size 63 #[.int .i64 (p1 : Nat), .int .i64 (p2 : Nat), .int .i64 (p3 : Nat)]) := fun W w6 hW hg => by
    have e1 := a4H.out.main.kept hW
    have e2 := bmH.out.kept hW
    exact ⟨(hg.block g e1.lt (fun e => by simp [Value.ownBlock] at e; omega)).trans e1, (hg.block w.heap.size e2.lt (fun e => by simp [Value.ownBlock] at e; omega)).trans e2⟩
  have hfin : Hid (∀ W v6 w6, Below W4.heap.size W4 W → W.grownBy w6 (Value.slice (some ⟨gk, 0, none⟩) r.length cap).ownBlock → w6.ownsRow 0 63 3 v6 (r.length + 3) (stkCells r.reverse ++ [.int .i64 (p1 : Nat), .int .i64 (M : Nat), .int .i64 (p3 : Nat), .int .i64 (M : Nat), .int .i64 0, .int .i64 (p3 : Nat), .int .i64 (p1 : Nat), .int .i64 0, .int .i64 (M : Nat)]) → (v6.ownBlock = (Value.slice (some ⟨gk, 0, none⟩) r.length cap).ownBlock ∨ v6.ownBlock = some W.heap.size) → SPost F g s w (beginS x) (w6.setCell ⟨g, 5, none⟩ v6)) := by
    intro W v6 w6 hW hg own pl
    rw [hj.out]
    exact spost_append a4H.out hW hg ((p1, 0, M) :: (M, 0, p3) :: (p1, M, p3) :: r) own rfl (by simp [stkCells]) kpH.out f1 f2 f3 f4 hf5.out pl
  have hml : r.length + 3 ≤ maxLen := by unfold maxLen; omega
  have hnr2 : g ≠ w.heap.size := fun e => ne1 e.symm
  refine wp_region_held_drew (S := fun W => W.cell? ⟨w.heap.size, 0, none⟩ = some (.int .i64 (p1 : Nat)) ∧ W.cell? ⟨w.heap.size, 2, none⟩ = some (.int .i64 (p3 : Nat))) (by kernel_rfl) ⟨u0, u2⟩ (fun hHeld => ?_)
  (refine wpAnyH_take (i := 0) (v := ?_) rfl (by kernel_rfl) (by kernel_rfl) (by kernel_rfl) (fun _ _ _ h => h) (Or.inl ⟨by rfl, ?_⟩) (by assumption) ?_; rotate_left; (focus (intro wz hSw; (try dsimp only at hSw); go_simp; all_goals (with_reducible rfl))); (try simp only [Act.put, List.getElem_toArray, List.getElem_cons_zero, List.getElem_cons_succ, List.setIfInBounds_toArray, List.set_cons_zero, List.set_cons_succ])); (refine wpAnyH_take (i := 1) (v := ?_) rfl (by kernel_rfl) (by kernel_rfl) (by kernel_rfl) (fun _ _ _ h => h) (Or.inl ⟨by rfl, ?_⟩) (by assumption) ?_; rotate_left; (focus (intro wz hSw; (try dsimp only at hSw); go_simp; all_goals (with_reducible rfl))); (try simp only [Act.put, List.getElem_toArray, List.getElem_cons_zero, List.getElem_cons_succ, List.setIfInBounds_toArray, List.set_cons_zero, List.set_cons_succ])); (refine wpAnyH_take (i := 2) (v := ?_) rfl (by kernel_rfl) (by kernel_rfl) (by kernel_rfl) (fun _ _ _ h => h) (Or.inl ⟨by rfl, ?_⟩) (by assumption) ?_; rotate_left; (focus (intro wz hSw; (try dsimp only at hSw); go_simp; all_goals (with_reducible rfl))); (try simp only [Act.put, List.getElem_toArray, List.getElem_cons_zero, List.getElem_cons_succ, List.setIfInBounds_toArray, List.set_cons_zero, List.set_cons_succ])); (refine wpAnyH_take (i := 3) (v := ?_) rfl (by kernel_rfl) (by kernel_rfl) (by kernel_rfl) (fun _ _ _ h => h) (Or.inl ⟨by rfl, ?_⟩) (by assumption) ?_; rotate_left; (focus (intro wz hSw; (try dsimp only at hSw); go_simp; all_goals (with_reducible rfl))); (try simp only [Act.put, List.getElem_toArray, List.getElem_cons_zero, List.getElem_cons_succ, List.setIfInBounds_toArray, List.set_cons_zero, List.set_cons_succ])); (refine wpAnyH_take (i := 5) (v := ?_) rfl (by kernel_rfl) (by kernel_rfl) (by kernel_rfl) (fun _ _ _ h => h) (Or.inl ⟨by rfl, ?_⟩) (by assumption) ?_; rotate_left; (focus (intro wz hSw; (try dsimp only at hSw); go_simp; all_goals (with_reducible rfl))); (try simp only [Act.put, List.getElem_toArray, List.getElem_cons_zero, List.getElem_cons_succ, List.setIfInBounds_toArray, List.set_cons_zero, List.set_cons_succ])); (refine wpAnyH_take (i := 6) (v := ?_) rfl (by kernel_rfl) (by kernel_rfl) (by kernel_rfl) (fun _ _ _ h => h) (Or.inl ⟨by rfl, ?_⟩) (by assumption) ?_; rotate_left; (focus (intro wz hSw; (try dsimp only at hSw); go_simp; all_goals (with_reducible rfl))); (try simp only [Act.put, List.getElem_toArray, List.getElem_cons_zero, List.getElem_cons_succ, List.setIfInBounds_toArray, List.set_cons_zero, List.set_cons_succ])); (refine wpAnyH_take (i := 7) (v := ?_) rfl (by kernel_rfl) (by kernel_rfl) (by kernel_rfl) (fun _ _ _ h => h) (Or.inl ⟨by rfl, ?_⟩) (by assumption) ?_; rotate_left; (focus (intro wz hSw; (try dsimp only at hSw); go_simp; all_goals (with_reducible rfl))); (try simp only [Act.put, List.getElem_toArray, List.getElem_cons_zero, List.getElem_cons_succ, List.setIfInBounds_toArray, List.set_cons_zero, List.set_cons_succ])); (refine wpAnyH_take (i := 8) (v := ?_) rfl (by kernel_rfl) (by kernel_rfl) (by kernel_rfl) (fun _ _ _ h => h) (Or.inl ⟨by rfl, ?_⟩) (by assumption) ?_; rotate_left; (focus (intro wz hSw; (try dsimp only at hSw); go_simp; all_goals (with_reducible rfl))); (try simp only [Act.put, List.getElem_toArray, List.getElem_cons_zero, List.getElem_cons_succ, List.setIfInBounds_toArray, List.set_cons_zero, List.set_cons_succ])); (refine wpAnyH_take (i := 9) (v := ?_) rfl (by kernel_rfl) (by kernel_rfl) (by kernel_rfl) (fun _ _ _ h => h) (Or.inl ⟨by rfl, ?_⟩) (by assumption) ?_; rotate_left; (focus (intro wz hSw; (try dsimp only at hSw); go_simp; all_goals (with_reducible rfl))); (try simp only [Act.put, List.getElem_toArray, List.getElem_cons_zero, List.getElem_cons_succ, List.setIfInBounds_toArray, List.set_cons_zero, List.set_cons_succ])); (refine wpAnyH_take (i := 10) (v := ?_) rfl (by kernel_rfl) (by kernel_rfl) (by kernel_rfl) (fun _ _ _ h => h) (Or.inl ⟨by rfl, ?_⟩) (by assumption) ?_; rotate_left; (focus (intro wz hSw; (try dsimp only at hSw); go_simp; all_goals (with_reducible rfl))); (try simp only [Act.put, List.getElem_toArray, List.getElem_cons_zero, List.getElem_cons_succ, List.setIfInBounds_toArray, List.set_cons_zero, List.set_cons_succ])); (refine wpAnyH_take (i := 11) (v := ?_) rfl (by kernel_rfl) (by kernel_rfl) (by kernel_rfl) (fun _ _ _ h => h) (Or.inl ⟨by rfl, ?_⟩) (by assumption) ?_; rotate_left; (focus (intro wz hSw; (try dsimp only at hSw); go_simp; all_goals (with_reducible rfl))); (try simp only [Act.put, List.getElem_toArray, List.getElem_cons_zero, List.getElem_cons_succ, List.setIfInBounds_toArray, List.set_cons_zero, List.set_cons_succ])); (refine wpAnyH_take (i := 12) (v := ?_) rfl (by kernel_rfl) (by kernel_rfl) (by kernel_rfl) (fun _ _ _ h => h) (Or.inl ⟨by rfl, ?_⟩) (by assumption) ?_; rotate_left; (focus (intro wz hSw; (try dsimp only at hSw); go_simp; all_goals (with_reducible rfl))); (try simp only [Act.put, List.getElem_toArray, List.getElem_cons_zero, List.getElem_cons_succ, List.setIfInBounds_toArray, List.set_cons_zero, List.set_cons_succ])); (refine wpAnyH_take (i := 13) (v := ?_) rfl (by kernel_rfl) (by kernel_rfl) (by kernel_rfl) (fun _ _ _ h => h) (Or.inl ⟨by rfl, ?_⟩) (by assumption) ?_; rotate_left; (focus (intro wz hSw; (try dsimp only at hSw); go_simp; all_goals (with_reducible rfl))); (try simp only [Act.put, List.getElem_toArray, List.getElem_cons_zero, List.getElem_cons_succ, List.setIfInBounds_toArray, List.set_cons_zero, List.set_cons_succ])); (refine wpAnyH_take (i := 14) (v := ?_) rfl (by kernel_rfl) (by kernel_rfl) (by kernel_rfl) (fun _ _ _ h => h) (Or.inl ⟨by rfl, ?_⟩) (by assumption) ?_; rotate_left; (focus (intro wz hSw; (try dsimp only at hSw); go_simp; all_goals (with_reducible rfl))); (try simp only [Act.put, List.getElem_toArray, List.getElem_cons_zero, List.getElem_cons_succ, List.setIfInBounds_toArray, List.set_cons_zero, List.set_cons_succ])); (refine wpAnyH_take (i := 15) (v := ?_) rfl (by kernel_rfl) (by kernel_rfl) (by kernel_rfl) (fun _ _ _ h => h) (Or.inl ⟨by rfl, ?_⟩) (by assumption) ?_; rotate_left; (focus (intro wz hSw; (try dsimp only at hSw); go_simp; all_goals (with_reducible rfl))); (try simp only [Act.put, List.getElem_toArray, List.getElem_cons_zero, List.getElem_cons_succ, List.setIfInBounds_toArray, List.set_cons_zero, List.set_cons_succ])); (refine wpAnyH_take (i := 16) (v := ?_) rfl (by kernel_rfl) (by kernel_rfl) (by kernel_rfl) (fun _ _ _ h => h) (Or.inl ⟨by rfl, ?_⟩) (by assumption) ?_; rotate_left; (focus (intro wz hSw; (try dsimp only at hSw); go_simp; all_goals (with_reducible rfl))); (try simp only [Act.put, List.getElem_toArray, List.getElem_cons_zero, List.getElem_cons_succ, List.setIfInBounds_toArray, List.set_cons_zero, List.set_cons_succ])); (refine wpAnyH_take (i := 17) (v := ?_) rfl (by kernel_rfl) (by kernel_rfl) (by kernel_rfl) (fun _ _ _ h => h) (Or.inl ⟨by rfl, ?_⟩) (by assumption) ?_; rotate_left; (focus (intro wz hSw; (try dsimp only at hSw); go_simp; all_goals (with_reducible rfl))); (try simp only [Act.put, List.getElem_toArray, List.getElem_cons_zero, List.getElem_cons_succ, List.setIfInBounds_toArray, List.set_cons_zero, List.set_cons_succ])); (refine wpAnyH_take (i := 18) (v := ?_) rfl (by kernel_rfl) (by kernel_rfl) (by kernel_rfl) (fun _ _ _ h => h) (Or.inl ⟨by rfl, ?_⟩) (by assumption) ?_; rotate_left; (focus (intro wz hSw; (try dsimp only at hSw); go_simp; all_goals (with_reducible rfl))); (try simp only [Act.put, List.getElem_toArray, List.getElem_cons_zero, List.getElem_cons_succ, List.setIfInBounds_toArray, List.set_cons_zero, List.set_cons_succ]))
  refine wpAnyH_ready (rs := [4, 19]) (by kernel_rfl) (by simp) ?_
  refine AllReadyH.cons rfl (fun K hK => ?_) ?_
  · go_simp
    refine hK.out _ _ ?_ (fun hHeld => ?_)
    · (try dsimp only); assumption
    clear hK K
    (try simp only [Act.put, List.getElem_toArray, List.getElem_cons_zero, List.getElem_cons_succ, List.setIfInBounds_toArray, List.set_cons_zero, List.set_cons_succ])
    refine wpAnyH_ready (rs := [19]) (by kernel_rfl) (by simp) ?_
    refine AllReadyH.cons rfl (fun K hK => ?_) AllReadyH.nil
    go_simp
    refine hK.out _ _ ?_ (fun hHeld => ?_)
    · (try dsimp only); go_keep
    clear hK K
    (try simp only [Act.put, List.getElem_toArray, List.getElem_cons_zero, List.getElem_cons_succ, List.setIfInBounds_toArray, List.set_cons_zero, List.set_cons_succ])
    refine wpAnyH_ready (rs := [20]) (by kernel_rfl) (by simp) ?_
    refine AllReadyH.cons rfl (fun K hK => ?_) AllReadyH.nil
    refine step_append_own rfl (.tmp 46) (.tmp 61) 61 rfl 0 63 i0 (.agg #[.int .i64 0, .int .i64 0, .int .i64 0]) 3 24 Try.underlying61 hi hz0 hz1 hz2 rfl (by decide) (.slice (some ⟨gk, 0, none⟩) r.length cap) r.length (stkCells r.reverse) rfl (hown1.out _ (ka (kdr (kr _)) _)) ⟨W4.heap.size, 0, none⟩ 3 3 [.int .i64 (p1 : Nat), .int .i64 (M : Nat), .int .i64 (p3 : Nat), .int .i64 (M : Nat), .int .i64 0, .int .i64 (p3 : Nat), .int .i64 (p1 : Nat), .int .i64 0, .int .i64 (M : Nat)] rfl rfl (new_cells _ _ _) (by simp [Value.oneCell']) hml (by omega) (Nat.zero_le _) ?_; intro v6 w6 own6 gr6 pl6; obtain ⟨gk6, cap6, rfl⟩ := owns_slice own6 (by omega); obtain ⟨b6, b7⟩ := hblk.out _ _ (ka (kdr (kr _)) _) gr6; have t5 : w6.cell? ⟨g, 5, none⟩ = some (.slice (some ⟨gk, 0, none⟩) r.length cap) := b6.at_ 5 rfl; have u5 := b6.free 5; have l6 := b6.lt; have t0 : w6.cell? ⟨w.heap.size, 0, none⟩ = some (.int .i64 (p1 : Nat)) := b7.at_ 0 rfl; have t2 : w6.cell? ⟨w.heap.size, 2, none⟩ = some (.int .i64 (p3 : Nat)) := b7.at_ 2 rfl
    refine hK.out _ _ ?_ (fun hHeld => ?_)
    · (try dsimp only); exact ⟨t0, t2⟩
    clear hK K
    (try simp only [Act.put, List.getElem_toArray, List.getElem_cons_zero, List.getElem_cons_succ, List.setIfInBounds_toArray, List.set_cons_zero, List.set_cons_succ])
    (refine wpAnyH_take (i := 21) (v := ?_) rfl (by kernel_rfl) (by kernel_rfl) (by kernel_rfl) (fun _ _ _ h => h) (Or.inl ⟨by rfl, ?_⟩) (by assumption) ?_; rotate_left; (focus (intro wz hSw; (try dsimp only at hSw); go_simp; all_goals (with_reducible rfl))); (try simp only [Act.put, List.getElem_toArray, List.getElem_cons_zero, List.getElem_cons_succ, List.setIfInBounds_toArray, List.set_cons_zero, List.set_cons_succ])); (refine wpAnyH_take (i := 22) (v := ?_) rfl (by kernel_rfl) (by kernel_rfl) (by kernel_rfl) (fun _ _ _ h => h) (Or.inl ⟨by rfl, ?_⟩) (by assumption) ?_; rotate_left; (focus (intro wz hSw; (try dsimp only at hSw); go_simp; all_goals (with_reducible rfl))); (try simp only [Act.put, List.getElem_toArray, List.getElem_cons_zero, List.getElem_cons_succ, List.setIfInBounds_toArray, List.set_cons_zero, List.set_cons_succ]))
    refine wpAnyH_ready (rs := [23]) (by kernel_rfl) (by simp) ?_
    refine AllReadyH.cons rfl (fun K hK => ?_) AllReadyH.nil
    go_simp
    refine hK.out _ _ ?_ (fun hHeld => ?_)
    · exact ⟨(World.cell?_setCell_far _ _ _ _ hnr2).trans t0, (World.cell?_setCell_far _ _ _ _ hnr2).trans t2⟩
    clear hK K
    (try simp only [Act.put, List.getElem_toArray, List.getElem_cons_zero, List.getElem_cons_succ, List.setIfInBounds_toArray, List.set_cons_zero, List.set_cons_succ])
    refine wpAnyH_done (by kernel_rfl) ?_ _
    go_wp2_with fail
    go_end0
    refine ⟨rfl, ?_⟩
    with_reducible refine hfin.out _ _ _ ?_ gr6 own6 pl6
    exact ka (kdr (kr _)) _
  · refine AllReadyH.cons rfl (fun K hK => ?_) AllReadyH.nil
    go_simp
    refine hK.out _ _ ?_ (fun hHeld => ?_)
    · (try dsimp only); go_keep
    clear hK K
    (try simp only [Act.put, List.getElem_toArray, List.getElem_cons_zero, List.getElem_cons_succ, List.setIfInBounds_toArray, List.set_cons_zero, List.set_cons_succ])
    refine wpAnyH_ready (rs := [4]) (by kernel_rfl) (by simp) ?_
    refine AllReadyH.cons rfl (fun K hK => ?_) AllReadyH.nil
    go_simp
    refine hK.out _ _ ?_ (fun hHeld => ?_)
    · (try dsimp only); assumption
    clear hK K
    (try simp only [Act.put, List.getElem_toArray, List.getElem_cons_zero, List.getElem_cons_succ, List.setIfInBounds_toArray, List.set_cons_zero, List.set_cons_succ])
    refine wpAnyH_ready (rs := [20]) (by kernel_rfl) (by simp) ?_
    refine AllReadyH.cons rfl (fun K hK => ?_) AllReadyH.nil
    refine step_append_own rfl (.tmp 46) (.tmp 61) 61 rfl 0 63 i0 (.agg #[.int .i64 0, .int .i64 0, .int .i64 0]) 3 24 Try.underlying61 hi hz0 hz1 hz2 rfl (by decide) (.slice (some ⟨gk, 0, none⟩) r.length cap) r.length (stkCells r.reverse) rfl (hown1.out _ (ka (kdr (kr _)) _)) ⟨W4.heap.size, 0, none⟩ 3 3 [.int .i64 (p1 : Nat), .int .i64 (M : Nat), .int .i64 (p3 : Nat), .int .i64 (M : Nat), .int .i64 0, .int .i64 (p3 : Nat), .int .i64 (p1 : Nat), .int .i64 0, .int .i64 (M : Nat)] rfl rfl (new_cells _ _ _) (by simp [Value.oneCell']) hml (by omega) (Nat.zero_le _) ?_; intro v6 w6 own6 gr6 pl6; obtain ⟨gk6, cap6, rfl⟩ := owns_slice own6 (by omega); obtain ⟨b6, b7⟩ := hblk.out _ _ (ka (kdr (kr _)) _) gr6; have t5 : w6.cell? ⟨g, 5, none⟩ = some (.slice (some ⟨gk, 0, none⟩) r.length cap) := b6.at_ 5 rfl; have u5 := b6.free 5; have l6 := b6.lt; have t0 : w6.cell? ⟨w.heap.size, 0, none⟩ = some (.int .i64 (p1 : Nat)) := b7.at_ 0 rfl; have t2 : w6.cell? ⟨w.heap.size, 2, none⟩ = some (.int .i64 (p3 : Nat)) := b7.at_ 2 rfl
    refine hK.out _ _ ?_ (fun hHeld => ?_)
    · (try dsimp only); exact ⟨t0, t2⟩
    clear hK K
    (try simp only [Act.put, List.getElem_toArray, List.getElem_cons_zero, List.getElem_cons_succ, List.setIfInBounds_toArray, List.set_cons_zero, List.set_cons_succ])
    (refine wpAnyH_take (i := 21) (v := ?_) rfl (by kernel_rfl) (by kernel_rfl) (by kernel_rfl) (fun _ _ _ h => h) (Or.inl ⟨by rfl, ?_⟩) (by assumption) ?_; rotate_left; (focus (intro wz hSw; (try dsimp only at hSw); go_simp; all_goals (with_reducible rfl))); (try simp only [Act.put, List.getElem_toArray, List.getElem_cons_zero, List.getElem_cons_succ, List.setIfInBounds_toArray, List.set_cons_zero, List.set_cons_succ])); (refine wpAnyH_take (i := 22) (v := ?_) rfl (by kernel_rfl) (by kernel_rfl) (by kernel_rfl) (fun _ _ _ h => h) (Or.inl ⟨by rfl, ?_⟩) (by assumption) ?_; rotate_left; (focus (intro wz hSw; (try dsimp only at hSw); go_simp; all_goals (with_reducible rfl))); (try simp only [Act.put, List.getElem_toArray, List.getElem_cons_zero, List.getElem_cons_succ, List.setIfInBounds_toArray, List.set_cons_zero, List.set_cons_succ]))
    refine wpAnyH_ready (rs := [23]) (by kernel_rfl) (by simp) ?_
    refine AllReadyH.cons rfl (fun K hK => ?_) AllReadyH.nil
    go_simp
    refine hK.out _ _ ?_ (fun hHeld => ?_)
    · exact ⟨(World.cell?_setCell_far _ _ _ _ hnr2).trans t0, (World.cell?_setCell_far _ _ _ _ hnr2).trans t2⟩
    clear hK K
    (try simp only [Act.put, List.getElem_toArray, List.getElem_cons_zero, List.getElem_cons_succ, List.setIfInBounds_toArray, List.set_cons_zero, List.set_cons_succ])
    refine wpAnyH_done (by kernel_rfl) ?_ _
    go_wp2_with fail
    go_end0
    refine ⟨rfl, ?_⟩
    with_reducible refine hfin.out _ _ _ ?_ gr6 own6 pl6
    exact ka (kdr (kr _)) _

theorem s_begin (h : SIn w F g s x) {n m : Nat} (ho : Ok n m x) (hn2 : n ≤ 900000) (hsl : x.stk.length ≤ 1099511627776) (hs : x.stk ≠ []) :
    Calls Try.prog 57 #[.pointer (some ⟨g, 0, none⟩)] w fun e w' => e = .returned (.tuple #[]) ∧ SPost F g s w (beginS x) w' := by
  cases hs2 : x.stk with
  | nil => exact absurd hs2 hs
  | cons p r =>
    by_cases hp : p.2.2 - p.1 < 2
    · exact s_begin_one h ho hn2 (by omega) hs2 hp
    · exact s_begin_two h ho hn2 hsl hs2 hp

end Go.Proofs.Ytbakfaihnecmoaa

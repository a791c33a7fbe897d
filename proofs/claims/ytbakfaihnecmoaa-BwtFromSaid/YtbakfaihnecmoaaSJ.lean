/- The walk of step. -/
import Derived.Test.YtbakfaihnecmoaaSI
namespace Go.Proofs.Ytbakfaihnecmoaa
set_option linter.unusedVariables false
set_option linter.unusedSimpArgs false
open Go.RowKit Sp
variable {w : World} {F : Nat → Prop} {g : Nat} {s : ByteArray} {x : SS}

theorem join_steps (x : SS) : (joinS x).steps = x.steps := by
  unfold joinS
  split
  · rfl
  · split <;> rfl
theorem join_len (x : SS) : (joinS x).stk.length ≤ x.stk.length := by
  unfold joinS
  split
  · exact Nat.le_refl _
  · rename_i p r hs
    split
    · rw [hs]; simp
    · exact Nat.le_refl _
theorem act_steps (s : ByteArray) (y : SS) : (actS s y).steps = y.steps := by
  have hp : ∀ y : SS, (passS y).steps = y.steps := fun y => by unfold passS; split <;> rfl
  have he : ∀ (y : SS) (e : Bool), (endS y e).steps = y.steps := fun y e => by unfold endS; cases e <;> rfl
  unfold actS
  split
  · split
    · rfl
    · unfold putS
      split <;> exact he _ _
  · split
    · unfold rankS
      split
      · exact hp _
      · rfl
    · unfold beginS
      split
      · rfl
      · split <;> rfl
theorem spost_in {w w' : World} {F : Nat → Prop} {x' : SS} {g : Nat} {s : ByteArray} (h : SPost F g s w x' w') : SIn w' (fun b => F b ∨ w.heap.size ≤ b) g s x' := h.1

theorem s_step_lay (h : SIn w F g s x) {n m : Nat} (hn : n = s.size) (ho : Ok n m x) (hn2 : n ≤ 900000) (hd : x.done = false) (hsl : x.stk.length ≤ 1099511627776) (hsp : x.steps ≤ 1099511627776) (y : SS) (hy : joinS x = y) (h0 : 0 < y.hi) (h1 : y.laid < y.mid - y.lo) :
    Calls Try.prog 47 #[.pointer (some ⟨g, 0, none⟩)] w fun e w' => e = .returned (.tuple #[]) ∧ SPost F g s w (stepS s x) w' := by
  have hJ := Lib.hid (s_join h ho hn2 (by omega))
  have hoy := ho.join
  have hsy := join_steps x
  have hly := join_len x
  have hdy := join_done x
  rw [hy] at hoy hsy hly hdy
  have hact : actS s y = layS y := by unfold actS; rw [if_pos h0, if_pos h1]
  have hX : Hid (stepS s x = { layS y with steps := x.steps + 1 }) := by unfold Hid stepS; rw [hy, hact]
  have hzs : Hid ((layS y).steps = x.steps) := by unfold Hid; rw [← hact, act_steps, hsy]
  have HOL := Lib.hid hoy
  have HDY : Hid (y.done = false) := by unfold Hid; rw [hdy]; exact hd
  have HYS : Hid (y.steps = x.steps) := hsy
  have HY := Lib.hid hy
  have HN := Lib.hid hn
  clear hoy hdy hact hd hsy hy hn h ho
  have d1 : decide (0 < (y.hi : Int)) = true := by simp; omega
  have d1n : decide (0 < y.hi) = true := by simp; omega
  have d2 : decide ((y.laid : Int) < (y.mid : Int) - (y.lo : Int)) = true := by simp; omega
  have hmo := HOL.out.merge.resolve_left (by omega)
  have b1 := hmo.lm
  have b2 := hmo.mh
  have b3 := hmo.hn
  go_enter Try.func47, Try.ntmps47
  go_wp2_with fail
  refine hJ.out.mono ?_
  rintro e w1 ⟨rfl, hp1⟩
  rw [HY.out] at hp1
  have hin1 := hp1.1
  obtain ⟨go, gc, ga, sv, h1, f1, f2, f3, f4, f5⟩ := hin1
  have c6 : w1.cell? ⟨g, 6, none⟩ = some (.int .i64 (y.lo : Nat)) := h1.main.at_ 6 rfl
  have c7 : w1.cell? ⟨g, 7, none⟩ = some (.int .i64 (y.mid : Nat)) := h1.main.at_ 7 rfl
  have c8 : w1.cell? ⟨g, 8, none⟩ = some (.int .i64 (y.hi : Nat)) := h1.main.at_ 8 rfl
  have c9 : w1.cell? ⟨g, 9, none⟩ = some (.int .i64 (y.laid : Nat)) := h1.main.at_ 9 rfl
  have c5 : w1.cell? ⟨g, 5, none⟩ = some sv := h1.main.at_ 5 rfl

  go_wp2_with fail
  go_quiet (fail)
  have hin2 : SIn (w1.drewN nq) (fun b => F b ∨ w.heap.size ≤ b) g s y := hp1.1.below (kd (kr _) nq)
  have hp2 : SPost F g s w y (w1.drewN nq) := ⟨hin2, hp1.2.drewN nq⟩
  clear h1 c6 c7 c9
  go_wp2_with fail
  refine (s_lay hin2 HN.out HOL.out hn2 h0 (by omega)).mono ?_
  rintro e w3 ⟨rfl, hp3⟩
  have hp4 := hp2.then hp3
  obtain ⟨⟨go, gc, ga, sv', h4, f1, f2, f3, f4, f5⟩, k4⟩ := hp4
  have c14 := h4.main.at_ (v := .int .i64 ((layS y).steps : Nat)) 14 rfl
  rw [hzs.out] at c14
  have k14 := h4.main.free 14
  have hfin : Hid (SPost F g s w (stepS s x) (w3.setCell ⟨g, 14, none⟩ (.int .i64 ((x.steps : Int) + 1)))) := by
    unfold Hid
    rw [hX.out]
    exact ⟨⟨go, gc, ga, sv', h4.put 14 _ { layS y with steps := x.steps + 1 } rfl rfl rfl rfl rfl, f1, f2, f3, f4, f5⟩, by
      refine (k4.trans (G := fun b => F b ∨ w.heap.size ≤ b) ((Keeps.refl _ w3).set (.inr f1) _) ?_)
      intro i hi h'
      rcases h' with h' | h'
      · exact h'
      · omega⟩
  clear h4 hp2 hp1 hp3 hin2
  go_wp2_with fail
  go_end0
  exact ⟨rfl, hfin.out⟩

theorem s_step_put (h : SIn w F g s x) {n m : Nat} (hn : n = s.size) (ho : Ok n m x) (hn2 : n ≤ 900000) (hd : x.done = false) (hsl : x.stk.length ≤ 1099511627776) (hsp : x.steps ≤ 1099511627776) (y : SS) (hy : joinS x = y) (h0 : 0 < y.hi) (h1 : ¬ y.laid < y.mid - y.lo) :
    Calls Try.prog 47 #[.pointer (some ⟨g, 0, none⟩)] w fun e w' => e = .returned (.tuple #[]) ∧ SPost F g s w (stepS s x) w' := by
  have hJ := Lib.hid (s_join h ho hn2 (by omega))
  have hoy := ho.join
  have hsy := join_steps x
  have hly := join_len x
  have hdy := join_done x
  rw [hy] at hoy hsy hly hdy
  have hact : actS s y = putS s y := by unfold actS; rw [if_pos h0, if_neg h1]
  have hX : Hid (stepS s x = { putS s y with steps := x.steps + 1 }) := by unfold Hid stepS; rw [hy, hact]
  have hzs : Hid ((putS s y).steps = x.steps) := by unfold Hid; rw [← hact, act_steps, hsy]
  have HOL := Lib.hid hoy
  have HDY : Hid (y.done = false) := by unfold Hid; rw [hdy]; exact hd
  have HYS : Hid (y.steps = x.steps) := hsy
  have HY := Lib.hid hy
  have HN := Lib.hid hn
  clear hoy hdy hact hd hsy hy hn h ho
  have d1 : decide (0 < (y.hi : Int)) = true := by simp; omega
  have d1n : decide (0 < y.hi) = true := by simp; omega
  have hmo := HOL.out.merge.resolve_left (by omega)
  have b1 := hmo.lm
  have b2 := hmo.mh
  have b3 := hmo.hn
  have d2 : decide ((y.laid : Int) < (y.mid : Int) - (y.lo : Int)) = false := by simp; omega
  go_enter Try.func47, Try.ntmps47
  go_wp2_with fail
  refine hJ.out.mono ?_
  rintro e w1 ⟨rfl, hp1⟩
  rw [HY.out] at hp1
  have hin1 := hp1.1
  obtain ⟨go, gc, ga, sv, h1, f1, f2, f3, f4, f5⟩ := hin1
  have c6 : w1.cell? ⟨g, 6, none⟩ = some (.int .i64 (y.lo : Nat)) := h1.main.at_ 6 rfl
  have c7 : w1.cell? ⟨g, 7, none⟩ = some (.int .i64 (y.mid : Nat)) := h1.main.at_ 7 rfl
  have c8 : w1.cell? ⟨g, 8, none⟩ = some (.int .i64 (y.hi : Nat)) := h1.main.at_ 8 rfl
  have c9 : w1.cell? ⟨g, 9, none⟩ = some (.int .i64 (y.laid : Nat)) := h1.main.at_ 9 rfl
  have c5 : w1.cell? ⟨g, 5, none⟩ = some sv := h1.main.at_ 5 rfl

  go_wp2_with fail
  go_quiet (fail)
  have hin2 : SIn (w1.drewN nq) (fun b => F b ∨ w.heap.size ≤ b) g s y := hp1.1.below (kd (kr _) nq)
  have hp2 : SPost F g s w y (w1.drewN nq) := ⟨hin2, hp1.2.drewN nq⟩
  clear h1 c6 c7 c9
  go_wp2_with fail
  refine (s_put hin2 HN.out HOL.out hn2 h0 (by omega)).mono ?_
  rintro e w3 ⟨rfl, hp3⟩
  have hp4 := hp2.then hp3
  obtain ⟨⟨go, gc, ga, sv', h4, f1, f2, f3, f4, f5⟩, k4⟩ := hp4
  have c14 := h4.main.at_ (v := .int .i64 ((putS s y).steps : Nat)) 14 rfl
  rw [hzs.out] at c14
  have k14 := h4.main.free 14
  have hfin : Hid (SPost F g s w (stepS s x) (w3.setCell ⟨g, 14, none⟩ (.int .i64 ((x.steps : Int) + 1)))) := by
    unfold Hid
    rw [hX.out]
    exact ⟨⟨go, gc, ga, sv', h4.put 14 _ { putS s y with steps := x.steps + 1 } rfl rfl rfl rfl rfl, f1, f2, f3, f4, f5⟩, by
      refine (k4.trans (G := fun b => F b ∨ w.heap.size ≤ b) ((Keeps.refl _ w3).set (.inr f1) _) ?_)
      intro i hi h'
      rcases h' with h' | h'
      · exact h'
      · omega⟩
  clear h4 hp2 hp1 hp3 hin2
  go_wp2_with fail
  go_end0
  exact ⟨rfl, hfin.out⟩

theorem s_step_begin (h : SIn w F g s x) {n m : Nat} (hn : n = s.size) (ho : Ok n m x) (hn2 : n ≤ 900000) (hd : x.done = false) (hsl : x.stk.length ≤ 1099511627776) (hsp : x.steps ≤ 1099511627776) (y : SS) (hy : joinS x = y) (h0 : y.hi = 0) (p : Nat × Nat × Nat) (r : List (Nat × Nat × Nat)) (hs : y.stk = p :: r) :
    Calls Try.prog 47 #[.pointer (some ⟨g, 0, none⟩)] w fun e w' => e = .returned (.tuple #[]) ∧ SPost F g s w (stepS s x) w' := by
  have hJ := Lib.hid (s_join h ho hn2 (by omega))
  have hoy := ho.join
  have hsy := join_steps x
  have hly := join_len x
  have hdy := join_done x
  rw [hy] at hoy hsy hly hdy
  have hact : actS s y = beginS y := by unfold actS; rw [if_neg (by omega), hs]
  have hX : Hid (stepS s x = { beginS y with steps := x.steps + 1 }) := by unfold Hid stepS; rw [hy, hact]
  have hzs : Hid ((beginS y).steps = x.steps) := by unfold Hid; rw [← hact, act_steps, hsy]
  have HOL := Lib.hid hoy
  have HDY : Hid (y.done = false) := by unfold Hid; rw [hdy]; exact hd
  have HYS : Hid (y.steps = x.steps) := hsy
  have HY := Lib.hid hy
  have HN := Lib.hid hn
  clear hoy hdy hact hd hsy hy hn h ho
  have d1 : decide (0 < (y.hi : Int)) = false := by simp; omega
  have d1n : decide (0 < y.hi) = false := by simp; omega
  have HS := Lib.hid hs
  rw [hs] at hly
  simp only [List.length_cons] at hly
  have d3 : decide (0 < (r.length : Int) + 1) = true := decide_eq_true (by omega)
  have HH := Lib.hid h0
  clear hs h0
  go_enter Try.func47, Try.ntmps47
  go_wp2_with fail
  refine hJ.out.mono ?_
  rintro e w1 ⟨rfl, hp1⟩
  rw [HY.out] at hp1
  have hin1 := hp1.1
  obtain ⟨go, gc, ga, sv, h1, f1, f2, f3, f4, f5⟩ := hin1
  have c6 : w1.cell? ⟨g, 6, none⟩ = some (.int .i64 (y.lo : Nat)) := h1.main.at_ 6 rfl
  have c7 : w1.cell? ⟨g, 7, none⟩ = some (.int .i64 (y.mid : Nat)) := h1.main.at_ 7 rfl
  have c8 : w1.cell? ⟨g, 8, none⟩ = some (.int .i64 (y.hi : Nat)) := h1.main.at_ 8 rfl
  have c9 : w1.cell? ⟨g, 9, none⟩ = some (.int .i64 (y.laid : Nat)) := h1.main.at_ 9 rfl
  have c5 : w1.cell? ⟨g, 5, none⟩ = some sv := h1.main.at_ 5 rfl
  obtain ⟨gk, cap, rfl, k1, k2, k3, k4, k5, k6, k7, k8⟩ := stk_top h1 HS.out
  clear k3 k4 k5 k6 k7 k8
  go_wp2_with fail
  go_quiet (fail)
  have hin2 : SIn (w1.drewN nq) (fun b => F b ∨ w.heap.size ≤ b) g s y := hp1.1.below (kd (kr _) nq)
  have hp2 : SPost F g s w y (w1.drewN nq) := ⟨hin2, hp1.2.drewN nq⟩
  clear h1 c6 c7 c9
  go_wp2_with fail
  refine (s_begin hin2 HOL.out hn2 (by rw [HS.out]; simp only [List.length_cons]; omega) (by rw [HS.out]; simp)).mono ?_
  rintro e w3 ⟨rfl, hp3⟩
  have hp4 := hp2.then hp3
  obtain ⟨⟨go, gc, ga, sv', h4, f1, f2, f3, f4, f5⟩, k4⟩ := hp4
  have c14 := h4.main.at_ (v := .int .i64 ((beginS y).steps : Nat)) 14 rfl
  rw [hzs.out] at c14
  have k14 := h4.main.free 14
  have hfin : Hid (SPost F g s w (stepS s x) (w3.setCell ⟨g, 14, none⟩ (.int .i64 ((x.steps : Int) + 1)))) := by
    unfold Hid
    rw [hX.out]
    exact ⟨⟨go, gc, ga, sv', h4.put 14 _ { beginS y with steps := x.steps + 1 } rfl rfl rfl rfl rfl, f1, f2, f3, f4, f5⟩, by
      refine (k4.trans (G := fun b => F b ∨ w.heap.size ≤ b) ((Keeps.refl _ w3).set (.inr f1) _) ?_)
      intro i hi h'
      rcases h' with h' | h'
      · exact h'
      · omega⟩
  clear h4 hp2 hp1 hp3 hin2
  go_wp2_with fail
  go_end0
  exact ⟨rfl, hfin.out⟩

theorem s_step_rank (h : SIn w F g s x) {n m : Nat} (hn : n = s.size) (ho : Ok n m x) (hn2 : n ≤ 900000) (hd : x.done = false) (hsl : x.stk.length ≤ 1099511627776) (hsp : x.steps ≤ 1099511627776) (y : SS) (hy : joinS x = y) (h0 : y.hi = 0) (hs : y.stk = []) :
    Calls Try.prog 47 #[.pointer (some ⟨g, 0, none⟩)] w fun e w' => e = .returned (.tuple #[]) ∧ SPost F g s w (stepS s x) w' := by
  have hJ := Lib.hid (s_join h ho hn2 (by omega))
  have hoy := ho.join
  have hsy := join_steps x
  have hly := join_len x
  have hdy := join_done x
  rw [hy] at hoy hsy hly hdy
  have hact : actS s y = rankS s y := by unfold actS; rw [if_neg (by omega), hs]
  have hX : Hid (stepS s x = { rankS s y with steps := x.steps + 1 }) := by unfold Hid stepS; rw [hy, hact]
  have hzs : Hid ((rankS s y).steps = x.steps) := by unfold Hid; rw [← hact, act_steps, hsy]
  have HOL := Lib.hid hoy
  have HDY : Hid (y.done = false) := by unfold Hid; rw [hdy]; exact hd
  have HYS : Hid (y.steps = x.steps) := hsy
  have HY := Lib.hid hy
  have HN := Lib.hid hn
  clear hoy hdy hact hd hsy hy hn h ho
  have d1 : decide (0 < (y.hi : Int)) = false := by simp; omega
  have d1n : decide (0 < y.hi) = false := by simp; omega
  have HS := Lib.hid hs
  have HH := Lib.hid h0
  clear hs h0
  go_enter Try.func47, Try.ntmps47
  go_wp2_with fail
  refine hJ.out.mono ?_
  rintro e w1 ⟨rfl, hp1⟩
  rw [HY.out] at hp1
  have hin1 := hp1.1
  obtain ⟨go, gc, ga, sv, h1, f1, f2, f3, f4, f5⟩ := hin1
  have c6 : w1.cell? ⟨g, 6, none⟩ = some (.int .i64 (y.lo : Nat)) := h1.main.at_ 6 rfl
  have c7 : w1.cell? ⟨g, 7, none⟩ = some (.int .i64 (y.mid : Nat)) := h1.main.at_ 7 rfl
  have c8 : w1.cell? ⟨g, 8, none⟩ = some (.int .i64 (y.hi : Nat)) := h1.main.at_ 8 rfl
  have c9 : w1.cell? ⟨g, 9, none⟩ = some (.int .i64 (y.laid : Nat)) := h1.main.at_ 9 rfl
  have c5 : w1.cell? ⟨g, 5, none⟩ = some sv := h1.main.at_ 5 rfl
  obtain ⟨ak, cap, rfl⟩ := stk_nil h1 HS.out
  go_wp2_with fail
  go_quiet (fail)
  have hin2 : SIn (w1.drewN nq) (fun b => F b ∨ w.heap.size ≤ b) g s y := hp1.1.below (kd (kr _) nq)
  have hp2 : SPost F g s w y (w1.drewN nq) := ⟨hin2, hp1.2.drewN nq⟩
  clear h1 c6 c7 c9
  go_wp2_with fail
  refine (s_rank hin2 HN.out HOL.out hn2 HS.out HH.out HDY.out).mono ?_
  rintro e w3 ⟨rfl, hp3⟩
  have hp4 := hp2.then hp3
  obtain ⟨⟨go, gc, ga, sv', h4, f1, f2, f3, f4, f5⟩, k4⟩ := hp4
  have c14 := h4.main.at_ (v := .int .i64 ((rankS s y).steps : Nat)) 14 rfl
  rw [hzs.out] at c14
  have k14 := h4.main.free 14
  have hfin : Hid (SPost F g s w (stepS s x) (w3.setCell ⟨g, 14, none⟩ (.int .i64 ((x.steps : Int) + 1)))) := by
    unfold Hid
    rw [hX.out]
    exact ⟨⟨go, gc, ga, sv', h4.put 14 _ { rankS s y with steps := x.steps + 1 } rfl rfl rfl rfl rfl, f1, f2, f3, f4, f5⟩, by
      refine (k4.trans (G := fun b => F b ∨ w.heap.size ≤ b) ((Keeps.refl _ w3).set (.inr f1) _) ?_)
      intro i hi h'
      rcases h' with h' | h'
      · exact h'
      · omega⟩
  clear h4 hp2 hp1 hp3 hin2
  go_wp2_with fail
  go_end0
  exact ⟨rfl, hfin.out⟩

theorem s_step (h : SIn w F g s x) {n m : Nat} (hn : n = s.size) (ho : Ok n m x) (hn2 : n ≤ 900000) (hd : x.done = false) (hsl : x.stk.length ≤ 1099511627776) (hsp : x.steps ≤ 1099511627776) :
    Calls Try.prog 47 #[.pointer (some ⟨g, 0, none⟩)] w fun e w' => e = .returned (.tuple #[]) ∧ SPost F g s w (stepS s x) w' := by
  by_cases h0 : 0 < (joinS x).hi
  · by_cases h1 : (joinS x).laid < (joinS x).mid - (joinS x).lo
    · exact s_step_lay h hn ho hn2 hd hsl hsp _ rfl h0 h1
    · exact s_step_put h hn ho hn2 hd hsl hsp _ rfl h0 h1
  · cases hs : (joinS x).stk with
    | nil => exact s_step_rank h hn ho hn2 hd hsl hsp _ rfl (by omega) hs
    | cons p r => exact s_step_begin h hn ho hn2 hd hsl hsp _ rfl (by omega) p r hs

end Go.Proofs.Ytbakfaihnecmoaa


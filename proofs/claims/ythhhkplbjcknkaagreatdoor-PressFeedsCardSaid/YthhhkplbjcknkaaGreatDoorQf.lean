/- Layer 23: statement PressFeeds. -/
import Derived.Test.YthhhkplbjcknkaaGreatDoorQe
import Derived.Test.YthhhkplbjcknkaaGreatDoorEvYab
namespace Go.Proofs.YthhhkplbjcknkaaGreatDoor
set_option linter.unusedVariables false
set_option linter.unusedSimpArgs false
open Go.RowKit Ev
theorem nqB (a b : Bool) : bin2 Tryz.prog .neq 4 (.bool a) (.bool b) = some (.bool (a != b)) := by cases a <;> cases b <;> kernel_rfl
section
variable {lf d n0 n nb : Nat} {h : H} {p b2 l : Nat} {u : Int} {W : Nat} {ss : List (List UInt8)} {a1 : Value}
theorem pfeeds_tail {s : List UInt8} {y0 y1 y2 y4 y7 y24 y36 y37 y38 y39 : Value} (x : PrAt h n nb p (W : Int) s false false (.slice none 0 0) l) (hnb : n0 ≤ nb) (hn : n0 ≤ n) (hg : h.get 0 = some ⟨3, false, gV⟩) (h0 : 0 < n0) : Run (fun _ => False) n0 (kcA_balerlaw23_PressFeeds lf (d + 6) (Ex.exit 0) [(0, y0), (1, y1), (2, y2), (4, y4), (5, .pointer (some ⟨p, 0, none⟩)), (6, .int .i64 0), (7, y7), (24, y24), (36, y36), (37, y37), (38, y38), (39, y39)]) h n fun v _ _ => v = .bool true := by
  rw [kcAd_balerlaw23_PressFeeds]
  refine run_call okd (s_pEnd x) hn (fun b _ h => .inl (by omega)) ?_
  rintro _ h1 n1 hn1 fr ⟨rfl, e1⟩
  have hg1 : h1.get 0 = some ⟨3, false, gV⟩ := by rw [fr _ (by omega) (by omega), hg]
  try simp (disch := first | omega | assumption | exact one_int _ _ | exact one_slice _ _ _ | exact one_ptr _ | exact one_bool _ | exact one_string _) only [RXA, RXB, Nat.reduceAdd, Nat.reduceLT, wrap_id, wrap_succ, wrap_pred, FX1, FX2, FX3, Int.reduceBEq, Int.reduceBNe, Int.reduceLT, Int.reduceLE, Int.reduceEq, Int.reduceNe, Int.reduceAdd, Int.reduceSub, Int.reduceMul, Int.reduceNeg]
  refine run_same (s_pFeed2 e1 _) (by omega) (fun _ _ h => h.elim) ?_
  try simp (disch := first | omega | assumption | exact one_int _ _ | exact one_slice _ _ _ | exact one_ptr _ | exact one_bool _ | exact one_string _) only [RXA, RXB, Nat.reduceAdd, Nat.reduceLT, wrap_id, wrap_succ, wrap_pred, FX1, FX2, FX3, Int.reduceBEq, Int.reduceBNe, Int.reduceLT, Int.reduceLE, Int.reduceEq, Int.reduceNe, Int.reduceAdd, Int.reduceSub, Int.reduceMul, Int.reduceNeg]
  refine run_same (s_pEnd2 e1) (by omega) (fun _ _ h => h.elim) ?_
  try simp (disch := first | omega | assumption | exact one_int _ _ | exact one_slice _ _ _ | exact one_ptr _ | exact one_bool _ | exact one_string _) only [RXA, RXB, Nat.reduceAdd, Nat.reduceLT, wrap_id, wrap_succ, wrap_pred, FX1, FX2, FX3, Int.reduceBEq, Int.reduceBNe, Int.reduceLT, Int.reduceLE, Int.reduceEq, Int.reduceNe, Int.reduceAdd, Int.reduceSub, Int.reduceMul, Int.reduceNeg]
  exact run_letter (by omega) hg1 (by omega)
theorem pfeeds_loop {y0 y1 y4 y24 : Value} (hlf : 1 ≤ lf) (hnb : n0 ≤ nb) (h2b : b2 < nb) (hW : W ≤ 300) (hss : ss.length ≤ 20) (h0 : 0 < n0) : ∀ (m i fu n : Nat) (s : List UInt8) (h : H), i + m = ss.length → m < fu → h.get b2 = some (seB (l : Int) u (W : Int)) → PrAt h n nb p (W : Int) s false false (.slice none 0 0) l → nb ≤ n → s.length ≤ W → h.get 0 = some ⟨3, false, gV⟩ → SRow h n0 a1 ss → 
    Run (fun _ => False) n0 (lpA_balerlaw23_PressFeeds lf (d + 6) fu (kcA_balerlaw23_PressFeeds lf (d + 6)) y0 y1 (.pointer (some ⟨b2, 0, none⟩)) y4 (.pointer (some ⟨p, 0, none⟩)) (.int .i64 0) (.int .i64 s.length) y24 a1 (.int .i64 ss.length) (.int .i64 i)) h n fun v _ _ => v = .bool true := by
  intro m
  induction m with
  | zero =>
    intro i fu n s h hi hf g2 x hn hs hg hr
    obtain ⟨fu, rfl⟩ : ∃ f, fu = f + 1 := ⟨fu - 1, by omega⟩
    rw [succA_balerlaw23_PressFeeds]
    have e0 : ¬ ((i : Int) < (ss.length : Int)) := by omega
    try simp (disch := first | omega | assumption | exact one_int _ _ | exact one_slice _ _ _ | exact one_ptr _ | exact one_bool _ | exact one_string _) only [RXA, RXB, Nat.reduceAdd, Nat.reduceLT, wrap_id, wrap_succ, wrap_pred, FX1, FX2, FX3, Int.reduceBEq, Int.reduceBNe, Int.reduceLT, Int.reduceLE, Int.reduceEq, Int.reduceNe, Int.reduceAdd, Int.reduceSub, Int.reduceMul, Int.reduceNeg, e0]
    exact pfeeds_tail x hnb (by omega) hg h0
  | succ m ih =>
    intro i fu n s h hi hf g2 x hn hs hg hr
    obtain ⟨fu, rfl⟩ : ∃ f, fu = f + 1 := ⟨fu - 1, by omega⟩
    rw [succA_balerlaw23_PressFeeds]
    have e0 : ((i : Int) < (ss.length : Int)) := by omega
    have hr0 := hr
    obtain ⟨a, c, rfl, hr⟩ := hr
    obtain ⟨b, B, rfl, hgb, hb, hc⟩ := hr i (by omega)
    generalize ss[i] = t at hc
    have e9 : (0 : Int) ≤ (i : Int) := by omega
    by_cases h200 : (200 : Int) < (t.length : Int)
    · try simp (disch := first | omega | assumption | exact one_int _ _ | exact one_slice _ _ _ | exact one_ptr _ | exact one_bool _ | exact one_string _) only [RXA, RXB, Nat.reduceAdd, Nat.reduceLT, wrap_id, wrap_succ, wrap_pred, FX1, FX2, FX3, Int.reduceBEq, Int.reduceBNe, Int.reduceLT, Int.reduceLE, Int.reduceEq, Int.reduceNe, Int.reduceAdd, Int.reduceSub, Int.reduceMul, Int.reduceNeg, e0, hgb, hc, h200]
      refine run_same (k_letter lf _ _ _ hg (by omega)) (by omega) (fun _ _ h => h.elim) ?_
      rw [kcAa_balerlaw23_PressFeeds]
      try simp (disch := first | omega | assumption | exact one_int _ _ | exact one_slice _ _ _ | exact one_ptr _ | exact one_bool _ | exact one_string _) only [RXA, RXB, Nat.reduceAdd, Nat.reduceLT, wrap_id, wrap_succ, wrap_pred, FX1, FX2, FX3, Int.reduceBEq, Int.reduceBNe, Int.reduceLT, Int.reduceLE, Int.reduceEq, Int.reduceNe, Int.reduceAdd, Int.reduceSub, Int.reduceMul, Int.reduceNeg]
    · have g2' := g2
      unfold seB at g2'
      generalize hk : min t.length (W - s.length) = k
      have e2 : (if (W : Int) - (s.length : Int) < (t.length : Int) then (W : Int) - (s.length : Int) else (t.length : Int)) = (k : Int) := by split <;> omega
      have hkt : k ≤ t.length := by omega
      have hl2 : (s ++ t.take k).length = s.length + k := by simp; omega
      try simp (disch := first | omega | assumption | exact one_int _ _ | exact one_slice _ _ _ | exact one_ptr _ | exact one_bool _ | exact one_string _) only [RXA, RXB, Nat.reduceAdd, Nat.reduceLT, wrap_id, wrap_succ, wrap_pred, FX1, FX2, FX3, Int.reduceBEq, Int.reduceBNe, Int.reduceLT, Int.reduceLE, Int.reduceEq, Int.reduceNe, Int.reduceAdd, Int.reduceSub, Int.reduceMul, Int.reduceNeg, e0, hgb, hc, h200, g2', e2]
      refine run_call okd (s_pFeed (t := t) x hs (by omega) (by omega)) (by omega) (fun b _ h => .inl (by
        obtain ⟨_, _, _, _, _, _, _, _, _, _, _, q, _⟩ := x.ex
        omega)) ?_
      rw [hk]
      rintro _ h1 n1 hn1 fr ⟨rfl, rfl, x1⟩
      have hpb : nb ≤ p := by
        obtain ⟨_, _, _, _, _, _, _, _, _, _, _, q, _⟩ := x.ex
        exact q
      have g21 : h1.get b2 = some (seB (l : Int) u (W : Int)) := by rw [fr b2 (by omega) (by omega), g2]
      have hg1 : h1.get 0 = some ⟨3, false, gV⟩ := by rw [fr _ (by omega) (by omega), hg]
      have hr1 : SRow h1 n0 _ ss := hr0.keep (Nat.le_refl _) fun b hb => fr b (by omega) (by omega)
      have hlI : ((s ++ t.take k).length : Int) = (s.length : Int) + (k : Int) := by rw [hl2]; rfl
      try simp (disch := first | omega | assumption | exact one_int _ _ | exact one_slice _ _ _ | exact one_ptr _ | exact one_bool _ | exact one_string _) only [RXA, RXB, Nat.reduceAdd, Nat.reduceLT, wrap_id, wrap_succ, wrap_pred, FX1, FX2, FX3, Int.reduceBEq, Int.reduceBNe, Int.reduceLT, Int.reduceLE, Int.reduceEq, Int.reduceNe, Int.reduceAdd, Int.reduceSub, Int.reduceMul, Int.reduceNeg]
      refine run_call okd (s_pHeld hlf x1 (by omega)) (by omega) (fun _ _ h => h.elim) ?_
      rintro _ h3 n3 hn3 fr3 rfl
      have x3 := x1.keep (h' := h3) (n' := n3) hn3 fun b _ hb => fr3 b hb id
      have g23 : h3.get b2 = some (seB (l : Int) u (W : Int)) := by rw [fr3 b2 (by omega) id, g21]
      have hg3 : h3.get 0 = some ⟨3, false, gV⟩ := by rw [fr3 _ (by omega) id, hg1]
      have hr3 : SRow h3 n0 _ ss := hr1.keep (Nat.le_refl _) fun b hb => fr3 b (by omega) id
      have e5 : ((s.length : Int) + (k : Int) + 4 != (s.length : Int) + (k : Int) + 4) = false := by simp
      try simp (disch := first | omega | assumption | exact one_int _ _ | exact one_slice _ _ _ | exact one_ptr _ | exact one_bool _ | exact one_string _) only [RXA, RXB, Nat.reduceAdd, Nat.reduceLT, wrap_id, wrap_succ, wrap_pred, FX1, FX2, FX3, Int.reduceBEq, Int.reduceBNe, Int.reduceLT, Int.reduceLE, Int.reduceEq, Int.reduceNe, Int.reduceAdd, Int.reduceSub, Int.reduceMul, Int.reduceNeg, hlI, e5]
      refine run_same (s_pStopped x3) (by omega) (fun _ _ h => h.elim) ?_
      have e6 : (decide (s ++ t.take k = []) != ((s.length : Int) + (k : Int) == 0)) = false := by
        by_cases hz : s ++ t.take k = []
        · have : s.length + k = 0 := by rw [← hl2, hz]; rfl
          have : (s.length : Int) + (k : Int) = 0 := by omega
          simp [hz, this]
        · have : s.length + k ≠ 0 := fun e => hz (List.length_eq_zero_iff.1 (by omega))
          have : ¬ (s.length : Int) + (k : Int) = 0 := by omega
          simp only [hz, decide_false]
          simpa using this
      try simp (disch := first | omega | assumption | exact one_int _ _ | exact one_slice _ _ _ | exact one_ptr _ | exact one_bool _ | exact one_string _) only [RXA, RXB, Nat.reduceAdd, Nat.reduceLT, wrap_id, wrap_succ, wrap_pred, FX1, FX2, FX3, Int.reduceBEq, Int.reduceBNe, Int.reduceLT, Int.reduceLE, Int.reduceEq, Int.reduceNe, Int.reduceAdd, Int.reduceSub, Int.reduceMul, Int.reduceNeg, nqB, e6]
      rw [← hlI]
      exact ih (i + 1) fu n3 _ h3 (by omega) (by omega) g23 x3 (by omega) (by omega) hg3 hr3
theorem law_PFeeds (hlf : 257 ≤ lf) (l u w : Int) (v : Value) (ss : List (List UInt8)) (hr : SRow h n v ss) (hn : Tryz.prog.globals.size ≤ n) (hg : h.get 0 = some ⟨3, false, gV⟩) : Run (fun _ => False) n (evCall2 Tryz.prog gt lf (d + 7) 5 #[.agg #[.int .i64 l, .int .i64 u, .int .i64 w], v]) h n fun v _ _ => v = .bool true := by
  have hn0 : 0 < n := Nat.lt_of_lt_of_le (by decide +kernel) hn
  rw [sh_balerlaw23_PressFeeds]
  refine Run.inside_ ?_
  unfold b_balerlaw23_PressFeeds
  refine run_box sz46 _ _ ?_
  have g0 : (h.set n (some ⟨46, true, (Value.agg #[.int .i64 l, .int .i64 u, .int .i64 w]).cells.toList⟩)).get n = some (seB l u w) := get_eq _ _ _
  have gg0 : (h.set n (some ⟨46, true, (Value.agg #[.int .i64 l, .int .i64 u, .int .i64 w]).cells.toList⟩)).get 0 = some ⟨3, false, gV⟩ := by rw [get_ne _ _ (by omega)]; exact hg
  have hr0 : SRow (h.set n (some ⟨46, true, (Value.agg #[.int .i64 l, .int .i64 u, .int .i64 w]).cells.toList⟩)) n v ss := hr.keep (Nat.le_refl _) fun b hb => get_ne _ _ (by omega)
  generalize h.set n (some ⟨46, true, (Value.agg #[.int .i64 l, .int .i64 u, .int .i64 w]).cells.toList⟩) = h0 at g0 gg0 hr0
  have g0' := g0
  unfold seB at g0'
  refine run_lda aga46 sz46 _ _ _ g0' (by omega) (by simp) ?_
  refine run_call okd (s_Smay l u w) (by omega) (fun _ _ h => h.elim) ?_
  rintro _ h2 n2 hn2 fr2 rfl
  have gg2 : h2.get 0 = some ⟨3, false, gV⟩ := by rw [fr2 _ (by omega) id, gg0]
  have g2 : h2.get n = some (seB l u w) := by rw [fr2 n (by omega) id, g0]
  have hr2 : SRow h2 n v ss := hr0.keep (Nat.le_refl _) fun b hb => fr2 b (by omega) id
  by_cases hm : (1 ≤ l ∧ l ≤ 9 ∧ 24 ≤ u ∧ u ≤ 100000) ∧ winB w = true
  · have hmay : mayP l u w = true := by unfold mayP; exact decide_eq_true hm
    obtain ⟨k, rfl⟩ : ∃ k : Nat, l = k := ⟨l.toNat, by omega⟩
    have h4 := hm.2
    unfold winB at h4
    simp only [decide_eq_true_eq] at h4
    obtain ⟨W, rfl⟩ : ∃ W : Nat, w = W := ⟨w.toNat, by omega⟩
    have g2' := g2
    unfold seB at g2'
    obtain ⟨a, c, rfl, _⟩ := id hr2
    rw [hmay]
    try simp (disch := first | omega | assumption | exact one_int _ _ | exact one_slice _ _ _ | exact one_ptr _ | exact one_bool _ | exact one_string _) only [RXA, RXB, Nat.reduceAdd, Nat.reduceLT, wrap_id, wrap_succ, wrap_pred, FX1, FX2, FX3, Int.reduceBEq, Int.reduceBNe, Int.reduceLT, Int.reduceLE, Int.reduceEq, Int.reduceNe, Int.reduceAdd, Int.reduceSub, Int.reduceMul, Int.reduceNeg]
    by_cases h20 : (20 : Int) < ss.length
    · try simp (disch := first | omega | assumption | exact one_int _ _ | exact one_slice _ _ _ | exact one_ptr _ | exact one_bool _ | exact one_string _) only [RXA, RXB, Nat.reduceAdd, Nat.reduceLT, wrap_id, wrap_succ, wrap_pred, FX1, FX2, FX3, Int.reduceBEq, Int.reduceBNe, Int.reduceLT, Int.reduceLE, Int.reduceEq, Int.reduceNe, Int.reduceAdd, Int.reduceSub, Int.reduceMul, Int.reduceNeg, h20]
      exact run_letter (by omega) gg2 (by omega)
    · try simp (disch := first | omega | assumption | exact one_int _ _ | exact one_slice _ _ _ | exact one_ptr _ | exact one_bool _ | exact one_string _) only [RXA, RXB, Nat.reduceAdd, Nat.reduceLT, wrap_id, wrap_succ, wrap_pred, FX1, FX2, FX3, Int.reduceBEq, Int.reduceBNe, Int.reduceLT, Int.reduceLE, Int.reduceEq, Int.reduceNe, Int.reduceAdd, Int.reduceSub, Int.reduceMul, Int.reduceNeg, h20, g2']
      by_cases h300 : (300 : Int) < (W : Int)
      · try simp (disch := first | omega | assumption | exact one_int _ _ | exact one_slice _ _ _ | exact one_ptr _ | exact one_bool _ | exact one_string _) only [RXA, RXB, Nat.reduceAdd, Nat.reduceLT, wrap_id, wrap_succ, wrap_pred, FX1, FX2, FX3, Int.reduceBEq, Int.reduceBNe, Int.reduceLT, Int.reduceLE, Int.reduceEq, Int.reduceNe, Int.reduceAdd, Int.reduceSub, Int.reduceMul, Int.reduceNeg, h300]
        exact run_letter (by omega) gg2 (by omega)
      · try simp (disch := first | omega | assumption | exact one_int _ _ | exact one_slice _ _ _ | exact one_ptr _ | exact one_bool _ | exact one_string _) only [RXA, RXB, Nat.reduceAdd, Nat.reduceLT, wrap_id, wrap_succ, wrap_pred, FX1, FX2, FX3, Int.reduceBEq, Int.reduceBNe, Int.reduceLT, Int.reduceLE, Int.reduceEq, Int.reduceNe, Int.reduceAdd, Int.reduceSub, Int.reduceMul, Int.reduceNeg, h300, g2']
        refine run_call okd (s_pNew hlf (by omega) (by omega) hm.1.2.2.1 hm.1.2.2.2 hm.2) (by omega) (fun _ _ h => h.elim) ?_
        rintro _ h3 n3 hn3 fr3 ⟨p, rfl, x3⟩
        rw [ext0, ext1]
        try simp (disch := first | omega | assumption | exact one_int _ _ | exact one_slice _ _ _ | exact one_ptr _ | exact one_bool _ | exact one_string _) only [RXA, RXB, Nat.reduceAdd, Nat.reduceLT, wrap_id, wrap_succ, wrap_pred, FX1, FX2, FX3, Int.reduceBEq, Int.reduceBNe, Int.reduceLT, Int.reduceLE, Int.reduceEq, Int.reduceNe, Int.reduceAdd, Int.reduceSub, Int.reduceMul, Int.reduceNeg]
        exact pfeeds_loop (n0 := n) (nb := n2) (b2 := n) (ss := ss) (by omega) (by omega) (by omega) (by omega) (by omega) hn0 ss.length 0 lf n3 [] h3 (by omega) (by omega) (by rw [fr3 n (by omega) id, g2]) x3 hn3 (Nat.zero_le _) (by rw [fr3 _ (by omega) id, gg2]) (hr2.keep (Nat.le_refl _) fun b hb => fr3 b (by omega) id)
  · have hmay : mayP l u w = false := by unfold mayP; exact decide_eq_false hm
    rw [hmay]
    try simp (disch := first | omega | assumption | exact one_int _ _ | exact one_slice _ _ _ | exact one_ptr _ | exact one_bool _ | exact one_string _) only [RXA, RXB, Nat.reduceAdd, Nat.reduceLT, wrap_id, wrap_succ, wrap_pred, FX1, FX2, FX3, Int.reduceBEq, Int.reduceBNe, Int.reduceLT, Int.reduceLE, Int.reduceEq, Int.reduceNe, Int.reduceAdd, Int.reduceSub, Int.reduceMul, Int.reduceNeg]
    exact run_letter (by omega) gg2 (by omega)
end
theorem ceSS : cellTs Tryz.prog 8 47 = some [47] := by kernel_rfl
theorem agSS : isAggT Tryz.prog 47 = false := by kernel_rfl
set_option maxRecDepth 4000 in
theorem call_PFeeds {w : World} (hw : Ev.GlobAt w) {vs : List Value} (ha : All2 (ArgR Tryz.prog w) [46, 47] vs) : Calls Tryz.prog 5 vs.toArray w fun e w' => e = .returned (.bool true) ∧ Below w.heap.size w w' := by
  refine the_law hw ha fun n h vs0 hn hg q => ?_
  obtain ⟨a, b, rfl, h1, h2⟩ := Ev.all2_2 q
  obtain ⟨i, j, k, rfl⟩ := a_set h1
  obtain ⟨ss, hr, _⟩ := rep_strs (f := 6) Tryz.underlying47 Tryz.underlying9 ce9 (argH_cell ceSS agSS h2)
  exact law_PFeeds (lf := 3000000) (d := 993) (by decide) i j k b ss hr hn hg

end Go.Proofs.YthhhkplbjcknkaaGreatDoor

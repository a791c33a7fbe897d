/- The reference's depths whole: they are the program's. -/
import Derived.Test.YtapdcejhfooahaaLp
namespace Go.Proofs.Ytapdcejhfooahaa
set_option linter.unusedVariables false
set_option linter.unusedSimpArgs false
open Go.RowKit Ev Hu

theorem len_mem_flat {lv : Nat → List Nat} : ∀ {L : List Nat} {t : Nat}, t ∈ L → (lv t).length ≤ (L.flatMap lv).length
  | [], t, h => by simp at h
  | x :: L, t, h => by
    rw [List.flatMap_cons, List.length_append]
    rcases List.mem_cons.1 h with e | e
    · subst e; omega
    · have := len_mem_flat (lv := lv) e; omega
set_option maxHeartbeats 2000000 in
theorem rdB (lf d : Nat) (hlf : 3000000 ≤ lf) {ws : List Int} {D : List Nat} {w : Nat → Int} {I A B : Nat → Nat} {X R : Nat → List Nat} {dep : Nat → Nat} (dd : Deps ws D w I A B X R dep) (hN3 : ws.length ≤ 258) (hroot : w (2 * ws.length - 2) ≤ 1152921504606846976) (nb bo c : Nat) (hc : ws.length ≤ c) (hbo : nb ≤ bo) (x0 x2 x3 x18 x19 x20 x21 : Value) {W : Nat → Prop} {n0 : Nat} (hn0 : n0 ≤ nb) :
    ∀ (m k fu : Nat) (h : H) (n : Nat) (v4 : Value) (l : List RT) (lv : Nat → List Nat) (out : List Int), ws.length - 1 - k = m → m < fu → k + 1 ≤ ws.length → bo < n → RM h nb n v4 l lv → PInv ws.length dep X k (l.map (·.2.1)) lv out → (∀ t ∈ l, t.1 = w t.2.1) → h.get bo = some ⟨3, true, ints out⟩ → ¬ InBlk v4 bo → (∀ t ∈ l, ¬ InBlk t.2.2 bo) →
      Run W n0 (lpB_balerref09_Depths lf (d + 2) fu (kcB_balerref09_Depths lf (d + 2)) x0 x2 x3 v4 (.slice (some ⟨bo, 0, none⟩) ws.length c) (.int .i64 ((ws.length + k : Nat) : Int)) x18 x19 x20 x21) h n fun v' h' n' => Row h' n' 3 .i64 v' (depthsP ws D) ∧ ∀ b, InBlk v' b → n0 ≤ b := by
  intro m
  have hN := dd.m.two
  induction m with
  | zero =>
    intro k fu h n v4 l lv out hm hfu hk hbn hM hP hw hgo hs1 hs2
    obtain ⟨fu, rfl⟩ : ∃ f, fu = f + 1 := ⟨fu - 1, by omega⟩
    have hll : l.length = 1 := by
      have := hP.prm.length_eq
      rw [dd.m.len (by omega), List.length_map] at this
      omega
    obtain ⟨a, cc, rfl⟩ := hM.own.len
    rw [List.length_map, hll] at *
    have e1 : ¬ (1 : Int) < ((1 : Nat) : Int) := by omega
    rw [succB_balerref09_Depths]
    try simp (disch := first | omega | assumption | exact one_int _ _ | exact one_slice _ _ _ | exact one_ptr _ | exact one_bool _ | exact one_string _) only [optK_some_eq, nil2_ptr, ifV_true, ifV_false, run_if, run_out0, run_out1, run_out2, run_out3, optG_some, one_int, one_bool, one_string, one_slice, one_ptr, min2_eq, max2_eq, pick2_eq, u_not, u_neg, cells_agg, inside_ret, chk_true, get_eq, get_ne, List.getElem?_cons_zero, List.getElem?_cons_succ, List.set_cons_zero, List.set_cons_succ, List.length_cons, List.length_nil, Int.toNat_natCast, Int.toNat_zero, Nat.zero_add, Nat.add_zero, decide_eq_true_eq, decide_eq_false_iff_not, true_and, and_true, if_true, if_false, true_or, or_true, Bool.false_eq_true, Bool.true_eq_false, Nat.reduceAdd, Nat.reduceLT, wrap_id, wrap_succ, wrap_pred, len22, bgtr3, bleq3, blss3, beql24, beql3, ix22, ldr3, badd3, bneq3, bneq24, bmul3, str3, bsub3, bshl3, bquo3, bd36x0x1x2, len34, ix34, fa36f2, ldr22, fa36f0, fa46f0, bgeq3, fa46f1, beql22s, beql22n, bd46x0x3, fa46f2, str22, fa46f3, fa36f1, cv3x54, bshr54, cv54x3, e1]
    rw [kcBa_balerref09_Depths]
    try simp (disch := first | omega | assumption | exact one_int _ _ | exact one_slice _ _ _ | exact one_ptr _ | exact one_bool _ | exact one_string _) only [optK_some_eq, nil2_ptr, ifV_true, ifV_false, run_if, run_out0, run_out1, run_out2, run_out3, optG_some, one_int, one_bool, one_string, one_slice, one_ptr, min2_eq, max2_eq, pick2_eq, u_not, u_neg, cells_agg, inside_ret, chk_true, get_eq, get_ne, List.getElem?_cons_zero, List.getElem?_cons_succ, List.set_cons_zero, List.set_cons_succ, List.length_cons, List.length_nil, Int.toNat_natCast, Int.toNat_zero, Nat.zero_add, Nat.add_zero, decide_eq_true_eq, decide_eq_false_iff_not, true_and, and_true, if_true, if_false, true_or, or_true, Bool.false_eq_true, Bool.true_eq_false, Nat.reduceAdd, Nat.reduceLT, wrap_id, wrap_succ, wrap_pred, len22, bgtr3, bleq3, blss3, beql24, beql3, ix22, ldr3, badd3, bneq3, bneq24, bmul3, str3, bsub3, bshl3, bquo3, bd36x0x1x2, len34, ix34, fa36f2, ldr22, fa36f0, fa46f0, bgeq3, fa46f1, beql22s, beql22n, bd46x0x3, fa46f2, str22, fa46f3, fa36f1, cv3x54, bshr54, cv54x3]
    obtain rfl : k = ws.length - 1 := by omega
    have ho := hP.last dd.m dd.d0
    rw [← dd.eq] at ho
    subst ho
    have dl : (depthsP ws D).length = ws.length := depthsP_len _ _ (by omega)
    refine ⟨.inr ⟨bo, 0, c, true, _, by rw [dl], hgo, hbn, by rw [ints_len]; omega, ?_, by omega⟩, fun b hb => by rw [hb.inj]; omega⟩
    rw [List.drop_zero, List.take_of_length_le (by rw [ints_len]; exact Nat.le_refl _)]
    rfl
  | succ m ih =>
    intro k fu h n v4 l lv out hm hfu hk hbn hM hP hw hgo hs1 hs2
    obtain ⟨fu, rfl⟩ : ∃ f, fu = f + 1 := ⟨fu - 1, by omega⟩
    have hk2 : k + 2 ≤ ws.length := by omega
    have hll : l.length = ws.length - k := by
      have := hP.prm.length_eq
      rw [dd.m.len (by omega), List.length_map] at this
      omega
    have hsl : ∀ t ∈ l, IsSl t.2.2 := fun t ht => (hM.row t ht).2
    have hO := hM.own
    obtain ⟨a4, c4, ev4⟩ := hO.len
    rw [List.length_map] at ev4
    have e1 : (1 : Int) < ((l.length : Nat) : Int) := by omega
    have hlen4 : len2 Try.prog #[34] [v4] = some (.int .i64 (l.length : Nat)) := by
      rw [ev4]
      exact len34 _ _ _
    rw [succB_balerref09_Depths, hlen4]
    try simp (disch := first | omega | assumption | exact one_int _ _ | exact one_slice _ _ _ | exact one_ptr _ | exact one_bool _ | exact one_string _) only [optK_some_eq, nil2_ptr, ifV_true, ifV_false, run_if, run_out0, run_out1, run_out2, run_out3, optG_some, one_int, one_bool, one_string, one_slice, one_ptr, min2_eq, max2_eq, pick2_eq, u_not, u_neg, cells_agg, inside_ret, chk_true, get_eq, get_ne, List.getElem?_cons_zero, List.getElem?_cons_succ, List.set_cons_zero, List.set_cons_succ, List.length_cons, List.length_nil, Int.toNat_natCast, Int.toNat_zero, Nat.zero_add, Nat.add_zero, decide_eq_true_eq, decide_eq_false_iff_not, true_and, and_true, if_true, if_false, true_or, or_true, Bool.false_eq_true, Bool.true_eq_false, Nat.reduceAdd, Nat.reduceLT, wrap_id, wrap_succ, wrap_pred, len22, bgtr3, bleq3, blss3, beql24, beql3, ix22, ldr3, badd3, bneq3, bneq24, bmul3, str3, bsub3, bshl3, bquo3, bd36x0x1x2, len34, ix34, fa36f2, ldr22, fa36f0, fa46f0, bgeq3, fa46f1, beql22s, beql22n, bd46x0x3, fa46f2, str22, fa46f3, fa36f1, cv3x54, bshr54, cv54x3, e1]
    refine take1 lf d hlf h n nb v4 l hO (by omega) (by omega) (diff_of hP.srt) hsl (by omega) _ (fun a h3 n3 n1 v48 ha hmin hn1 hn1' G1 K3 o3 => ?_)
    have st := dd.m.st k hk2
    have pmem : ∀ x, x ∈ l.map (·.2.1) ↔ x ∈ A k :: B k :: R k := fun x => (hP.prm.trans st).mem_iff
    have ea : l[a].2.1 = A k := min_num hw ha hmin ((pmem _).2 (by simp)) fun x hx hne => dd.m.mA k hk2 x (by
      rcases List.mem_cons.1 ((pmem x).1 hx) with q | q
      · exact absurd q hne
      · exact q)
    obtain ⟨l1, hl1⟩ : ∃ l1, l.eraseIdx a = l1 := ⟨_, rfl⟩
    rw [hl1] at o3
    have hl1l : l1.length = l.length - 1 := by rw [← hl1, List.length_eraseIdx_of_lt ha]
    have hl1m : ∀ t ∈ l1, t ∈ l := fun t ht => (List.eraseIdx_sublist l a).subset (by rw [hl1]; exact ht)
    have nm1 : l1.map (·.2.1) = (l.map (·.2.1)).eraseIdx a := by rw [← hl1, erase_map]
    have hal : a < (l.map (·.2.1)).length := by rw [List.length_map]; exact ha
    have ea' : (l.map (·.2.1))[a] = A k := by rw [List.getElem_map]; exact ea
    have pe := erase_perm hal
    rw [ea', ← nm1] at pe
    have p1 : (l1.map (·.2.1)).Perm (B k :: R k) := ((pe.symm.trans hP.prm).trans st).cons_inv
    have hpw : (l1.map (·.2.1)).Pairwise (· < ·) := by rw [nm1]; exact hP.srt.sublist (List.eraseIdx_sublist _ _)
    refine take1 lf d hlf h3 n3 (n1 + 1) v48 l1 o3 (by omega) (by omega) (diff_of hpw) (fun t ht => hsl t (hl1m t ht)) (by omega) _ (fun b h6 n6 n4 v57 hb hmin2 hn4 hn4' G2 K6 o6 => ?_)
    have eb : l1[b].2.1 = B k := min_num (fun t ht => hw t (hl1m t ht)) hb hmin2 (p1.mem_iff.2 (by simp)) fun x hx hne => dd.m.mB k hk2 x (by
      rcases List.mem_cons.1 (p1.mem_iff.1 hx) with q | q
      · exact absurd q hne
      · exact q)
    obtain ⟨l2, hl2⟩ : ∃ l2, l1.eraseIdx b = l2 := ⟨_, rfl⟩
    rw [hl2] at o6
    have hl2m : ∀ t ∈ l2, t ∈ l := fun t ht => hl1m t ((List.eraseIdx_sublist l1 b).subset (by rw [hl2]; exact ht))
    have hl2l : l2.length = l1.length - 1 := by rw [← hl2, List.length_eraseIdx_of_lt hb]
    have nm2 : l2.map (·.2.1) = ((l.map (·.2.1)).eraseIdx a).eraseIdx b := by rw [← hl2, erase_map, nm1]
    have hbl : b < ((l.map (·.2.1)).eraseIdx a).length := by rw [← nm1, List.length_map]; exact hb
    have eb' : ((l.map (·.2.1)).eraseIdx a)[b] = B k := by
      have : (l1.map (·.2.1))[b]'(by rw [List.length_map]; exact hb) = B k := by rw [List.getElem_map]; exact eb
      simp only [nm1] at this
      exact this
    obtain ⟨hP', hnd, hil⟩ := hP.next dd.m dd.d1 hk2 hal hbl ea' eb'
    rw [← nm2] at hP'
    have KK : ∀ q, q < n → h6.get q = h.get q := fun q hq => by rw [K6 q (by omega), K3 q hq]
    have G1' := (K6 n1 hn1').trans G1
    have mla := List.getElem_mem ha
    have mlb := hl1m _ (List.getElem_mem hb)
    obtain ⟨ta, hta⟩ : ∃ t, l[a] = t := ⟨_, rfl⟩
    obtain ⟨tb, htb⟩ : ∃ t, l1[b] = t := ⟨_, rfl⟩
    rw [hta] at mla ea G1'
    rw [htb] at mlb eb G2
    have Ra : Row h6 n6 3 .i64 ta.2.2 (natsI (lv (A k))) := by
      have := (hM.row _ mla).1
      rw [ea] at this
      exact this.keep (by omega) KK
    have Rb : Row h6 n6 3 .i64 tb.2.2 (natsI (lv (B k))) := by
      have := (hM.row _ mlb).1
      rw [eb] at this
      exact this.keep (by omega) KK
    have lsl : ∀ t, t ∈ l.map (·.2.1) → (lv t).length ≤ 258 := fun t ht => by
      have hsub := len_mem_flat (lv := lv) ht
      rw [hP.cov.length_eq, List.length_range] at hsub
      omega
    have la := lsl (A k) ((pmem _).2 (by simp))
    have lb := lsl (B k) ((pmem _).2 (by simp))
    have outb : ∀ i, 0 ≤ out.getD i 0 ∧ out.getD i 0 ≤ 1000000 := fun i => by
      refine ⟨hP.pos i, ?_⟩
      by_cases hi : i < ws.length
      · obtain ⟨t, ht, hit⟩ := List.mem_flatMap.1 (hP.cov.mem_iff.2 (List.mem_range.2 hi))
        have := (hP.lv t ht i hit).2
        have := dd.le hi
        omega
      · rw [List.getD_eq_getElem?_getD, List.getElem?_eq_none (by rw [hP.len]; omega)]
        simp
    have wa : ta.1 = w (A k) := by rw [hw _ mla, ea]
    have wb : tb.1 = w (B k) := by rw [hw _ mlb, eb]
    have wn := dd.m.wn k hk2
    have wsum : ta.1 + tb.1 = w (ws.length + k) := by rw [wa, wb, wn]
    have wle := dd.m.mono (ws.length + k) (2 * ws.length - 2) (by omega) (by omega) (Nat.le_refl _)
    have wge := dd.m.pos (ws.length + k) (by omega)
    have o6lt := fun q hq => o6.lt (b := q) hq
    refine join2 lf (d + 2) fu hlf h6 n6 (n4 + 1) n1 n4 bo ws.length c (ws.length + k) (by omega) v57 l2 ta.1 tb.1 _ _ ta.2.2 tb.2.2 (lv (A k)) (lv (B k)) out _ _ _ _ _ _ _ _ _ _ _ G1' G2 (by omega) hn4' Ra Rb ((KK bo hbn).trans hgo) (by omega) (by omega) (by omega) (by omega) o6 (by omega) (by omega) (fun q => by have := o6lt bo q; omega) (by omega) (by omega) (by omega) hnd hil hP.len outb (by omega) (by omega) (fun h10 n10 v10 lv8 hn10 o10 b10 R8 sl8 s8 go10 K10 => ?_)
    have K11 : ∀ q, q < n → q ≠ bo → h10.get q = h.get q := fun q hq hne => by
      rw [K10 q (by omega) hne (fun r => by have := o6lt q r; omega), KK q hq]
    have nlt : ∀ t ∈ l2, t.2.1 ≠ ws.length + k := fun t ht e => by
      have := dd.m.lt (k := k) (by omega) (hP.prm.mem_iff.1 (List.mem_map.2 ⟨t, hl2m t ht, rfl⟩))
      omega
    rw [wsum] at o10
    refine ih (k + 1) fu h10 n10 v10 (l2 ++ [(w (ws.length + k), ws.length + k, lv8)]) _ _ (by omega) (by omega) (by omega) (by omega) ⟨o10.low (by omega), fun t ht => ?_, fun t ht q hq r => ?_⟩ (by rw [List.map_append]; exact hP') (fun t ht => ?_) go10 (fun q => by have := b10 bo q; omega) (fun t ht q => ?_)
    · rcases List.mem_append.1 ht with q | q
      · obtain ⟨r, s⟩ := hM.row t (hl2m t q)
        rw [if_neg (nlt t q)]
        exact ⟨r.keep' (by omega) fun q hq => K11 q (r.lt hq) (fun e => hs2 t (hl2m t (by assumption)) (e ▸ hq)), s⟩
      · obtain rfl := List.mem_singleton.1 q
        show Row h10 _ _ _ _ (natsI (if ws.length + k = ws.length + k then _ else _)) ∧ _
        rw [if_pos rfl]
        exact ⟨R8, sl8⟩
    · rcases List.mem_append.1 ht with s | s
      · have := (hM.row t (hl2m t s)).1.lt hq
        have := b10 q r
        omega
      · obtain rfl := List.mem_singleton.1 s
        exact (s8 q hq).2 r
    · rcases List.mem_append.1 ht with q | q
      · exact hw t (hl2m t q)
      · obtain rfl := List.mem_singleton.1 q
        rfl
    · rcases List.mem_append.1 ht with r | r
      · exact hs2 t (hl2m t r) q
      · obtain rfl := List.mem_singleton.1 r
        have := (s8 bo q).1
        omega

/-- the reference's depths -/
theorem s_DepthsR (lf d n : Nat) (h : H) (v : Value) (ws : List Int) (hR : Row h n 3 .i64 v ws) (hW : Ws ws) (so : Sorts ws (sortD ws)) (hlf : 3000000 ≤ lf) (hd : 300 ≤ d) :
    Run (fun _ => False) n (evCall2 Try.prog gt lf d 20 #[v]) h n fun v' h' n' => Row h' n' 3 .i64 v' (depF ws) ∧ ∀ b, InBlk v' b → n ≤ b := by
  obtain ⟨d, rfl⟩ : ∃ e, d = e + 3 := ⟨d - 3, by omega⟩
  obtain ⟨w, I, A, B, X, R, dep, D⟩ := hW.deps so
  have hN := hW.l2
  have hN3 := hW.l3
  have hroot : w (2 * ws.length - 2) ≤ 1152921504606846976 := by
    rw [← D.m.root]
    have e : (List.range ws.length).map w = ws := by
      apply List.ext_getElem
      · simp
      · intro i h1 h2
        have hi : i < ws.length := h2
        simp only [List.getElem_map, List.getElem_range]
        rw [D.ww i hi, List.getD_eq_getElem?_getD, List.getElem?_eq_getElem hi]
        rfl
    rw [e]
    exact sum_fits hW.l3 hW.hi
  rw [sh_balerref09_Depths]
  refine Run.inside_ ?_
  unfold b_balerref09_Depths
  have hR0 := hR
  obtain ⟨a, c, rfl⟩ := hR.len
  try simp (disch := first | omega | assumption | exact one_int _ _ | exact one_slice _ _ _ | exact one_ptr _ | exact one_bool _ | exact one_string _) only [optK_some_eq, nil2_ptr, ifV_true, ifV_false, run_if, run_out0, run_out1, run_out2, run_out3, optG_some, one_int, one_bool, one_string, one_slice, one_ptr, min2_eq, max2_eq, pick2_eq, u_not, u_neg, cells_agg, inside_ret, chk_true, get_eq, get_ne, List.getElem?_cons_zero, List.getElem?_cons_succ, List.set_cons_zero, List.set_cons_succ, List.length_cons, List.length_nil, Int.toNat_natCast, Int.toNat_zero, Nat.zero_add, Nat.add_zero, decide_eq_true_eq, decide_eq_false_iff_not, true_and, and_true, if_true, if_false, true_or, or_true, Bool.false_eq_true, Bool.true_eq_false, Nat.reduceAdd, Nat.reduceLT, wrap_id, wrap_succ, wrap_pred, len22, bgtr3, bleq3, blss3, beql24, beql3, ix22, ldr3, badd3, bneq3, bneq24, bmul3, str3, bsub3, bshl3, bquo3, bd36x0x1x2, len34, ix34, fa36f2, ldr22, fa36f0, fa46f0, bgeq3, fa46f1, beql22s, beql22n, bd46x0x3, fa46f2, str22, fa46f3, fa36f1, cv3x54, bshr54, cv54x3]
  have e0 : (.int .i64 0 : Value) = .int .i64 ((0 : Nat) : Int) := rfl
  rw [e0]
  refine rdA lf (d + 2) n h _ ws hR0 (by omega) _ _ (Nat.le_refl n) _ (fun h1 n1 v4 y21 l hn1 hM hnum hw => ?_) ws.length 0 lf h n _ [] (by omega) (by omega) (by omega) (Nat.le_refl _) (fun _ _ => rfl) ⟨Own3.nil _ _ _ _, fun t ht => by simp at ht, fun t ht => by simp at ht⟩ (by simp) (fun t ht => by simp at ht)
  rw [kcAa_balerref09_Depths]
  refine Ev.run_make c1x22 ws.length ws.length _ (Nat.le_refl _) (by omega) ?_
  obtain ⟨h2, hh2⟩ : ∃ h2, h1.set n1 (some ⟨3, true, List.replicate ws.length (.int .i64 0)⟩) = h2 := ⟨_, rfl⟩
  have g2 : h2.get n1 = some ⟨3, true, ints (List.replicate ws.length 0)⟩ := by
    rw [← hh2, get_eq]
    unfold ints
    rw [List.map_replicate]
  have k2 : ∀ b, b < n1 → h2.get b = h1.get b := fun b hb => by rw [← hh2, get_ne _ _ (by omega)]
  rw [hh2]
  have hP := PInv.init (dep := dep) D.m
  rw [← hnum] at hP
  unfold depF
  exact rdB lf d hlf D hN3 hroot n n1 ws.length (Nat.le_refl _) hn1 _ _ _ _ _ _ _ (Nat.le_refl n) (ws.length - 1) 0 lf h2 (n1 + 1) v4 l (fun i => [i]) _ (by omega) (by omega) (by omega) (by omega)
    ⟨hM.own.keep (by omega) fun b hb => k2 b (hM.own.lt hb).2, fun t ht => ⟨(hM.row t ht).1.keep (by omega) k2, (hM.row t ht).2⟩, hM.sep⟩ hP (fun t ht => by
      rw [hw t ht, D.ww]
      have : t.2.1 ∈ l.map (·.2.1) := List.mem_map.2 ⟨t, ht, rfl⟩
      rw [hnum] at this
      exact List.mem_range.1 this) g2 (fun q => by have := hM.own.lt q; omega) (fun t ht q => by have := (hM.row t ht).1.lt q; omega)

end Go.Proofs.Ytapdcejhfooahaa

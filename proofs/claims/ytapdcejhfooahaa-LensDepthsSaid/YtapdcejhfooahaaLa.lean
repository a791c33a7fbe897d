/- Depths of weights, by the second form. -/
import Derived.Test.YtapdcejhfooahaaL9
namespace Go.Proofs.Ytapdcejhfooahaa
set_option linter.unusedVariables false
set_option linter.unusedSimpArgs false
open Go.RowKit Ev Hu

def fillD (into : List Int) : Nat → List Int → List Int
  | 0, out => out
  | i + 1, out => fillD into i (out.set i (out.getD (into.getD i 0).toNat 0 + 1))
def treeOf (ws : List Int) (D : List Nat) : HT := runH (ws.length - 1) (Start ws D)
def depthsP (ws : List Int) (D : List Nat) : List Int := (fillD (treeOf ws D).into (2 * ws.length - 2) (List.replicate (2 * ws.length - 1) 0)).take ws.length

theorem fillD_len (into : List Int) : ∀ (i : Nat) (out : List Int), (fillD into i out).length = out.length
  | 0, out => rfl
  | i + 1, out => by unfold fillD; rw [fillD_len into i]; simp
theorem depthsP_len (ws : List Int) (D : List Nat) (h : 1 ≤ ws.length) : (depthsP ws D).length = ws.length := by
  unfold depthsP
  rw [List.length_take, fillD_len, List.length_replicate]
  omega

theorem start_ok {ws : List Int} {D : List Nat} {S : Int} (hp : D.Perm (List.range ws.length)) (hw : ∀ x ∈ ws, 0 ≤ x) (hS : sumI ws = S) : OkH ws.length 0 [] S (Start ws D) := by
  have hlen := hp.length_eq
  rw [List.length_range] at hlen
  have hmem : ∀ i ∈ D, i < ws.length := fun i hi => List.mem_range.1 (hp.mem_iff.1 hi)
  have sle := sumI_le ws hw
  rw [hS] at sle
  have sumP : ∀ {a b : List Int}, a.Perm b → sumI a = sumI b := by
    intro a b h
    induction h with
    | nil => rfl
    | cons x _ ih => simp only [sumI, ih]
    | swap x y l => simp only [sumI]; omega
    | trans _ _ ih1 ih2 => exact ih1.trans ih2
  refine ⟨rfl, by simp [Start], hmem, fun i hi => by simp at hi, Nat.le_refl _, Nat.le_refl _, by simp [Start, hlen], fun i hi => ?_, ?_, fun i hi h2 => ?_⟩
  · have : ws.getD i 0 ∈ ws := by rw [List.getD_eq_getElem?_getD, List.getElem?_eq_getElem (by omega)]; exact List.getElem_mem _
    exact ⟨hw _ this, sle.2 _ this⟩
  · unfold waitH
    simp only [Start, Nat.add_zero, Nat.sub_self, List.range'_zero, List.append_nil, List.nil_append]
    rw [sumP (hp.map _), ← hS]
    congr 1
    apply List.ext_getElem
    · simp
    · intro i h1 h2
      simp [wAt, h2]
  · exact absurd (hp.mem_iff.2 (List.mem_range.2 (by omega))) h2
theorem step_ok {n k : Nat} {S : Int} {t : HT} (h : OkH n k [] S t) (hk : k + 2 ≤ n) : OkH n k [Hu.leastOf t] S (taken t) ∧ Hu.leastOf t < n + k ∧ OkH n k [Hu.leastOf t, Hu.leastOf (taken t)] S (taken (taken t)) ∧ Hu.leastOf (taken t) < n + k ∧ OkH n (k + 1) [] S (stepH t) ∧ (stepH t).joined ≤ n + k := by
  have hl := h.left
  simp only [List.length_nil] at hl
  obtain ⟨h1, a1⟩ := h.take (by omega)
  have hl1 := h1.left
  simp only [List.nil_append, List.length_cons, List.length_nil] at hl1
  obtain ⟨h2, a2⟩ := h1.take (by omega)
  exact ⟨h1, a1, h2, a2, h2.join, h2.jh⟩
theorem least_pre {n k : Nat} {P : List Nat} {S : Int} {t : HT} (h : OkH n k P S t) (h1 : 1 ≤ t.leaves.length + (n + k - t.joined)) : (isLeaf t = true → 0 < t.leaves.length) ∧ (0 < t.leaves.length → t.leaves.getD 0 0 < t.weight.length) ∧ t.joined ≤ t.weight.length := by
  refine ⟨fun hl => ?_, fun h0 => ?_, by rw [h.wl]; exact h.jh⟩
  · obtain ⟨r, e, _⟩ := isLeaf_true h h1 hl
    rw [e]; simp
  · have := h.leaf (t.leaves.getD 0 0) (by rw [List.getD_eq_getElem?_getD, List.getElem?_eq_getElem h0]; exact List.getElem_mem _)
    rw [h.wl]; omega

set_option maxHeartbeats 2000000 in
/-- rounds of joining -/
theorem dpA (lf d n : Nat) (N : Nat) (S : Int) (t0 : HT) (g : Nat) (x0 x2 : Value) (hN2 : 2 ≤ N) (hNb : N ≤ 1000) (hS : S ≤ 1152921504606846976) {W : Nat → Prop} {n0 : Nat} {R : Value → H → Nat → Prop} (k : Ex → Fr → M Value) (lo : Nat) (hlo : n0 ≤ lo) (hg : lo ≤ g)
    (hK : ∀ hr nr bw bi bl off cl cs y13, n ≤ nr → TreesAt hr nr g (runH (N - 1) t0) bw bi bl off cl cs → OkH N (N - 1) [] S (runH (N - 1) t0) → (runH (N - 1) t0).joined < N + (N - 1) → Run W n0 (k (Ex.exit 0) [(0, x0), (2, x2), (3, .pointer (some ⟨g, 0, none⟩)), (11, .int .i64 ((N - 1 : Nat) : Int)), (12, .int .i64 ((N - 1 : Nat) : Int)), (13, y13)]) hr nr R) :
    ∀ (m kk fu : Nat) (hr : H) (nr bw bi bl off cl : Nat) (cs : List Value), N - 1 - kk = m → m < fu → kk ≤ N - 1 → n ≤ nr → lo ≤ nr → lo ≤ bw → lo ≤ bi → TreesAt hr nr g (runH kk t0) bw bi bl off cl cs → OkH N kk [] S (runH kk t0) → (kk = 0 ∨ (runH kk t0).joined < N + kk) →
      Run W n0 (lpA_lens_depths lf (d + 1) fu k x0 x2 (.pointer (some ⟨g, 0, none⟩)) (.int .i64 ((N - 1 : Nat) : Int)) (.int .i64 (kk : Nat))) hr nr R := by
  intro m
  induction m with
  | zero =>
    intro kk fu hr nr bw bi bl off cl cs hm hfu hkk hn hl1 hl2 hl3 hT hO hj
    obtain ⟨fu, rfl⟩ : ∃ f, fu = f + 1 := ⟨fu - 1, by omega⟩
    obtain rfl : kk = N - 1 := by omega
    rw [succA_lens_depths]
    try simp (disch := first | omega | assumption | exact one_int _ _ | exact one_slice _ _ _ | exact one_ptr _ | exact one_bool _ | exact one_string _) only [optK_some_eq, nil2_ptr, ifV_true, ifV_false, run_if, run_out0, run_out1, run_out2, run_out3, optG_some, one_int, one_bool, one_string, one_slice, one_ptr, min2_eq, max2_eq, pick2_eq, u_not, u_neg, cells_agg, inside_ret, chk_true, get_eq, get_ne, List.getElem?_cons_zero, List.getElem?_cons_succ, List.set_cons_zero, List.set_cons_succ, List.length_cons, List.length_nil, Int.toNat_natCast, Int.toNat_zero, Nat.zero_add, Nat.add_zero, decide_eq_true_eq, decide_eq_false_iff_not, true_and, and_true, if_true, if_false, true_or, or_true, Bool.false_eq_true, Bool.true_eq_false, Nat.reduceAdd, Nat.reduceLT, wrap_id, wrap_succ, wrap_pred, len22, bgtr3, bleq3, blss3, beql24, beql3, ix22, ldr3, badd3, bneq3, bneq24, bmul3, str3, bsub3, bshl3, bquo3, bd36x0x1x2, len34, ix34, fa36f2, ldr22, fa36f0, fa46f0, bgeq3, fa46f1, beql22s, beql22n, bd46x0x3, fa46f2, str22, fa46f3, fa36f1, cv3x54, bshr54, cv54x3, Int.lt_irrefl]
    exact hK hr nr bw bi bl off cl cs _ hn hT hO (by omega)
  | succ m ih =>
    intro kk fu hr nr bw bi bl off cl cs hm hfu hkk hn hl1 hl2 hl3 hT hO hj
    obtain ⟨fu, rfl⟩ : ∃ f, fu = f + 1 := ⟨fu - 1, by omega⟩
    rw [succA_lens_depths]
    have e1 : ((kk : Nat) : Int) < ((N - 1 : Nat) : Int) := by omega
    obtain ⟨t, ht⟩ : ∃ t, runH kk t0 = t := ⟨_, rfl⟩
    rw [ht] at hT hO hj
    obtain ⟨s1, s2, s3, s4, s5, s6⟩ := step_ok hO (by omega)
    have q1 := least_pre hO (by have := hO.left; simp only [List.length_nil] at this; omega)
    have q2 := least_pre s1 (by have := s1.left; simp only [List.length_cons, List.length_nil] at this; omega)
    have wl := hO.wl
    have hl := hO.left
    have wl1 := s1.wl
    have l1 := s1.left
    have wl2 := s3.wl
    have l2 := s3.left
    simp only [List.length_cons, List.length_nil] at l1 l2
    have e2 : ((kk : Nat) : Int) + 1 = ((kk + 1 : Nat) : Int) := by omega
    try simp (disch := first | omega | assumption | exact one_int _ _ | exact one_slice _ _ _ | exact one_ptr _ | exact one_bool _ | exact one_string _) only [optK_some_eq, nil2_ptr, ifV_true, ifV_false, run_if, run_out0, run_out1, run_out2, run_out3, optG_some, one_int, one_bool, one_string, one_slice, one_ptr, min2_eq, max2_eq, pick2_eq, u_not, u_neg, cells_agg, inside_ret, chk_true, get_eq, get_ne, List.getElem?_cons_zero, List.getElem?_cons_succ, List.set_cons_zero, List.set_cons_succ, List.length_cons, List.length_nil, Int.toNat_natCast, Int.toNat_zero, Nat.zero_add, Nat.add_zero, decide_eq_true_eq, decide_eq_false_iff_not, true_and, and_true, if_true, if_false, true_or, or_true, Bool.false_eq_true, Bool.true_eq_false, Nat.reduceAdd, Nat.reduceLT, wrap_id, wrap_succ, wrap_pred, len22, bgtr3, bleq3, blss3, beql24, beql3, ix22, ldr3, badd3, bneq3, bneq24, bmul3, str3, bsub3, bshl3, bquo3, bd36x0x1x2, len34, ix34, fa36f2, ldr22, fa36f0, fa46f0, bgeq3, fa46f1, beql22s, beql22n, bd46x0x3, fa46f2, str22, fa46f3, fa36f1, cv3x54, bshr54, cv54x3, e1]
    refine run_call okd (s_least lf d g nr hr t bw bi bl off cl cs hT (by have := hO.jh; omega) (by omega) (by omega) q1.1 q1.2.1 q1.2.2) (by omega) (fun c _ hc => .inl (by omega)) fun v1 h1 n1 _ _ hq => ?_
    obtain ⟨rfl, rfl, off1, cl1, hT1⟩ := hq
    refine run_call okd (s_least lf d g n1 h1 (taken t) bw bi bl off1 cl1 cs hT1 (by have := s1.jh; omega) (by omega) (by omega) q2.1 q2.2.1 q2.2.2) (by omega) (fun c _ hc => .inl (by omega)) fun v2 h2 n2 _ _ hq => ?_
    obtain ⟨rfl, rfl, off2, cl2, hT2⟩ := hq
    refine run_call okd (s_join lf d g n2 (Hu.leastOf t) (Hu.leastOf (taken t)) h2 (taken (taken t)) bw bi bl off2 cl2 cs hT2 (by omega) (by rw [wl2, s3.il]) (by omega) (by omega) (fun x hx => ?_)) (by omega) (fun c _ hc => .inl (by omega)) fun v3 h3 n3 _ _ hq => ?_
    · obtain ⟨i, hi, e⟩ := List.mem_iff_getElem.1 hx
      have := s3.pos i (by omega)
      have e3 : wAt (taken (taken t)) i = x := by unfold wAt; rw [List.getD_eq_getElem?_getD, List.getElem?_eq_getElem hi, ← e]; rfl
      rw [e3] at this
      omega
    obtain ⟨rfl, hn3, bw', bi', hT3, hb1, hb2⟩ := hq
    try simp (disch := first | omega | assumption | exact one_int _ _ | exact one_slice _ _ _ | exact one_ptr _ | exact one_bool _ | exact one_string _) only [optK_some_eq, nil2_ptr, ifV_true, ifV_false, run_if, run_out0, run_out1, run_out2, run_out3, optG_some, one_int, one_bool, one_string, one_slice, one_ptr, min2_eq, max2_eq, pick2_eq, u_not, u_neg, cells_agg, inside_ret, chk_true, get_eq, get_ne, List.getElem?_cons_zero, List.getElem?_cons_succ, List.set_cons_zero, List.set_cons_succ, List.length_cons, List.length_nil, Int.toNat_natCast, Int.toNat_zero, Nat.zero_add, Nat.add_zero, decide_eq_true_eq, decide_eq_false_iff_not, true_and, and_true, if_true, if_false, true_or, or_true, Bool.false_eq_true, Bool.true_eq_false, Nat.reduceAdd, Nat.reduceLT, wrap_id, wrap_succ, wrap_pred, len22, bgtr3, bleq3, blss3, beql24, beql3, ix22, ldr3, badd3, bneq3, bneq24, bmul3, str3, bsub3, bshl3, bquo3, bd36x0x1x2, len34, ix34, fa36f2, ldr22, fa36f0, fa46f0, bgeq3, fa46f1, beql22s, beql22n, bd46x0x3, fa46f2, str22, fa46f3, fa36f1, cv3x54, bshr54, cv54x3]
    rw [e2]
    refine ih (kk + 1) fu h3 n3 bw' bi' bl off2 cl2 cs (by omega) (by omega) (by omega) (by omega) (by omega) (by omega) (by omega) ?_ ?_ ?_
    · rw [run_succ, ht]; exact hT3
    · rw [run_succ, ht]; exact s5
    · rw [run_succ, ht]; exact .inr (by omega)

/-- the depths, from the last tree down -/
def DInv (T i : Nat) (out : List Int) : Prop := out.length = T ∧ ∀ j, j < T → 0 ≤ out.getD j 0 ∧ out.getD j 0 ≤ ((T - j : Nat) : Int)
theorem dpB (lf d n : Nat) (N T : Nat) (t : HT) (g bi ci bo co : Nat) (wv lv jv : Value) (x0 x2 x11 x12 x13 : Value) (hT1 : 1 ≤ T) (hTb : T ≤ 100000) (il : t.into.length = T) (hbo : bo < n) (hgn : g < n) (hin' : bi < n) (hbn : bo ≠ g ∧ bo ≠ bi) (hin : ∀ i, i < T - 1 → (i : Int) < t.into.getD i 0 ∧ t.into.getD i 0 < (T : Int)) {W : Nat → Prop} {n0 : Nat} (hn0 : n0 ≤ bo) {R : Value → H → Nat → Prop} (k : Ex → Fr → M Value) (res : List Int)
    (hK : ∀ hr y6 y32, hr.get bo = some ⟨3, true, ints res⟩ → Run W n0 (k (Ex.exit 2) [(0, x0), (2, x2), (3, .pointer (some ⟨g, 0, none⟩)), (5, .slice (some ⟨bo, 0, none⟩) T co), (6, y6), (11, x11), (12, x12), (13, x13), (32, y32)]) hr n R) :
    ∀ (i fu : Nat) (hr : H) (out : List Int), i < fu → i ≤ T - 1 → hr.get g = some ⟨46, true, [wv, .slice (some ⟨bi, 0, none⟩) T ci, lv, jv]⟩ → hr.get bi = some ⟨3, true, ints t.into⟩ → hr.get bo = some ⟨3, true, ints out⟩ → DInv T i out → fillD t.into i out = res →
      Run W n0 (lpB_lens_depths lf d fu k x0 x2 (.pointer (some ⟨g, 0, none⟩)) (.slice (some ⟨bo, 0, none⟩) T co) (.int .i64 ((i : Int) - 1)) x11 x12 x13) hr n R := by
  intro i
  induction i with
  | zero =>
    intro fu hr out hfu hi hg hbi ho hD hres
    obtain ⟨fu, rfl⟩ : ∃ f, fu = f + 1 := ⟨fu - 1, by omega⟩
    rw [succB_lens_depths]
    have e1 : ¬ (0 : Int) ≤ ((0 : Nat) : Int) - 1 := by omega
    try simp (disch := first | omega | assumption | exact one_int _ _ | exact one_slice _ _ _ | exact one_ptr _ | exact one_bool _ | exact one_string _) only [optK_some_eq, nil2_ptr, ifV_true, ifV_false, run_if, run_out0, run_out1, run_out2, run_out3, optG_some, one_int, one_bool, one_string, one_slice, one_ptr, min2_eq, max2_eq, pick2_eq, u_not, u_neg, cells_agg, inside_ret, chk_true, get_eq, get_ne, List.getElem?_cons_zero, List.getElem?_cons_succ, List.set_cons_zero, List.set_cons_succ, List.length_cons, List.length_nil, Int.toNat_natCast, Int.toNat_zero, Nat.zero_add, Nat.add_zero, decide_eq_true_eq, decide_eq_false_iff_not, true_and, and_true, if_true, if_false, true_or, or_true, Bool.false_eq_true, Bool.true_eq_false, Nat.reduceAdd, Nat.reduceLT, wrap_id, wrap_succ, wrap_pred, len22, bgtr3, bleq3, blss3, beql24, beql3, ix22, ldr3, badd3, bneq3, bneq24, bmul3, str3, bsub3, bshl3, bquo3, bd36x0x1x2, len34, ix34, fa36f2, ldr22, fa36f0, fa46f0, bgeq3, fa46f1, beql22s, beql22n, bd46x0x3, fa46f2, str22, fa46f3, fa36f1, cv3x54, bshr54, cv54x3, e1]
    unfold fillD at hres
    subst hres
    exact hK hr _ _ ho
  | succ i ih =>
    intro fu hr out hfu hi hg hbi ho hD hres
    obtain ⟨fu, rfl⟩ : ∃ f, fu = f + 1 := ⟨fu - 1, by omega⟩
    obtain ⟨q1, q2⟩ := hin i (by omega)
    obtain ⟨J, hJ⟩ : ∃ J : Nat, t.into.getD i 0 = (J : Nat) := ⟨(t.into.getD i 0).toNat, by omega⟩
    have g1 : (ints t.into)[i]? = some (.int .i64 ((J : Nat) : Int)) := by rw [ints_at (by omega), hJ]
    have hJT : J < T := by omega
    have hJi : i < J := by omega
    have g2 : (ints out)[J]? = some (.int .i64 (out.getD J 0)) := ints_at (by rw [hD.1]; omega)
    have oJ := hD.2 J hJT
    have e0 : (((i + 1 : Nat) : Int) - 1) = ((i : Nat) : Int) := by omega
    have e1 : (0 : Int) ≤ ((i : Nat) : Int) := by omega
    have hol : out.length = T := hD.1
    have hres' : fillD t.into i (out.set i (out.getD J 0 + 1)) = res := by
      rw [← hres]
      show _ = fillD t.into i (out.set i (out.getD (t.into.getD i 0).toNat 0 + 1))
      rw [hJ]
      rfl
    rw [succB_lens_depths, e0]
    try simp (disch := first | omega | assumption | exact one_int _ _ | exact one_slice _ _ _ | exact one_ptr _ | exact one_bool _ | exact one_string _) only [optK_some_eq, nil2_ptr, ifV_true, ifV_false, run_if, run_out0, run_out1, run_out2, run_out3, optG_some, one_int, one_bool, one_string, one_slice, one_ptr, min2_eq, max2_eq, pick2_eq, u_not, u_neg, cells_agg, inside_ret, chk_true, get_eq, get_ne, List.getElem?_cons_zero, List.getElem?_cons_succ, List.set_cons_zero, List.set_cons_succ, List.length_cons, List.length_nil, Int.toNat_natCast, Int.toNat_zero, Nat.zero_add, Nat.add_zero, decide_eq_true_eq, decide_eq_false_iff_not, true_and, and_true, if_true, if_false, true_or, or_true, Bool.false_eq_true, Bool.true_eq_false, Nat.reduceAdd, Nat.reduceLT, wrap_id, wrap_succ, wrap_pred, len22, bgtr3, bleq3, blss3, beql24, beql3, ix22, ldr3, badd3, bneq3, bneq24, bmul3, str3, bsub3, bshl3, bquo3, bd36x0x1x2, len34, ix34, fa36f2, ldr22, fa36f0, fa46f0, bgeq3, fa46f1, beql22s, beql22n, bd46x0x3, fa46f2, str22, fa46f3, fa36f1, cv3x54, bshr54, cv54x3, e1, hg, hbi, ho, g1, g2, ints_set, ints_len, hol]
    refine ⟨by omega, .inl hn0, ?_⟩
    refine ih fu _ (out.set i (out.getD J 0 + 1)) (by omega) (by omega) (by rw [get_ne _ _ (by omega)]; exact hg) (by rw [get_ne _ _ (by omega)]; exact hbi) (get_eq _ _ _) ?_ hres'
    · refine ⟨by rw [List.length_set]; exact hol, fun j hj => ?_⟩
      rw [getD_setI]
      have := hD.2 j hj
      split
      · rename_i h
        obtain ⟨rfl, _⟩ := h
        omega
      · exact this

set_option maxHeartbeats 2000000 in
theorem s_depths (lf d n : Nat) (h : H) (v : Value) (ws : List Int) (hR : Row h n 3 .i64 v ws) (h2 : 2 ≤ ws.length) (hl : ws.length ≤ 1000) (hlf : 3000000 ≤ lf) (hw : ∀ x ∈ ws, 0 ≤ x) (hS : sumI ws ≤ 1152921504606846976) :
    Run (fun _ => False) n (evCall2 Try.prog gt lf (d + ws.length + 8) 22 #[v]) h n fun v' h' n' => ∃ D, D.Perm (List.range ws.length) ∧ D.Pairwise (RI (keyW ws)) ∧ Row h' n' 3 .i64 v' (depthsP ws D) ∧ ∀ b, InBlk v' b → n ≤ b := by
  rw [sh_lens_depths]
  refine Run.inside_ ?_
  unfold b_lens_depths
  refine run_call okd (s_treesOf lf d n h v ws hR (by omega) (by omega) hlf) (Nat.le_refl n) (fun _ _ h => h.elim) fun v1 h1 n1 hn1 fr1 hq => ?_
  obtain ⟨g, bw, bi, bl, cl, D, rfl, hp, hs, hT, hg0, hw0, hi0, hl0⟩ := hq
  obtain ⟨a, c, rfl⟩ := hR.len
  have w1 : IntKind.i64.wrap (((ws.length : Nat) : Int) - 1) = ((ws.length - 1 : Nat) : Int) := by rw [wrap_id (by omega) (by omega)]; omega
  try simp (disch := first | omega | assumption | exact one_int _ _ | exact one_slice _ _ _ | exact one_ptr _ | exact one_bool _ | exact one_string _) only [optK_some_eq, nil2_ptr, ifV_true, ifV_false, run_if, run_out0, run_out1, run_out2, run_out3, optG_some, one_int, one_bool, one_string, one_slice, one_ptr, min2_eq, max2_eq, pick2_eq, u_not, u_neg, cells_agg, inside_ret, chk_true, get_eq, get_ne, List.getElem?_cons_zero, List.getElem?_cons_succ, List.set_cons_zero, List.set_cons_succ, List.length_cons, List.length_nil, Int.toNat_natCast, Int.toNat_zero, Nat.zero_add, Nat.add_zero, decide_eq_true_eq, decide_eq_false_iff_not, true_and, and_true, if_true, if_false, true_or, or_true, Bool.false_eq_true, Bool.true_eq_false, Nat.reduceAdd, Nat.reduceLT, wrap_id, wrap_succ, wrap_pred, len22, bgtr3, bleq3, blss3, beql24, beql3, ix22, ldr3, badd3, bneq3, bneq24, bmul3, str3, bsub3, bshl3, bquo3, bd36x0x1x2, len34, ix34, fa36f2, ldr22, fa36f0, fa46f0, bgeq3, fa46f1, beql22s, beql22n, bd46x0x3, fa46f2, str22, fa46f3, fa36f1, cv3x54, bshr54, cv54x3, w1]
  refine dpA lf (d + ws.length + 6) n1 ws.length (sumI ws) (Start ws D) g _ _ h2 hl hS _ n (Nat.le_refl n) hg0 (fun hr nr bw' bi' bl' off cl' cs y13 hnr hT' hO hj => ?_) (ws.length - 1) 0 lf h1 n1 bw bi bl 0 cl (nats D) (by omega) (by omega) (by omega) (Nat.le_refl _) (by omega) hw0 hi0 hT (start_ok hp hw rfl) (.inl rfl)
  rw [kcAa_lens_depths]
  have tdef : runH (ws.length - 1) (Start ws D) = treeOf ws D := rfl
  rw [tdef] at hT' hO hj
  obtain ⟨hg', hbw', hbi', hbl', _, _, _, hd'⟩ := hT'
  have hgn : g < nr := hd'.2.2.2.2.2.2.1
  have wl : (treeOf ws D).weight.length = 2 * ws.length - 1 := by rw [hO.wl]; omega
  have il : (treeOf ws D).into.length = 2 * ws.length - 1 := by rw [hO.il]; omega
  have hleft := hO.left
  simp only [List.length_nil] at hleft
  have hlv : (treeOf ws D).leaves = [] := List.eq_nil_of_length_eq_zero (by omega)
  have hjo : (treeOf ws D).joined = 2 * ws.length - 2 := by rw [hlv] at hleft; simp only [List.length_nil] at hleft; omega
  have hin : ∀ i, i < 2 * ws.length - 1 - 1 → (i : Int) < (treeOf ws D).into.getD i 0 ∧ (treeOf ws D).into.getD i 0 < ((2 * ws.length - 1 : Nat) : Int) := fun i hi => by
    have := hO.into i (by omega) (by rw [hlv]; simp) (by omega) (by simp)
    omega
  rw [wl, il] at hg'
  try simp (disch := first | omega | assumption | exact one_int _ _ | exact one_slice _ _ _ | exact one_ptr _ | exact one_bool _ | exact one_string _) only [optK_some_eq, nil2_ptr, ifV_true, ifV_false, run_if, run_out0, run_out1, run_out2, run_out3, optG_some, one_int, one_bool, one_string, one_slice, one_ptr, min2_eq, max2_eq, pick2_eq, u_not, u_neg, cells_agg, inside_ret, chk_true, get_eq, get_ne, List.getElem?_cons_zero, List.getElem?_cons_succ, List.set_cons_zero, List.set_cons_succ, List.length_cons, List.length_nil, Int.toNat_natCast, Int.toNat_zero, Nat.zero_add, Nat.add_zero, decide_eq_true_eq, decide_eq_false_iff_not, true_and, and_true, if_true, if_false, true_or, or_true, Bool.false_eq_true, Bool.true_eq_false, Nat.reduceAdd, Nat.reduceLT, wrap_id, wrap_succ, wrap_pred, len22, bgtr3, bleq3, blss3, beql24, beql3, ix22, ldr3, badd3, bneq3, bneq24, bmul3, str3, bsub3, bshl3, bquo3, bd36x0x1x2, len34, ix34, fa36f2, ldr22, fa36f0, fa46f0, bgeq3, fa46f1, beql22s, beql22n, bd46x0x3, fa46f2, str22, fa46f3, fa36f1, cv3x54, bshr54, cv54x3, hg']
  refine Ev.run_make c1x22 (2 * ws.length - 1) (2 * ws.length - 1) _ (Nat.le_refl _) (by omega) ?_
  have w2 : IntKind.i64.wrap (((2 * ws.length - 1 : Nat) : Int) - 2) = ((2 * ws.length - 2 : Nat) : Int) - 1 := by rw [wrap_id (by omega) (by omega)]; omega
  try simp (disch := first | omega | assumption | exact one_int _ _ | exact one_slice _ _ _ | exact one_ptr _ | exact one_bool _ | exact one_string _) only [optK_some_eq, nil2_ptr, ifV_true, ifV_false, run_if, run_out0, run_out1, run_out2, run_out3, optG_some, one_int, one_bool, one_string, one_slice, one_ptr, min2_eq, max2_eq, pick2_eq, u_not, u_neg, cells_agg, inside_ret, chk_true, get_eq, get_ne, List.getElem?_cons_zero, List.getElem?_cons_succ, List.set_cons_zero, List.set_cons_succ, List.length_cons, List.length_nil, Int.toNat_natCast, Int.toNat_zero, Nat.zero_add, Nat.add_zero, decide_eq_true_eq, decide_eq_false_iff_not, true_and, and_true, if_true, if_false, true_or, or_true, Bool.false_eq_true, Bool.true_eq_false, Nat.reduceAdd, Nat.reduceLT, wrap_id, wrap_succ, wrap_pred, len22, bgtr3, bleq3, blss3, beql24, beql3, ix22, ldr3, badd3, bneq3, bneq24, bmul3, str3, bsub3, bshl3, bquo3, bd36x0x1x2, len34, ix34, fa36f2, ldr22, fa36f0, fa46f0, bgeq3, fa46f1, beql22s, beql22n, bd46x0x3, fa46f2, str22, fa46f3, fa36f1, cv3x54, bshr54, cv54x3, w2]
  have hz : List.replicate (2 * ws.length - 1) (Value.int .i64 0) = ints (List.replicate (2 * ws.length - 1) 0) := by unfold ints; rw [List.map_replicate]
  refine dpB lf (d + ws.length + 7) (nr + 1) ws.length (2 * ws.length - 1) (treeOf ws D) g bi' (CAP + (2 * ws.length - 1)) nr (2 * ws.length - 1) _ _ _ _ _ _ _ _ (by omega) (by omega) il (by omega) (by omega) (by omega) (by omega) hin (by omega) _ (fillD (treeOf ws D).into (2 * ws.length - 2) (List.replicate (2 * ws.length - 1) 0)) (fun hr2 y6 y32 ho => ?_) (2 * ws.length - 2) lf _ (List.replicate (2 * ws.length - 1) 0) (by omega) (by omega) (by rw [get_ne _ _ (by omega)]; exact hg') (by rw [get_ne _ _ (by omega)]; exact hbi') (by rw [get_eq, hz]) ⟨by simp, fun j hj => by rw [List.getD_eq_getElem?_getD, List.getElem?_eq_getElem (by simpa using hj), List.getElem_replicate]; simp⟩ rfl
  rw [kcBa_lens_depths]
  try simp (disch := first | omega | assumption | exact one_int _ _ | exact one_slice _ _ _ | exact one_ptr _ | exact one_bool _ | exact one_string _) only [optK_some_eq, nil2_ptr, ifV_true, ifV_false, run_if, run_out0, run_out1, run_out2, run_out3, optG_some, one_int, one_bool, one_string, one_slice, one_ptr, min2_eq, max2_eq, pick2_eq, u_not, u_neg, cells_agg, inside_ret, chk_true, get_eq, get_ne, List.getElem?_cons_zero, List.getElem?_cons_succ, List.set_cons_zero, List.set_cons_succ, List.length_cons, List.length_nil, Int.toNat_natCast, Int.toNat_zero, Nat.zero_add, Nat.add_zero, decide_eq_true_eq, decide_eq_false_iff_not, true_and, and_true, if_true, if_false, true_or, or_true, Bool.false_eq_true, Bool.true_eq_false, Nat.reduceAdd, Nat.reduceLT, wrap_id, wrap_succ, wrap_pred, len22, bgtr3, bleq3, blss3, beql24, beql3, ix22, ldr3, badd3, bneq3, bneq24, bmul3, str3, bsub3, bshl3, bquo3, bd36x0x1x2, len34, ix34, fa36f2, ldr22, fa36f0, fa46f0, bgeq3, fa46f1, beql22s, beql22n, bd46x0x3, fa46f2, str22, fa46f3, fa36f1, cv3x54, bshr54, cv54x3]
  have lfil : (fillD (treeOf ws D).into (2 * ws.length - 2) (List.replicate (2 * ws.length - 1) 0)).length = 2 * ws.length - 1 := by rw [fillD_len, List.length_replicate]
  refine slice_run c1x22 (l := 0) (hh := ws.length) ho rfl (by omega) 0 (2 * ws.length - 1) (2 * ws.length - 1) _ _ (bound_none _) (bound_nat _ ws.length _) (by omega) (by omega) (by omega) _ ns22 ?_
  try simp (disch := first | omega | assumption | exact one_int _ _ | exact one_slice _ _ _ | exact one_ptr _ | exact one_bool _ | exact one_string _) only [optK_some_eq, nil2_ptr, ifV_true, ifV_false, run_if, run_out0, run_out1, run_out2, run_out3, optG_some, one_int, one_bool, one_string, one_slice, one_ptr, min2_eq, max2_eq, pick2_eq, u_not, u_neg, cells_agg, inside_ret, chk_true, get_eq, get_ne, List.getElem?_cons_zero, List.getElem?_cons_succ, List.set_cons_zero, List.set_cons_succ, List.length_cons, List.length_nil, Int.toNat_natCast, Int.toNat_zero, Nat.zero_add, Nat.add_zero, decide_eq_true_eq, decide_eq_false_iff_not, true_and, and_true, if_true, if_false, true_or, or_true, Bool.false_eq_true, Bool.true_eq_false, Nat.reduceAdd, Nat.reduceLT, wrap_id, wrap_succ, wrap_pred, len22, bgtr3, bleq3, blss3, beql24, beql3, ix22, ldr3, badd3, bneq3, bneq24, bmul3, str3, bsub3, bshl3, bquo3, bd36x0x1x2, len34, ix34, fa36f2, ldr22, fa36f0, fa46f0, bgeq3, fa46f1, beql22s, beql22n, bd46x0x3, fa46f2, str22, fa46f3, fa36f1, cv3x54, bshr54, cv54x3]
  refine ⟨D, hp, hs, .inr ⟨nr, 0, 2 * ws.length - 1, true, _, ?_, ho, by omega, ?_, ?_, ?_⟩, fun b hb => ?_⟩
  · rw [depthsP_len _ _ (by omega)]
    simp
  · rw [depthsP_len _ _ (by omega), ints_len, lfil]; omega
  · rw [depthsP_len _ _ (by omega), List.drop_zero]
    unfold depthsP ints intsV
    rw [List.map_take]
  · rw [depthsP_len _ _ (by omega)]; omega
  · rw [hb.inj]; omega

end Go.Proofs.Ytapdcejhfooahaa

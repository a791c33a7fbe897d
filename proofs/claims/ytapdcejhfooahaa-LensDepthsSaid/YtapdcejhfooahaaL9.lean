/- Trees of weights, by the second form: cloned, made. -/
import Derived.Test.YtapdcejhfooahaaL8
import Derived.Test.YtapdcejhfooahaaEvT
namespace Go.Proofs.Ytapdcejhfooahaa
set_option linter.unusedVariables false
set_option linter.unusedSimpArgs false
open Go.RowKit Ev Hu

theorem s_Clone (lf d n : Nat) (h : H) (v : Value) (xs : List Int) (hR : Row h n 3 .i64 v xs) (h0 : 0 < xs.length) (hl : xs.length ≤ 1000000) :
    Run (fun _ => False) n (evCall2 Try.prog gt lf (d + 1) 23 #[v]) h n fun v' h' n' => (0 < xs.length → Own h' n n' 3 v' (intsV .i64 xs)) ∧ Row h' n' 3 .i64 v' xs ∧ ∀ b, InBlk v' b → n ≤ b := by
  rw [sh_slices_Clone_int_int]
  refine Run.inside_ ?_
  unfold b_slices_Clone_int_int
  rcases hR with ⟨a, c, rfl, _, rfl⟩ | ⟨b, off, cap, o, cs, rfl, hg, hb, hle, ht, hc⟩
  · exact absurd h0 (by simp)
  · try simp (disch := first | omega | assumption | exact one_int _ _ | exact one_slice _ _ _ | exact one_ptr _ | exact one_bool _ | exact one_string _) only [optK_some_eq, nil2_ptr, ifV_true, ifV_false, run_if, run_out0, run_out1, run_out2, run_out3, optG_some, one_int, one_bool, one_string, one_slice, one_ptr, min2_eq, max2_eq, pick2_eq, u_not, u_neg, cells_agg, inside_ret, chk_true, get_eq, get_ne, List.getElem?_cons_zero, List.getElem?_cons_succ, List.set_cons_zero, List.set_cons_succ, List.length_cons, List.length_nil, Int.toNat_natCast, Int.toNat_zero, Nat.zero_add, Nat.add_zero, decide_eq_true_eq, decide_eq_false_iff_not, true_and, and_true, if_true, if_false, true_or, or_true, Bool.false_eq_true, Bool.true_eq_false, Nat.reduceAdd, Nat.reduceLT, wrap_id, wrap_succ, wrap_pred, len22, bgtr3, bleq3, blss3, beql24, beql3, ix22, ldr3, badd3, bneq3, bneq24, bmul3, str3, bsub3, bshl3, bquo3, bd36x0x1x2, len34, ix34, fa36f2, ldr22, fa36f0, fa46f0, bgeq3, fa46f1, beql22s, beql22n, bd46x0x3, fa46f2, str22, fa46f3, fa36f1, cv3x54, bshr54, cv54x3]
    refine run_lit0 c1x22 _ ?_
    have hg' : (h.set n (some ⟨3, true, []⟩)).get b = some ⟨3, o, cs⟩ := by rw [get_ne _ _ (by omega)]; exact hg
    by_cases h00 : xs.length = 0
    · have hx : xs = [] := List.length_eq_zero_iff.1 h00
      subst hx
      refine app_none (news := []) c1x22 rfl _ _ _ _ ?_
      try simp (disch := first | omega | assumption | exact one_int _ _ | exact one_slice _ _ _ | exact one_ptr _ | exact one_bool _ | exact one_string _) only [optK_some_eq, nil2_ptr, ifV_true, ifV_false, run_if, run_out0, run_out1, run_out2, run_out3, optG_some, one_int, one_bool, one_string, one_slice, one_ptr, min2_eq, max2_eq, pick2_eq, u_not, u_neg, cells_agg, inside_ret, chk_true, get_eq, get_ne, List.getElem?_cons_zero, List.getElem?_cons_succ, List.set_cons_zero, List.set_cons_succ, List.length_cons, List.length_nil, Int.toNat_natCast, Int.toNat_zero, Nat.zero_add, Nat.add_zero, decide_eq_true_eq, decide_eq_false_iff_not, true_and, and_true, if_true, if_false, true_or, or_true, Bool.false_eq_true, Bool.true_eq_false, Nat.reduceAdd, Nat.reduceLT, wrap_id, wrap_succ, wrap_pred, len22, bgtr3, bleq3, blss3, beql24, beql3, ix22, ldr3, badd3, bneq3, bneq24, bmul3, str3, bsub3, bshl3, bquo3, bd36x0x1x2, len34, ix34, fa36f2, ldr22, fa36f0, fa46f0, bgeq3, fa46f1, beql22s, beql22n, bd46x0x3, fa46f2, str22, fa46f3, fa36f1, cv3x54, bshr54, cv54x3]
      refine ⟨fun q => absurd q (by simp), .inr ⟨n, 0, 0, true, [], rfl, get_eq _ _ _, by omega, by simp, by simp [intsV], by simp⟩, fun b hb => by rw [hb.inj]; exact Nat.le_refl n⟩
    · have s : Src (h.set n (some ⟨3, true, []⟩)) (n + 1) (.slice (some ⟨b, off, none⟩) xs.length cap) (intsV .i64 xs) := ⟨b, off, cap, _, by rw [intsV_len], hg', by omega, by rw [intsV_len]; exact hle, by rw [intsV_len]; exact ht⟩
      refine app_copy c1x22 s (by rw [intsV_len]; omega) (intsV_one _ _) (get_eq _ _ _) rfl (Nat.lt_succ_self n) 0 0 (by simp) rfl (by rw [intsV_len]; omega) (by unfold CAP; omega) (by rw [intsV_len]; omega) _ ?_
      try simp (disch := first | omega | assumption | exact one_int _ _ | exact one_slice _ _ _ | exact one_ptr _ | exact one_bool _ | exact one_string _) only [optK_some_eq, nil2_ptr, ifV_true, ifV_false, run_if, run_out0, run_out1, run_out2, run_out3, optG_some, one_int, one_bool, one_string, one_slice, one_ptr, min2_eq, max2_eq, pick2_eq, u_not, u_neg, cells_agg, inside_ret, chk_true, get_eq, get_ne, List.getElem?_cons_zero, List.getElem?_cons_succ, List.set_cons_zero, List.set_cons_succ, List.length_cons, List.length_nil, Int.toNat_natCast, Int.toNat_zero, Nat.zero_add, Nat.add_zero, decide_eq_true_eq, decide_eq_false_iff_not, true_and, and_true, if_true, if_false, true_or, or_true, Bool.false_eq_true, Bool.true_eq_false, Nat.reduceAdd, Nat.reduceLT, wrap_id, wrap_succ, wrap_pred, len22, bgtr3, bleq3, blss3, beql24, beql3, ix22, ldr3, badd3, bneq3, bneq24, bmul3, str3, bsub3, bshl3, bquo3, bd36x0x1x2, len34, ix34, fa36f2, ldr22, fa36f0, fa46f0, bgeq3, fa46f1, beql22s, beql22n, bd46x0x3, fa46f2, str22, fa46f3, fa36f1, cv3x54, bshr54, cv54x3]
      have ho : Own ((h.set n (some ⟨3, true, []⟩)).set (n + 1) (some ⟨3, true, [] ++ intsV .i64 xs⟩)) n (n + 1 + 1) 3 (.slice (some ⟨n + 1, 0, none⟩) (intsV .i64 xs).length (CAP + (intsV .i64 xs).length)) (intsV .i64 xs) := .inr ⟨n + 1, rfl, by rw [get_eq]; rfl, by omega, by omega⟩
      exact ⟨fun _ => ho, ho.row, fun b hb => by rw [hb.inj]; omega⟩

/-- while the trees are made -/
structure TrI (h1 hr : H) (n1 nr g : Nat) (wv lv iv : Value) (N i : Nat) : Prop where
  hg : hr.get g = some ⟨46, true, [wv, iv, lv, .int .i64 (N : Nat)]⟩
  keep : ∀ b, b < n1 → b ≠ g → hr.get b = h1.get b
  ol : Own hr n1 nr 3 lv (nats (List.range i))
  oi : Own hr n1 nr 3 iv (ints (List.replicate i (-1)))
  dis : ∀ b, InBlk lv b → ¬ InBlk iv b
  le : n1 ≤ nr
theorem own_one {h : H} {lo n : Nat} {e : TypeId} {v : Value} {cs : List Value} (o : Own h lo n e v cs) : one v = true := by
  rcases o with ⟨rfl, _⟩ | ⟨b, rfl, _⟩ <;> rfl
theorem trA (lf d : Nat) (h1 : H) (n1 g : Nat) (wv : Value) (N : Nat) (x0 x1 x2 : Value) (hg : g < n1) (hN : N ≤ 1000000) {W : Nat → Prop} {n0 : Nat} (hn0 : n0 ≤ g) {R : Value → H → Nat → Prop} (k : Ex → Fr → M Value)
    (hK : ∀ hr nr lv iv y14, TrI h1 hr n1 nr g wv lv iv N N → Run W n0 (k (Ex.exit 0) [(0, x0), (1, x1), (2, x2), (3, .pointer (some ⟨g, 0, none⟩)), (12, .int .i64 (N : Nat)), (13, .int .i64 (N : Nat)), (14, y14)]) hr nr R) :
    ∀ (m i fu : Nat) (hr : H) (nr : Nat) (lv iv : Value), N - i ≤ m → m < fu → i ≤ N → TrI h1 hr n1 nr g wv lv iv N i →
      Run W n0 (lpA_lens_treesOf lf d fu k x0 x1 x2 (.pointer (some ⟨g, 0, none⟩)) (.int .i64 (N : Nat)) (.int .i64 (i : Nat))) hr nr R := by
  intro m
  induction m with
  | zero =>
    intro i fu hr nr lv iv hm hfu hi hT
    obtain ⟨fu, rfl⟩ : ∃ f, fu = f + 1 := ⟨fu - 1, by omega⟩
    obtain rfl : i = N := by omega
    rw [succA_lens_treesOf]
    try simp (disch := first | omega | assumption | exact one_int _ _ | exact one_slice _ _ _ | exact one_ptr _ | exact one_bool _ | exact one_string _) only [optK_some_eq, nil2_ptr, ifV_true, ifV_false, run_if, run_out0, run_out1, run_out2, run_out3, optG_some, one_int, one_bool, one_string, one_slice, one_ptr, min2_eq, max2_eq, pick2_eq, u_not, u_neg, cells_agg, inside_ret, chk_true, get_eq, get_ne, List.getElem?_cons_zero, List.getElem?_cons_succ, List.set_cons_zero, List.set_cons_succ, List.length_cons, List.length_nil, Int.toNat_natCast, Int.toNat_zero, Nat.zero_add, Nat.add_zero, decide_eq_true_eq, decide_eq_false_iff_not, true_and, and_true, if_true, if_false, true_or, or_true, Bool.false_eq_true, Bool.true_eq_false, Nat.reduceAdd, Nat.reduceLT, wrap_id, wrap_succ, wrap_pred, len22, bgtr3, bleq3, blss3, beql24, beql3, ix22, ldr3, badd3, bneq3, bneq24, bmul3, str3, bsub3, bshl3, bquo3, bd36x0x1x2, len34, ix34, fa36f2, ldr22, fa36f0, fa46f0, bgeq3, fa46f1, beql22s, beql22n, bd46x0x3, fa46f2, str22, fa46f3, fa36f1, cv3x54, bshr54, cv54x3, Int.lt_irrefl]
    exact hK hr nr lv iv _ hT
  | succ m ih =>
    intro i fu hr nr lv iv hm hfu hi hT
    obtain ⟨fu, rfl⟩ : ∃ f, fu = f + 1 := ⟨fu - 1, by omega⟩
    rw [succA_lens_treesOf]
    by_cases hlt : i < N
    · have e1 : ((i : Nat) : Int) < ((N : Nat) : Int) := by omega
      obtain ⟨c0, hkp, hol, hoi, hdis, hle⟩ := hT
      have hgr : g < nr := by omega
      try simp (disch := first | omega | assumption | exact one_int _ _ | exact one_slice _ _ _ | exact one_ptr _ | exact one_bool _ | exact one_string _) only [optK_some_eq, nil2_ptr, ifV_true, ifV_false, run_if, run_out0, run_out1, run_out2, run_out3, optG_some, one_int, one_bool, one_string, one_slice, one_ptr, min2_eq, max2_eq, pick2_eq, u_not, u_neg, cells_agg, inside_ret, chk_true, get_eq, get_ne, List.getElem?_cons_zero, List.getElem?_cons_succ, List.set_cons_zero, List.set_cons_succ, List.length_cons, List.length_nil, Int.toNat_natCast, Int.toNat_zero, Nat.zero_add, Nat.add_zero, decide_eq_true_eq, decide_eq_false_iff_not, true_and, and_true, if_true, if_false, true_or, or_true, Bool.false_eq_true, Bool.true_eq_false, Nat.reduceAdd, Nat.reduceLT, wrap_id, wrap_succ, wrap_pred, len22, bgtr3, bleq3, blss3, beql24, beql3, ix22, ldr3, badd3, bneq3, bneq24, bmul3, str3, bsub3, bshl3, bquo3, bd36x0x1x2, len34, ix34, fa36f2, ldr22, fa36f0, fa46f0, bgeq3, fa46f1, beql22s, beql22n, bd46x0x3, fa46f2, str22, fa46f3, fa36f1, cv3x54, bshr54, cv54x3, e1, c0]
      refine run_pushO c1x22 (one_int _ _) hol (by rw [nats_len]; simp; omega) (by omega) _ (fun h2 hg2 hk2 => ?_)
      have hgl : ∀ b, InBlk lv b → b ≠ g := fun b hb => by have := (hol.lt hb).1; omega
      have c2 : h2.get g = some ⟨46, true, [wv, iv, lv, .int .i64 (N : Nat)]⟩ := by rw [hk2 g (by omega) (fun hb => hgl g hb rfl)]; exact c0
      try simp (disch := first | omega | assumption | exact one_int _ _ | exact one_slice _ _ _ | exact one_ptr _ | exact one_bool _ | exact one_string _) only [optK_some_eq, nil2_ptr, ifV_true, ifV_false, run_if, run_out0, run_out1, run_out2, run_out3, optG_some, one_int, one_bool, one_string, one_slice, one_ptr, min2_eq, max2_eq, pick2_eq, u_not, u_neg, cells_agg, inside_ret, chk_true, get_eq, get_ne, List.getElem?_cons_zero, List.getElem?_cons_succ, List.set_cons_zero, List.set_cons_succ, List.length_cons, List.length_nil, Int.toNat_natCast, Int.toNat_zero, Nat.zero_add, Nat.add_zero, decide_eq_true_eq, decide_eq_false_iff_not, true_and, and_true, if_true, if_false, true_or, or_true, Bool.false_eq_true, Bool.true_eq_false, Nat.reduceAdd, Nat.reduceLT, wrap_id, wrap_succ, wrap_pred, len22, bgtr3, bleq3, blss3, beql24, beql3, ix22, ldr3, badd3, bneq3, bneq24, bmul3, str3, bsub3, bshl3, bquo3, bd36x0x1x2, len34, ix34, fa36f2, ldr22, fa36f0, fa46f0, bgeq3, fa46f1, beql22s, beql22n, bd46x0x3, fa46f2, str22, fa46f3, fa36f1, cv3x54, bshr54, cv54x3, c2]
      refine ⟨.inl (by omega), ?_⟩
      have hoi2 : Own (h2.set g (some ⟨46, true, [wv, iv, .slice (some ⟨nr + 1, 0, none⟩) ((nats (List.range i)).length + 1) (CAP + ((nats (List.range i)).length + 1)), .int .i64 (N : Nat)]⟩)) n1 (nr + 2) 3 iv (ints (List.replicate i (-1))) := hoi.keep (by omega) fun b hb => by
        have := hoi.lt hb
        rw [get_ne _ _ (by omega)]
        exact hk2 b (by omega) (fun q => hdis b q hb)
      refine run_pushO c1x22 (one_int _ _) hoi2 (by rw [ints_len]; simp; omega) (by omega) _ (fun h3 hg3 hk3 => ?_)
      have hgi : ∀ b, InBlk iv b → b ≠ g := fun b hb => by have := (hoi.lt hb).1; omega
      have c3 : h3.get g = some ⟨46, true, [wv, iv, .slice (some ⟨nr + 1, 0, none⟩) ((nats (List.range i)).length + 1) (CAP + ((nats (List.range i)).length + 1)), .int .i64 (N : Nat)]⟩ := by
        rw [hk3 g (by omega) (fun hb => hgi g hb rfl), get_eq]
      try simp (disch := first | omega | assumption | exact one_int _ _ | exact one_slice _ _ _ | exact one_ptr _ | exact one_bool _ | exact one_string _) only [optK_some_eq, nil2_ptr, ifV_true, ifV_false, run_if, run_out0, run_out1, run_out2, run_out3, optG_some, one_int, one_bool, one_string, one_slice, one_ptr, min2_eq, max2_eq, pick2_eq, u_not, u_neg, cells_agg, inside_ret, chk_true, get_eq, get_ne, List.getElem?_cons_zero, List.getElem?_cons_succ, List.set_cons_zero, List.set_cons_succ, List.length_cons, List.length_nil, Int.toNat_natCast, Int.toNat_zero, Nat.zero_add, Nat.add_zero, decide_eq_true_eq, decide_eq_false_iff_not, true_and, and_true, if_true, if_false, true_or, or_true, Bool.false_eq_true, Bool.true_eq_false, Nat.reduceAdd, Nat.reduceLT, wrap_id, wrap_succ, wrap_pred, len22, bgtr3, bleq3, blss3, beql24, beql3, ix22, ldr3, badd3, bneq3, bneq24, bmul3, str3, bsub3, bshl3, bquo3, bd36x0x1x2, len34, ix34, fa36f2, ldr22, fa36f0, fa46f0, bgeq3, fa46f1, beql22s, beql22n, bd46x0x3, fa46f2, str22, fa46f3, fa36f1, cv3x54, bshr54, cv54x3, c3]
      refine ⟨.inl (by omega), ?_⟩
      have w1 : ((i : Nat) : Int) + 1 = ((i + 1 : Nat) : Int) := by omega
      rw [w1]
      refine ih (i + 1) fu _ _ _ _ (by omega) (by omega) (by omega) ⟨by rw [get_eq], fun b hb hbg => ?_, ?_, ?_, fun b hb q => ?_, by omega⟩
      · rw [get_ne _ _ hbg, hk3 b (by omega) (fun q => by have := (hoi.lt q).1; omega), get_ne _ _ hbg, hk2 b (by omega) (fun q => by have := (hol.lt q).1; omega)]
        exact hkp b hb hbg
      · have : nats (List.range (i + 1)) = nats (List.range i) ++ [.int .i64 (i : Nat)] := by unfold nats; rw [List.range_succ, List.map_append]; rfl
        rw [this]
        refine Own.mk' ?_ (by omega) (by omega) (by simp)
        rw [get_ne _ _ (by omega), hk3 _ (by omega) (fun q => by have := (hoi.lt q).2; omega), get_ne _ _ (by omega)]
        exact hg2
      · have : ints (List.replicate (i + 1) (-1)) = ints (List.replicate i (-1)) ++ [.int .i64 (-1)] := by unfold ints; rw [List.replicate_succ', List.map_append]; rfl
        rw [this]
        refine Own.mk' ?_ (by omega) (by omega) (by simp)
        rw [get_ne _ _ (by omega)]
        exact hg3
      · rw [hb.inj] at q
        have := q.inj
        omega
    · obtain rfl : i = N := by omega
      try simp (disch := first | omega | assumption | exact one_int _ _ | exact one_slice _ _ _ | exact one_ptr _ | exact one_bool _ | exact one_string _) only [optK_some_eq, nil2_ptr, ifV_true, ifV_false, run_if, run_out0, run_out1, run_out2, run_out3, optG_some, one_int, one_bool, one_string, one_slice, one_ptr, min2_eq, max2_eq, pick2_eq, u_not, u_neg, cells_agg, inside_ret, chk_true, get_eq, get_ne, List.getElem?_cons_zero, List.getElem?_cons_succ, List.set_cons_zero, List.set_cons_succ, List.length_cons, List.length_nil, Int.toNat_natCast, Int.toNat_zero, Nat.zero_add, Nat.add_zero, decide_eq_true_eq, decide_eq_false_iff_not, true_and, and_true, if_true, if_false, true_or, or_true, Bool.false_eq_true, Bool.true_eq_false, Nat.reduceAdd, Nat.reduceLT, wrap_id, wrap_succ, wrap_pred, len22, bgtr3, bleq3, blss3, beql24, beql3, ix22, ldr3, badd3, bneq3, bneq24, bmul3, str3, bsub3, bshl3, bquo3, bd36x0x1x2, len34, ix34, fa36f2, ldr22, fa36f0, fa46f0, bgeq3, fa46f1, beql22s, beql22n, bd46x0x3, fa46f2, str22, fa46f3, fa36f1, cv3x54, bshr54, cv54x3, Int.lt_irrefl]
      exact hK hr nr lv iv _ hT

/-- the trees of weights by themselves, in order -/
def Start (ws : List Int) (D : List Nat) : HT := { weight := ws, into := List.replicate ws.length (-1), leaves := D, joined := ws.length }
set_option maxHeartbeats 1000000 in
theorem s_treesOf (lf d n : Nat) (h : H) (v : Value) (ws : List Int) (hR : Row h n 3 .i64 v ws) (h1 : 1 ≤ ws.length) (hl : ws.length ≤ 1000000) (hlf : 3000000 ≤ lf) :
    Run (fun _ => False) n (evCall2 Try.prog gt lf (d + ws.length + 7) 28 #[v]) h n fun v' h' n' => ∃ g bw bi bl cl D, v' = .pointer (some ⟨g, 0, none⟩) ∧ D.Perm (List.range ws.length) ∧ D.Pairwise (RI (keyW ws)) ∧ TreesAt h' n' g (Start ws D) bw bi bl 0 cl (nats D) ∧ n ≤ g ∧ n ≤ bw ∧ n ≤ bi ∧ n ≤ bl := by
  have hR0 := hR
  obtain ⟨b, off, cap, o, cs, rfl, hg, hb, hle, ht, hc, hat⟩ := hR.some (by omega)
  rw [sh_lens_treesOf]
  refine Run.inside_ ?_
  unfold b_lens_treesOf
  refine run_box sz22 _ _ ?_
  obtain ⟨h2, hh2⟩ : ∃ h2, h.set n (some ⟨22, true, (Value.slice (some ⟨b, off, none⟩) ws.length cap).cells.toList⟩) = h2 := ⟨_, rfl⟩
  have p2 : h2.get n = some ⟨22, true, [.slice (some ⟨b, off, none⟩) ws.length cap]⟩ := by rw [← hh2, get_eq]; rfl
  have k2 : ∀ c, c < n → h2.get c = h.get c := fun c hc => by rw [← hh2, get_ne _ _ (by omega)]
  rw [hh2]
  have hR2 : Row h2 (n + 1) 3 .i64 (.slice (some ⟨b, off, none⟩) ws.length cap) ws := hR0.keep (by omega) k2
  refine timed_ld ag22 n 0 _ p2 (by omega) rfl ?_
  refine timed_call okd (s_Clone lf (d + ws.length + 5) (n + 1) h2 _ ws hR2 (by omega) hl) (by omega) (fun _ _ h => h.elim) fun v3 h3 n3 L hn3 fr3 q3 hL1 hL2 => ?_
  obtain ⟨q3, _, _⟩ := q3
  have ow3 := q3 (by omega)
  obtain ⟨bw, rfl⟩ : ∃ bw, v3 = .slice (some ⟨bw, 0, none⟩) ws.length (CAP + ws.length) := by
    rcases ow3 with ⟨_, q⟩ | ⟨bw, q, _⟩
    · have := congrArg List.length q
      rw [intsV_len] at this; simp only [List.length_nil] at this; omega
    · rw [intsV_len] at q
      exact ⟨bw, q⟩
  have hbw := ow3.lt ⟨_, _, _, rfl⟩
  have gbw : h3.get bw = some ⟨3, true, ints ws⟩ := by
    rcases ow3 with ⟨q, _⟩ | ⟨c, q, hq, _⟩
    · cases q
    · injection q with q; injection q with q; injection q with q
      rw [q]; exact hq
  have p3 : h3.get n = some ⟨22, true, [.slice (some ⟨b, off, none⟩) ws.length cap]⟩ := by rw [fr3 n (by omega) (fun q => q)]; exact p2
  refine timed_ld ag22 n 0 _ p3 (by omega) rfl ?_
  try simp (disch := first | omega | assumption | exact one_int _ _ | exact one_slice _ _ _ | exact one_ptr _ | exact one_bool _ | exact one_string _) only [optK_some_eq, nil2_ptr, ifV_true, ifV_false, run_if, run_out0, run_out1, run_out2, run_out3, optG_some, one_int, one_bool, one_string, one_slice, one_ptr, min2_eq, max2_eq, pick2_eq, u_not, u_neg, cells_agg, inside_ret, chk_true, get_eq, get_ne, List.getElem?_cons_zero, List.getElem?_cons_succ, List.set_cons_zero, List.set_cons_succ, List.length_cons, List.length_nil, Int.toNat_natCast, Int.toNat_zero, Nat.zero_add, Nat.add_zero, decide_eq_true_eq, decide_eq_false_iff_not, true_and, and_true, if_true, if_false, true_or, or_true, Bool.false_eq_true, Bool.true_eq_false, Nat.reduceAdd, Nat.reduceLT, wrap_id, wrap_succ, wrap_pred, len22, bgtr3, bleq3, blss3, beql24, beql3, ix22, ldr3, badd3, bneq3, bneq24, bmul3, str3, bsub3, bshl3, bquo3, bd36x0x1x2, len34, ix34, fa36f2, ldr22, fa36f0, fa46f0, bgeq3, fa46f1, beql22s, beql22n, bd46x0x3, fa46f2, str22, fa46f3, fa36f1, cv3x54, bshr54, cv54x3]
  refine timed_box sz46 _ _ ?_
  have hcl : Tk.clash ⟨n + 1, n3, L⟩ ⟨n3, n3, [⟨false, n, some 0⟩]⟩ = false := clash_call_ld (fun e he => by
    cases hw : e.wr with
    | false => rfl
    | true => exact (hL2 e he hw).elim) (by show n < n + 1; omega)
  simp only [hcl, Bool.not_false, Bool.and_self, chk_true]
  obtain ⟨h4, hh4⟩ : ∃ h4, h3.set n3 (some ⟨46, true, (Value.agg #[.slice (some ⟨bw, 0, none⟩) ws.length (CAP + ws.length), .slice none 0 0, .slice none 0 0, .int .i64 (ws.length : Nat)]).cells.toList⟩) = h4 := ⟨_, rfl⟩
  rw [hh4]
  have g4 : h4.get n3 = some ⟨46, true, [.slice (some ⟨bw, 0, none⟩) ws.length (CAP + ws.length), .slice none 0 0, .slice none 0 0, .int .i64 (ws.length : Nat)]⟩ := by rw [← hh4, get_eq]; rfl
  have k4 : ∀ c, c < n3 → h4.get c = h3.get c := fun c hc => by rw [← hh4, get_ne _ _ (by omega)]
  have p4 : h4.get n = some ⟨22, true, [.slice (some ⟨b, off, none⟩) ws.length cap]⟩ := by rw [k4 n (by omega)]; exact p3
  try simp (disch := first | omega | assumption | exact one_int _ _ | exact one_slice _ _ _ | exact one_ptr _ | exact one_bool _ | exact one_string _) only [optK_some_eq, nil2_ptr, ifV_true, ifV_false, run_if, run_out0, run_out1, run_out2, run_out3, optG_some, one_int, one_bool, one_string, one_slice, one_ptr, min2_eq, max2_eq, pick2_eq, u_not, u_neg, cells_agg, inside_ret, chk_true, get_eq, get_ne, List.getElem?_cons_zero, List.getElem?_cons_succ, List.set_cons_zero, List.set_cons_succ, List.length_cons, List.length_nil, Int.toNat_natCast, Int.toNat_zero, Nat.zero_add, Nat.add_zero, decide_eq_true_eq, decide_eq_false_iff_not, true_and, and_true, if_true, if_false, true_or, or_true, Bool.false_eq_true, Bool.true_eq_false, Nat.reduceAdd, Nat.reduceLT, wrap_id, wrap_succ, wrap_pred, len22, bgtr3, bleq3, blss3, beql24, beql3, ix22, ldr3, badd3, bneq3, bneq24, bmul3, str3, bsub3, bshl3, bquo3, bd36x0x1x2, len34, ix34, fa36f2, ldr22, fa36f0, fa46f0, bgeq3, fa46f1, beql22s, beql22n, bd46x0x3, fa46f2, str22, fa46f3, fa36f1, cv3x54, bshr54, cv54x3, p4]
  refine trA lf (d + ws.length + 6) h4 (n3 + 1) n3 (.slice (some ⟨bw, 0, none⟩) ws.length (CAP + ws.length)) ws.length _ _ _ (by omega) hl (by omega) _ (fun hr nr lv iv y14 hT => ?_) ws.length 0 lf h4 (n3 + 1) (.slice none 0 0) (.slice none 0 0) (by omega) (by omega) (Nat.zero_le _) ⟨g4, fun b _ _ => rfl, Own.nil _ _ _ _, Own.nil _ _ _ _, fun b hb => hb.not_nil.elim, Nat.le_refl _⟩
  rw [kcAa_lens_treesOf]
  obtain ⟨c0, hkp, hol, hoi, hdis, hle2⟩ := hT
  obtain ⟨bl, rfl, gl, hl1, hl2⟩ : ∃ bl, lv = .slice (some ⟨bl, 0, none⟩) ws.length (CAP + ws.length) ∧ hr.get bl = some ⟨3, true, nats (List.range ws.length)⟩ ∧ n3 + 1 ≤ bl ∧ bl < nr := by
    rcases hol with ⟨_, q⟩ | ⟨bl, q, hq, a, c⟩
    · have := congrArg List.length q
      rw [nats_len, List.length_range] at this; simp only [List.length_nil] at this; omega
    · rw [nats_len, List.length_range] at q
      exact ⟨bl, q, hq, a, c⟩
  obtain ⟨bi, rfl, gi, hi1, hi2⟩ : ∃ bi, iv = .slice (some ⟨bi, 0, none⟩) ws.length (CAP + ws.length) ∧ hr.get bi = some ⟨3, true, ints (List.replicate ws.length (-1))⟩ ∧ n3 + 1 ≤ bi ∧ bi < nr := by
    rcases hoi with ⟨_, q⟩ | ⟨bl, q, hq, a, c⟩
    · have := congrArg List.length q
      rw [ints_len, List.length_replicate] at this; simp only [List.length_nil] at this; omega
    · rw [ints_len, List.length_replicate] at q
      exact ⟨bl, q, hq, a, c⟩
  have hbli : bl ≠ bi := fun e => hdis bl ⟨_, _, _, rfl⟩ ⟨0, _, _, by rw [e]⟩
  have gnr : n3 < nr := by omega
  try simp (disch := first | omega | assumption | exact one_int _ _ | exact one_slice _ _ _ | exact one_ptr _ | exact one_bool _ | exact one_string _) only [optK_some_eq, nil2_ptr, ifV_true, ifV_false, run_if, run_out0, run_out1, run_out2, run_out3, optG_some, one_int, one_bool, one_string, one_slice, one_ptr, min2_eq, max2_eq, pick2_eq, u_not, u_neg, cells_agg, inside_ret, chk_true, get_eq, get_ne, List.getElem?_cons_zero, List.getElem?_cons_succ, List.set_cons_zero, List.set_cons_succ, List.length_cons, List.length_nil, Int.toNat_natCast, Int.toNat_zero, Nat.zero_add, Nat.add_zero, decide_eq_true_eq, decide_eq_false_iff_not, true_and, and_true, if_true, if_false, true_or, or_true, Bool.false_eq_true, Bool.true_eq_false, Nat.reduceAdd, Nat.reduceLT, wrap_id, wrap_succ, wrap_pred, len22, bgtr3, bleq3, blss3, beql24, beql3, ix22, ldr3, badd3, bneq3, bneq24, bmul3, str3, bsub3, bshl3, bquo3, bd36x0x1x2, len34, ix34, fa36f2, ldr22, fa36f0, fa46f0, bgeq3, fa46f1, beql22s, beql22n, bd46x0x3, fa46f2, str22, fa46f3, fa36f1, cv3x54, bshr54, cv54x3, c0]
  have pr : hr.get n = some ⟨22, true, [.slice (some ⟨b, off, none⟩) ws.length cap]⟩ := by rw [hkp n (by omega) (by omega)]; exact p4
  have br : hr.get b = some ⟨3, o, cs⟩ := by rw [hkp b (by omega) (by omega), k4 b (by omega), fr3 b (by omega) (fun q => q), k2 b hb]; exact hg
  have wr : hr.get bw = some ⟨3, true, ints ws⟩ := by rw [hkp bw (by omega) (by omega), k4 bw (by omega)]; exact gbw
  have env : EnvT hr nr bl n ws := ⟨⟨b, off, cap, _, _, _, _, cs, pr, br, by omega, by omega, hat⟩, by omega, by omega⟩
  refine run_call okd (s_SortStable lf bl (CAP + ws.length) n ws.length ws hlf hl d nr hr (List.range ws.length) (by simp) env hl2 (fun z hz => List.mem_range.1 hz) List.pairwise_lt_range gl) (by omega) (fun c _ hc => .inl (by omega)) fun v5 h5 n5 _ _ hq => ?_
  obtain ⟨rfl, D, hp, hs, hA⟩ := hq
  try simp (disch := first | omega | assumption | exact one_int _ _ | exact one_slice _ _ _ | exact one_ptr _ | exact one_bool _ | exact one_string _) only [optK_some_eq, nil2_ptr, ifV_true, ifV_false, run_if, run_out0, run_out1, run_out2, run_out3, optG_some, one_int, one_bool, one_string, one_slice, one_ptr, min2_eq, max2_eq, pick2_eq, u_not, u_neg, cells_agg, inside_ret, chk_true, get_eq, get_ne, List.getElem?_cons_zero, List.getElem?_cons_succ, List.set_cons_zero, List.set_cons_succ, List.length_cons, List.length_nil, Int.toNat_natCast, Int.toNat_zero, Nat.zero_add, Nat.add_zero, decide_eq_true_eq, decide_eq_false_iff_not, true_and, and_true, if_true, if_false, true_or, or_true, Bool.false_eq_true, Bool.true_eq_false, Nat.reduceAdd, Nat.reduceLT, wrap_id, wrap_succ, wrap_pred, len22, bgtr3, bleq3, blss3, beql24, beql3, ix22, ldr3, badd3, bneq3, bneq24, bmul3, str3, bsub3, bshl3, bquo3, bd36x0x1x2, len34, ix34, fa36f2, ldr22, fa36f0, fa46f0, bgeq3, fa46f1, beql22s, beql22n, bd46x0x3, fa46f2, str22, fa46f3, fa36f1, cv3x54, bshr54, cv54x3]
  refine ⟨n3, bw, bi, bl, CAP + ws.length, D, rfl, hp, hs, ⟨?_, ?_, ?_, hA.1, ?_, ?_, ?_, by omega⟩, by omega, by omega, by omega, by omega⟩
  · rw [hA.2 n3 (by omega), c0]
    have := hp.length_eq
    simp at this
    simp [Start, this]
  · rw [hA.2 bw (by omega)]; exact wr
  · rw [hA.2 bi (fun e => hbli e.symm)]; exact gi
  · rw [nats_len]; exact Nat.le_of_eq (Nat.zero_add _)
  · rw [List.drop_zero]
    show (nats D).take D.length = nats D
    rw [List.take_of_length_le (by rw [nats_len]; exact Nat.le_refl _)]
  · have := hp.length_eq
    simp at this
    show D.length ≤ _
    omega

end Go.Proofs.Ytapdcejhfooahaa

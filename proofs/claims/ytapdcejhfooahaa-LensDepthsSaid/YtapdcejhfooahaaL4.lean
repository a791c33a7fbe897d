/- The library's swap of two stretches and its rotation, by the second form. -/
import Derived.Test.YtapdcejhfooahaaL3
namespace Go.Proofs.Ytapdcejhfooahaa
set_option linter.unusedVariables false
set_option linter.unusedSimpArgs false
open Go.RowKit Ev Hu

theorem At.trans {h h1 h2 : H} {g : Nat} {xs ys : List Nat} (a : At h h1 g xs) (b : At h1 h2 g ys) : At h h2 g ys := ⟨b.1, fun c hc => (b.2 c hc).trans (a.2 c hc)⟩
theorem swA (lf d g n cap : Nat) (h : H) (P Z Q : List Nat) (U V : List Nat) (N : Nat) (hN : (P ++ U ++ Z ++ V ++ Q).length = N) (hNb : N ≤ 1000000) (hg : g < n) {W : Nat → Prop} {n0 : Nat} (hW : n0 ≤ g ∨ W g) {R : Value → H → Nat → Prop} (k : Ex → Fr → M Value)
    (hK : ∀ hr y13 y10, At h hr g (P ++ V ++ Z ++ U ++ Q) → Run W n0 (k (Ex.exit 0) [(0, .slice (some ⟨g, 0, none⟩) N cap), (1, .int .i64 (P.length : Nat)), (2, .int .i64 ((P.length + U.length + Z.length : Nat) : Int)), (3, .int .i64 (U.length : Nat)), (10, y10), (13, y13)]) hr n R) :
    ∀ (U2 V2 U1 V1 : List Nat) (fu : Nat) (hr : H), U2.length < fu → U2.length = V2.length → U1.length = V1.length → U1 ++ U2 = U → V1 ++ V2 = V → At h hr g (P ++ V1 ++ U2 ++ Z ++ U1 ++ V2 ++ Q) →
      Run W n0 (lpA_slices_swapRangeCmpFunc_int lf d fu k (.slice (some ⟨g, 0, none⟩) N cap) (.int .i64 (P.length : Nat)) (.int .i64 ((P.length + U.length + Z.length : Nat) : Int)) (.int .i64 (U.length : Nat)) (.int .i64 (U1.length : Nat))) hr n R := by
  intro U2
  induction U2 with
  | nil =>
    intro V2 U1 V1 fu hr hfu h1 h2 e1 e2 hA
    obtain ⟨fu, rfl⟩ : ∃ f, fu = f + 1 := ⟨fu - 1, by simp at hfu; omega⟩
    have : V2 = [] := List.length_eq_zero_iff.1 h1.symm
    subst this
    rw [List.append_nil] at e1 e2
    subst e1 e2
    rw [succA_slices_swapRangeCmpFunc_int]
    try simp (disch := first | omega | assumption | exact one_int _ _ | exact one_slice _ _ _ | exact one_ptr _ | exact one_bool _ | exact one_string _) only [optK_some_eq, nil2_ptr, ifV_true, ifV_false, run_if, run_out0, run_out1, run_out2, run_out3, optG_some, one_int, one_bool, one_string, one_slice, one_ptr, min2_eq, max2_eq, pick2_eq, u_not, u_neg, cells_agg, inside_ret, chk_true, get_eq, get_ne, List.getElem?_cons_zero, List.getElem?_cons_succ, List.set_cons_zero, List.set_cons_succ, List.length_cons, List.length_nil, Int.toNat_natCast, Int.toNat_zero, Nat.zero_add, Nat.add_zero, decide_eq_true_eq, decide_eq_false_iff_not, true_and, and_true, if_true, if_false, true_or, or_true, Bool.false_eq_true, Bool.true_eq_false, Nat.reduceAdd, Nat.reduceLT, wrap_id, wrap_succ, wrap_pred, len22, bgtr3, bleq3, blss3, beql24, beql3, ix22, ldr3, badd3, bneq3, bneq24, bmul3, str3, bsub3, bshl3, bquo3, bd36x0x1x2, len34, ix34, fa36f2, ldr22, fa36f0, fa46f0, bgeq3, fa46f1, beql22s, beql22n, bd46x0x3, fa46f2, str22, fa46f3, fa36f1, cv3x54, bshr54, cv54x3, Int.lt_irrefl]
    exact hK hr _ _ (by simpa using hA)
  | cons u U2 ih =>
    intro V2 U1 V1 fu hr hfu h1 h2 e1 e2 hA
    obtain ⟨fu, rfl⟩ : ∃ f, fu = f + 1 := ⟨fu - 1, by omega⟩
    obtain ⟨v, V2, rfl⟩ : ∃ v V3, V2 = v :: V3 := by
      cases V2 with
      | nil => simp at h1
      | cons x Y => exact ⟨x, Y, rfl⟩
    have l1 := congrArg List.length e1
    have l2 := congrArg List.length e2
    simp only [List.length_append, List.length_cons] at l1 l2 h1 hN hfu
    have b1 : ((U1.length : Nat) : Int) < ((U.length : Nat) : Int) := by omega
    have s1 : P ++ V1 ++ u :: U2 ++ Z ++ U1 ++ v :: V2 ++ Q = (P ++ V1) ++ u :: (U2 ++ Z ++ U1 ++ v :: V2 ++ Q) := by simp
    have s2 : P ++ V1 ++ u :: U2 ++ Z ++ U1 ++ v :: V2 ++ Q = (P ++ V1 ++ u :: U2 ++ Z ++ U1) ++ v :: (V2 ++ Q) := by simp
    have s3 : (P ++ V1) ++ v :: (U2 ++ Z ++ U1 ++ v :: V2 ++ Q) = (P ++ V1 ++ v :: U2 ++ Z ++ U1) ++ v :: (V2 ++ Q) := by simp
    have hl : (P ++ V1 ++ u :: U2 ++ Z ++ U1 ++ v :: V2 ++ Q).length = N := by simp only [List.length_append, List.length_cons]; omega
    have w1 : IntKind.i64.wrap (((P.length : Nat) : Int) + ((U1.length : Nat) : Int)) = ((P.length + U1.length : Nat) : Int) := by rw [wrap_id (by omega) (by omega)]; omega
    have w2 : IntKind.i64.wrap (((P.length + U.length + Z.length : Nat) : Int) + ((U1.length : Nat) : Int)) = ((P.length + U.length + Z.length + U1.length : Nat) : Int) := by rw [wrap_id (by omega) (by omega)]; omega
    have g1 : (nats (P ++ V1 ++ u :: U2 ++ Z ++ U1 ++ v :: V2 ++ Q))[P.length + U1.length]? = some (.int .i64 (u : Nat)) := by
      rw [nats_get (by omega), s1, getD_at _ _ _ _ (by simp; omega)]
    have g2 : (nats (P ++ V1 ++ u :: U2 ++ Z ++ U1 ++ v :: V2 ++ Q))[P.length + U.length + Z.length + U1.length]? = some (.int .i64 (v : Nat)) := by
      rw [nats_get (by omega), s2, getD_at _ _ _ _ (by simp; omega)]
    have hset : ((P ++ V1 ++ u :: U2 ++ Z ++ U1 ++ v :: V2 ++ Q).set (P.length + U1.length) v).set (P.length + U.length + Z.length + U1.length) u = P ++ (V1 ++ [v]) ++ U2 ++ Z ++ (U1 ++ [u]) ++ V2 ++ Q := by
      rw [s1, set_at _ _ _ _ _ (by simp; omega), s3, set_at _ _ _ _ _ (by simp; omega)]
      simp
    have c0 := hA.1
    rw [succA_slices_swapRangeCmpFunc_int]
    try simp (disch := first | omega | assumption | exact one_int _ _ | exact one_slice _ _ _ | exact one_ptr _ | exact one_bool _ | exact one_string _) only [optK_some_eq, nil2_ptr, ifV_true, ifV_false, run_if, run_out0, run_out1, run_out2, run_out3, optG_some, one_int, one_bool, one_string, one_slice, one_ptr, min2_eq, max2_eq, pick2_eq, u_not, u_neg, cells_agg, inside_ret, chk_true, get_eq, get_ne, List.getElem?_cons_zero, List.getElem?_cons_succ, List.set_cons_zero, List.set_cons_succ, List.length_cons, List.length_nil, Int.toNat_natCast, Int.toNat_zero, Nat.zero_add, Nat.add_zero, decide_eq_true_eq, decide_eq_false_iff_not, true_and, and_true, if_true, if_false, true_or, or_true, Bool.false_eq_true, Bool.true_eq_false, Nat.reduceAdd, Nat.reduceLT, wrap_id, wrap_succ, wrap_pred, len22, bgtr3, bleq3, blss3, beql24, beql3, ix22, ldr3, badd3, bneq3, bneq24, bmul3, str3, bsub3, bshl3, bquo3, bd36x0x1x2, len34, ix34, fa36f2, ldr22, fa36f0, fa46f0, bgeq3, fa46f1, beql22s, beql22n, bd46x0x3, fa46f2, str22, fa46f3, fa36f1, cv3x54, bshr54, cv54x3, b1, c0, g1, g2, w1, w2, nats_len, nats_set, List.length_set, hset]
    refine ⟨by omega, hW, by omega, hW, ?_⟩
    have := ih V2 (U1 ++ [u]) (V1 ++ [v]) fu _ (by omega) (by omega) (by simp [h2]) (by rw [← e1]; simp) (by rw [← e2]; simp) ((hA.set (ys := (P ++ V1 ++ u :: U2 ++ Z ++ U1 ++ v :: V2 ++ Q).set (P.length + U1.length) v) rfl rfl).set (ys := P ++ (V1 ++ [v]) ++ U2 ++ Z ++ (U1 ++ [u]) ++ V2 ++ Q) rfl rfl)
    rw [show (U1 ++ [u]).length = U1.length + 1 by simp] at this
    exact this
theorem s_swap (lf d g n cap : Nat) (h : H) (P U Z V Q : List Nat) (N : Nat) (f : Value) (a b c : Int) (hlf : 2000000 ≤ lf) (hN : (P ++ U ++ Z ++ V ++ Q).length = N) (hNb : N ≤ 1000000) (hUV : U.length = V.length) (hg : g < n) (ha : a = (P.length : Nat)) (hb : b = ((P.length + U.length + Z.length : Nat) : Int)) (hc : c = (U.length : Nat)) (hh : h.get g = some ⟨3, true, nats (P ++ U ++ Z ++ V ++ Q)⟩) :
    Run (fun x => x = g) n (evCall2 Try.prog gt lf (d + 1) 41 #[.slice (some ⟨g, 0, none⟩) N cap, .int .i64 a, .int .i64 b, .int .i64 c, f]) h n fun v h' n' => n' = n ∧ At h h' g (P ++ V ++ Z ++ U ++ Q) := by
  subst ha hb hc
  rw [sh_slices_swapRangeCmpFunc_int]
  refine Run.inside_ ?_
  unfold b_slices_swapRangeCmpFunc_int
  have hl : U.length ≤ N := by rw [← hN]; simp; omega
  refine swA (W := fun x => x = g) lf d g n cap h P Z Q U V N hN hNb hg (.inr rfl) _ (fun hr y13 y10 hA => ?_) U V [] [] lf h (by omega) hUV rfl rfl rfl ⟨by simpa using hh, fun b hb => rfl⟩
  rw [kcAa_slices_swapRangeCmpFunc_int]
  try simp (disch := first | omega | assumption | exact one_int _ _ | exact one_slice _ _ _ | exact one_ptr _ | exact one_bool _ | exact one_string _) only [optK_some_eq, nil2_ptr, ifV_true, ifV_false, run_if, run_out0, run_out1, run_out2, run_out3, optG_some, one_int, one_bool, one_string, one_slice, one_ptr, min2_eq, max2_eq, pick2_eq, u_not, u_neg, cells_agg, inside_ret, chk_true, get_eq, get_ne, List.getElem?_cons_zero, List.getElem?_cons_succ, List.set_cons_zero, List.set_cons_succ, List.length_cons, List.length_nil, Int.toNat_natCast, Int.toNat_zero, Nat.zero_add, Nat.add_zero, decide_eq_true_eq, decide_eq_false_iff_not, true_and, and_true, if_true, if_false, true_or, or_true, Bool.false_eq_true, Bool.true_eq_false, Nat.reduceAdd, Nat.reduceLT, wrap_id, wrap_succ, wrap_pred, len22, bgtr3, bleq3, blss3, beql24, beql3, ix22, ldr3, badd3, bneq3, bneq24, bmul3, str3, bsub3, bshl3, bquo3, bd36x0x1x2, len34, ix34, fa36f2, ldr22, fa36f0, fa46f0, bgeq3, fa46f1, beql22s, beql22n, bd46x0x3, fa46f2, str22, fa46f3, fa36f1, cv3x54, bshr54, cv54x3]
  exact hA

theorem roA (lf d g n cap : Nat) (h : H) (f : Value) (T : List Nat) (N Mi : Nat) (x1 x3 : Value) (hlf : 2000000 ≤ lf) (hT : T.length = N) (hNb : N ≤ 1000000) (hg : g < n) {W : Nat → Prop} {n0 : Nat} (hn0 : n0 ≤ n) (hW : n0 ≤ g ∨ W g) {R : Value → H → Nat → Prop} (k : Ex → Fr → M Value)
    (hK : ∀ hr y20 (I : Nat) P U V Q, I = U.length → U.length = V.length → P.length + I = Mi → P ++ V ++ U ++ Q = T → At h hr g (P ++ U ++ V ++ Q) → Run W n0 (k (Ex.exit 0) [(0, .slice (some ⟨g, 0, none⟩) N cap), (1, x1), (2, .int .i64 (Mi : Nat)), (3, x3), (4, f), (10, .int .i64 (I : Nat)), (11, .int .i64 (I : Nat)), (20, y20)]) hr n R) :
    ∀ (m : Nat) (P U V Q : List Nat) (fu : Nat) (hr : H), U.length + V.length ≤ m → m < fu → 1 ≤ U.length → 1 ≤ V.length → P.length + U.length = Mi → P ++ V ++ U ++ Q = T → At h hr g (P ++ U ++ V ++ Q) →
      Run W n0 (lpA_slices_rotateCmpFunc_int lf (d + 1) fu k (.slice (some ⟨g, 0, none⟩) N cap) x1 (.int .i64 (Mi : Nat)) x3 f (.int .i64 (U.length : Nat)) (.int .i64 (V.length : Nat))) hr n R := by
  intro m
  induction m with
  | zero => intro P U V Q fu hr h1 _ h2; omega
  | succ m ih =>
    intro P U V Q fu hr hm hfu hU hV hP hE hA
    obtain ⟨fu, rfl⟩ : ∃ f, fu = f + 1 := ⟨fu - 1, by omega⟩
    have lT := congrArg List.length hE
    simp only [List.length_append] at lT
    rw [hT] at lT
    rw [succA_slices_rotateCmpFunc_int]
    by_cases heq : U.length = V.length
    · have e1 : (((U.length : Nat) : Int) != ((V.length : Nat) : Int)) = false := by rw [heq]; simp
      try simp (disch := first | omega | assumption | exact one_int _ _ | exact one_slice _ _ _ | exact one_ptr _ | exact one_bool _ | exact one_string _) only [optK_some_eq, nil2_ptr, ifV_true, ifV_false, run_if, run_out0, run_out1, run_out2, run_out3, optG_some, one_int, one_bool, one_string, one_slice, one_ptr, min2_eq, max2_eq, pick2_eq, u_not, u_neg, cells_agg, inside_ret, chk_true, get_eq, get_ne, List.getElem?_cons_zero, List.getElem?_cons_succ, List.set_cons_zero, List.set_cons_succ, List.length_cons, List.length_nil, Int.toNat_natCast, Int.toNat_zero, Nat.zero_add, Nat.add_zero, decide_eq_true_eq, decide_eq_false_iff_not, true_and, and_true, if_true, if_false, true_or, or_true, Bool.false_eq_true, Bool.true_eq_false, Nat.reduceAdd, Nat.reduceLT, wrap_id, wrap_succ, wrap_pred, len22, bgtr3, bleq3, blss3, beql24, beql3, ix22, ldr3, badd3, bneq3, bneq24, bmul3, str3, bsub3, bshl3, bquo3, bd36x0x1x2, len34, ix34, fa36f2, ldr22, fa36f0, fa46f0, bgeq3, fa46f1, beql22s, beql22n, bd46x0x3, fa46f2, str22, fa46f3, fa36f1, cv3x54, bshr54, cv54x3, e1]
      rw [← heq]
      exact hK hr _ _ P U V Q rfl heq hP hE hA
    · have e1 : (((U.length : Nat) : Int) != ((V.length : Nat) : Int)) = true := by simp; omega
      by_cases hgt : V.length < U.length
      · have e2 : ((V.length : Nat) : Int) < ((U.length : Nat) : Int) := by omega
        have w1 : IntKind.i64.wrap (((U.length : Nat) : Int) - ((V.length : Nat) : Int)) = ((U.length - V.length : Nat) : Int) := by rw [wrap_id (by omega) (by omega)]; omega
        have w2 : IntKind.i64.wrap (((Mi : Nat) : Int) - ((U.length : Nat) : Int)) = ((P.length : Nat) : Int) := by rw [wrap_id (by omega) (by omega)]; omega
        try simp (disch := first | omega | assumption | exact one_int _ _ | exact one_slice _ _ _ | exact one_ptr _ | exact one_bool _ | exact one_string _) only [optK_some_eq, nil2_ptr, ifV_true, ifV_false, run_if, run_out0, run_out1, run_out2, run_out3, optG_some, one_int, one_bool, one_string, one_slice, one_ptr, min2_eq, max2_eq, pick2_eq, u_not, u_neg, cells_agg, inside_ret, chk_true, get_eq, get_ne, List.getElem?_cons_zero, List.getElem?_cons_succ, List.set_cons_zero, List.set_cons_succ, List.length_cons, List.length_nil, Int.toNat_natCast, Int.toNat_zero, Nat.zero_add, Nat.add_zero, decide_eq_true_eq, decide_eq_false_iff_not, true_and, and_true, if_true, if_false, true_or, or_true, Bool.false_eq_true, Bool.true_eq_false, Nat.reduceAdd, Nat.reduceLT, wrap_id, wrap_succ, wrap_pred, len22, bgtr3, bleq3, blss3, beql24, beql3, ix22, ldr3, badd3, bneq3, bneq24, bmul3, str3, bsub3, bshl3, bquo3, bd36x0x1x2, len34, ix34, fa36f2, ldr22, fa36f0, fa46f0, bgeq3, fa46f1, beql22s, beql22n, bd46x0x3, fa46f2, str22, fa46f3, fa36f1, cv3x54, bshr54, cv54x3, e1, e2, w1, w2]
        have hU1 : (U.take V.length).length = V.length := by rw [List.length_take]; omega
        have hs : P ++ U ++ V ++ Q = P ++ U.take V.length ++ U.drop V.length ++ V ++ Q := by rw [List.append_assoc P (U.take _), List.take_append_drop]
        refine run_call okd (s_swap lf d g n cap hr P (U.take V.length) (U.drop V.length) V Q N f _ _ _ hlf (by rw [← hs]; simp; omega) hNb hU1 hg rfl (by rw [hU1, List.length_drop]; omega) (by rw [hU1]) (by rw [← hs]; exact hA.1)) hn0 (fun b _ hb => hb ▸ hW) fun v h1 n1 _ _ hq => ?_
        obtain ⟨rfl, hA1⟩ := hq
        try simp (disch := first | omega | assumption | exact one_int _ _ | exact one_slice _ _ _ | exact one_ptr _ | exact one_bool _ | exact one_string _) only [optK_some_eq, nil2_ptr, ifV_true, ifV_false, run_if, run_out0, run_out1, run_out2, run_out3, optG_some, one_int, one_bool, one_string, one_slice, one_ptr, min2_eq, max2_eq, pick2_eq, u_not, u_neg, cells_agg, inside_ret, chk_true, get_eq, get_ne, List.getElem?_cons_zero, List.getElem?_cons_succ, List.set_cons_zero, List.set_cons_succ, List.length_cons, List.length_nil, Int.toNat_natCast, Int.toNat_zero, Nat.zero_add, Nat.add_zero, decide_eq_true_eq, decide_eq_false_iff_not, true_and, and_true, if_true, if_false, true_or, or_true, Bool.false_eq_true, Bool.true_eq_false, Nat.reduceAdd, Nat.reduceLT, wrap_id, wrap_succ, wrap_pred, len22, bgtr3, bleq3, blss3, beql24, beql3, ix22, ldr3, badd3, bneq3, bneq24, bmul3, str3, bsub3, bshl3, bquo3, bd36x0x1x2, len34, ix34, fa36f2, ldr22, fa36f0, fa46f0, bgeq3, fa46f1, beql22s, beql22n, bd46x0x3, fa46f2, str22, fa46f3, fa36f1, cv3x54, bshr54, cv54x3, w1]
        have hA2 := hA.trans hA1
        have := ih (P ++ V) (U.drop V.length) (U.take V.length) Q fu h1 (by rw [hU1, List.length_drop]; omega) (by omega) (by rw [List.length_drop]; omega) (by omega) (by rw [List.length_append, List.length_drop]; omega) (by rw [← hE]; simp) hA2
        rw [hU1, List.length_drop] at this
        exact this
      · have e2 : ¬ ((V.length : Nat) : Int) < ((U.length : Nat) : Int) := by omega
        have w1 : IntKind.i64.wrap (((V.length : Nat) : Int) - ((U.length : Nat) : Int)) = ((V.length - U.length : Nat) : Int) := by rw [wrap_id (by omega) (by omega)]; omega
        have w2 : IntKind.i64.wrap (((Mi : Nat) : Int) - ((U.length : Nat) : Int)) = ((P.length : Nat) : Int) := by rw [wrap_id (by omega) (by omega)]; omega
        have w3 : IntKind.i64.wrap (((Mi : Nat) : Int) + ((V.length : Nat) : Int)) = ((Mi + V.length : Nat) : Int) := by rw [wrap_id (by omega) (by omega)]; omega
        have w4 : IntKind.i64.wrap (((Mi + V.length : Nat) : Int) - ((U.length : Nat) : Int)) = ((P.length + V.length : Nat) : Int) := by rw [wrap_id (by omega) (by omega)]; omega
        try simp (disch := first | omega | assumption | exact one_int _ _ | exact one_slice _ _ _ | exact one_ptr _ | exact one_bool _ | exact one_string _) only [optK_some_eq, nil2_ptr, ifV_true, ifV_false, run_if, run_out0, run_out1, run_out2, run_out3, optG_some, one_int, one_bool, one_string, one_slice, one_ptr, min2_eq, max2_eq, pick2_eq, u_not, u_neg, cells_agg, inside_ret, chk_true, get_eq, get_ne, List.getElem?_cons_zero, List.getElem?_cons_succ, List.set_cons_zero, List.set_cons_succ, List.length_cons, List.length_nil, Int.toNat_natCast, Int.toNat_zero, Nat.zero_add, Nat.add_zero, decide_eq_true_eq, decide_eq_false_iff_not, true_and, and_true, if_true, if_false, true_or, or_true, Bool.false_eq_true, Bool.true_eq_false, Nat.reduceAdd, Nat.reduceLT, wrap_id, wrap_succ, wrap_pred, len22, bgtr3, bleq3, blss3, beql24, beql3, ix22, ldr3, badd3, bneq3, bneq24, bmul3, str3, bsub3, bshl3, bquo3, bd36x0x1x2, len34, ix34, fa36f2, ldr22, fa36f0, fa46f0, bgeq3, fa46f1, beql22s, beql22n, bd46x0x3, fa46f2, str22, fa46f3, fa36f1, cv3x54, bshr54, cv54x3, e1, e2, w1, w2, w3, w4]
        have hV1 : (V.drop (V.length - U.length)).length = U.length := by rw [List.length_drop]; omega
        have hV2 : (V.take (V.length - U.length)).length = V.length - U.length := by rw [List.length_take]; omega
        have hs : P ++ U ++ V ++ Q = P ++ U ++ V.take (V.length - U.length) ++ V.drop (V.length - U.length) ++ Q := by
          rw [List.append_assoc (P ++ U) (V.take _), List.take_append_drop]
        refine run_call okd (s_swap lf d g n cap hr P U (V.take (V.length - U.length)) (V.drop (V.length - U.length)) Q N f _ _ _ hlf (by rw [← hs]; simp; omega) hNb hV1.symm hg rfl (by rw [hV2]; omega) rfl (by rw [← hs]; exact hA.1)) hn0 (fun b _ hb => hb ▸ hW) fun v h1 n1 _ _ hq => ?_
        obtain ⟨rfl, hA1⟩ := hq
        try simp (disch := first | omega | assumption | exact one_int _ _ | exact one_slice _ _ _ | exact one_ptr _ | exact one_bool _ | exact one_string _) only [optK_some_eq, nil2_ptr, ifV_true, ifV_false, run_if, run_out0, run_out1, run_out2, run_out3, optG_some, one_int, one_bool, one_string, one_slice, one_ptr, min2_eq, max2_eq, pick2_eq, u_not, u_neg, cells_agg, inside_ret, chk_true, get_eq, get_ne, List.getElem?_cons_zero, List.getElem?_cons_succ, List.set_cons_zero, List.set_cons_succ, List.length_cons, List.length_nil, Int.toNat_natCast, Int.toNat_zero, Nat.zero_add, Nat.add_zero, decide_eq_true_eq, decide_eq_false_iff_not, true_and, and_true, if_true, if_false, true_or, or_true, Bool.false_eq_true, Bool.true_eq_false, Nat.reduceAdd, Nat.reduceLT, wrap_id, wrap_succ, wrap_pred, len22, bgtr3, bleq3, blss3, beql24, beql3, ix22, ldr3, badd3, bneq3, bneq24, bmul3, str3, bsub3, bshl3, bquo3, bd36x0x1x2, len34, ix34, fa36f2, ldr22, fa36f0, fa46f0, bgeq3, fa46f1, beql22s, beql22n, bd46x0x3, fa46f2, str22, fa46f3, fa36f1, cv3x54, bshr54, cv54x3, w1]
        have hA2 := hA.trans hA1
        have := ih P (V.drop (V.length - U.length)) (V.take (V.length - U.length)) (U ++ Q) fu h1 (by omega) (by omega) (by omega) (by omega) (by omega) (by rw [← hE]; rw [← List.append_assoc, List.append_assoc P, List.take_append_drop]) (by rw [← List.append_assoc]; exact hA2)
        rw [hV1, hV2] at this
        exact this
theorem s_rot (lf d g n cap : Nat) (h : H) (P X Y Q : List Nat) (N : Nat) (f : Value) (a m b : Int) (hlf : 3000000 ≤ lf) (hN : (P ++ X ++ Y ++ Q).length = N) (hNb : N ≤ 1000000) (hX : 1 ≤ X.length) (hY : 1 ≤ Y.length) (hg : g < n) (ha : a = (P.length : Nat)) (hm : m = ((P.length + X.length : Nat) : Int)) (hb : b = ((P.length + X.length + Y.length : Nat) : Int)) (hh : h.get g = some ⟨3, true, nats (P ++ X ++ Y ++ Q)⟩) :
    Run (fun x => x = g) n (evCall2 Try.prog gt lf (d + 2) 40 #[.slice (some ⟨g, 0, none⟩) N cap, .int .i64 a, .int .i64 m, .int .i64 b, f]) h n fun v h' n' => n' = n ∧ At h h' g (P ++ Y ++ X ++ Q) := by
  subst ha hm hb
  rw [sh_slices_rotateCmpFunc_int]
  refine Run.inside_ ?_
  unfold b_slices_rotateCmpFunc_int
  have lN := hN
  simp only [List.length_append] at lN
  have w1 : IntKind.i64.wrap (((P.length + X.length : Nat) : Int) - ((P.length : Nat) : Int)) = ((X.length : Nat) : Int) := by rw [wrap_id (by omega) (by omega)]; omega
  have w2 : IntKind.i64.wrap (((P.length + X.length + Y.length : Nat) : Int) - ((P.length + X.length : Nat) : Int)) = ((Y.length : Nat) : Int) := by rw [wrap_id (by omega) (by omega)]; omega
  try simp (disch := first | omega | assumption | exact one_int _ _ | exact one_slice _ _ _ | exact one_ptr _ | exact one_bool _ | exact one_string _) only [optK_some_eq, nil2_ptr, ifV_true, ifV_false, run_if, run_out0, run_out1, run_out2, run_out3, optG_some, one_int, one_bool, one_string, one_slice, one_ptr, min2_eq, max2_eq, pick2_eq, u_not, u_neg, cells_agg, inside_ret, chk_true, get_eq, get_ne, List.getElem?_cons_zero, List.getElem?_cons_succ, List.set_cons_zero, List.set_cons_succ, List.length_cons, List.length_nil, Int.toNat_natCast, Int.toNat_zero, Nat.zero_add, Nat.add_zero, decide_eq_true_eq, decide_eq_false_iff_not, true_and, and_true, if_true, if_false, true_or, or_true, Bool.false_eq_true, Bool.true_eq_false, Nat.reduceAdd, Nat.reduceLT, wrap_id, wrap_succ, wrap_pred, len22, bgtr3, bleq3, blss3, beql24, beql3, ix22, ldr3, badd3, bneq3, bneq24, bmul3, str3, bsub3, bshl3, bquo3, bd36x0x1x2, len34, ix34, fa36f2, ldr22, fa36f0, fa46f0, bgeq3, fa46f1, beql22s, beql22n, bd46x0x3, fa46f2, str22, fa46f3, fa36f1, cv3x54, bshr54, cv54x3, w1, w2]
  refine roA (W := fun x => x = g) lf d g n cap h f (P ++ Y ++ X ++ Q) N (P.length + X.length) _ _ (by omega) (by rw [← hN]; simp; omega) hNb hg (Nat.le_refl _) (.inr rfl) _ (fun hr y20 I P1 U V Q1 hI hUV hP hE hA => ?_) _ P X Y Q lf h (Nat.le_refl _) (by omega) hX hY rfl rfl ⟨hh, fun b hb => rfl⟩
  rw [kcAa_slices_rotateCmpFunc_int]
  have lT := congrArg List.length hE
  simp only [List.length_append] at lT
  have w3 : IntKind.i64.wrap (((P.length + X.length : Nat) : Int) - ((I : Nat) : Int)) = ((P1.length : Nat) : Int) := by rw [wrap_id (by omega) (by omega)]; omega
  try simp (disch := first | omega | assumption | exact one_int _ _ | exact one_slice _ _ _ | exact one_ptr _ | exact one_bool _ | exact one_string _) only [optK_some_eq, nil2_ptr, ifV_true, ifV_false, run_if, run_out0, run_out1, run_out2, run_out3, optG_some, one_int, one_bool, one_string, one_slice, one_ptr, min2_eq, max2_eq, pick2_eq, u_not, u_neg, cells_agg, inside_ret, chk_true, get_eq, get_ne, List.getElem?_cons_zero, List.getElem?_cons_succ, List.set_cons_zero, List.set_cons_succ, List.length_cons, List.length_nil, Int.toNat_natCast, Int.toNat_zero, Nat.zero_add, Nat.add_zero, decide_eq_true_eq, decide_eq_false_iff_not, true_and, and_true, if_true, if_false, true_or, or_true, Bool.false_eq_true, Bool.true_eq_false, Nat.reduceAdd, Nat.reduceLT, wrap_id, wrap_succ, wrap_pred, len22, bgtr3, bleq3, blss3, beql24, beql3, ix22, ldr3, badd3, bneq3, bneq24, bmul3, str3, bsub3, bshl3, bquo3, bd36x0x1x2, len34, ix34, fa36f2, ldr22, fa36f0, fa46f0, bgeq3, fa46f1, beql22s, beql22n, bd46x0x3, fa46f2, str22, fa46f3, fa36f1, cv3x54, bshr54, cv54x3, w3]
  refine run_call okd (s_swap lf d g n cap hr P1 U [] V Q1 N f _ _ _ (by omega) (by rw [← hN]; simp; omega) hNb hUV hg rfl (by simp; omega) (by rw [hI]) (by rw [List.append_nil]; exact hA.1)) (Nat.le_refl _) (fun b _ hb => .inr hb) fun v h1 n1 _ _ hq => ?_
  obtain ⟨rfl, hA1⟩ := hq
  try simp (disch := first | omega | assumption | exact one_int _ _ | exact one_slice _ _ _ | exact one_ptr _ | exact one_bool _ | exact one_string _) only [optK_some_eq, nil2_ptr, ifV_true, ifV_false, run_if, run_out0, run_out1, run_out2, run_out3, optG_some, one_int, one_bool, one_string, one_slice, one_ptr, min2_eq, max2_eq, pick2_eq, u_not, u_neg, cells_agg, inside_ret, chk_true, get_eq, get_ne, List.getElem?_cons_zero, List.getElem?_cons_succ, List.set_cons_zero, List.set_cons_succ, List.length_cons, List.length_nil, Int.toNat_natCast, Int.toNat_zero, Nat.zero_add, Nat.add_zero, decide_eq_true_eq, decide_eq_false_iff_not, true_and, and_true, if_true, if_false, true_or, or_true, Bool.false_eq_true, Bool.true_eq_false, Nat.reduceAdd, Nat.reduceLT, wrap_id, wrap_succ, wrap_pred, len22, bgtr3, bleq3, blss3, beql24, beql3, ix22, ldr3, badd3, bneq3, bneq24, bmul3, str3, bsub3, bshl3, bquo3, bd36x0x1x2, len34, ix34, fa36f2, ldr22, fa36f0, fa46f0, bgeq3, fa46f1, beql22s, beql22n, bd46x0x3, fa46f2, str22, fa46f3, fa36f1, cv3x54, bshr54, cv54x3]
  rw [List.append_nil, hE] at hA1
  exact hA.trans hA1

end Go.Proofs.Ytapdcejhfooahaa

/- The library's merge in place, by the second form: one element ahead, one element behind. -/
import Derived.Test.YtapdcejhfooahaaL4
namespace Go.Proofs.Ytapdcejhfooahaa
set_option linter.unusedVariables false
set_option linter.unusedSimpArgs false
open Go.RowKit Ev Hu

theorem wrap_u64 {x : Int} (h0 : 0 ≤ x) (h1 : x ≤ 9223372036854775807) : IntKind.u64.wrap x = x := by
  unfold IntKind.wrap
  have : (2 : Int) ^ IntKind.u64.bits = 18446744073709551616 := by decide
  simp only [show IntKind.u64.signed = false from rfl, Bool.false_eq_true, false_and, if_false, this]
  exact Int.emod_eq_of_lt h0 (by omega)
theorem half1 (x : Int) : x.fdiv (2 ^ min 1 IntKind.u64.bits) = x / 2 := by
  rw [show min 1 IntKind.u64.bits = 1 from rfl, Int.pow_succ, Int.pow_zero, Int.one_mul, Int.fdiv_eq_ediv_of_nonneg _ (by omega)]
theorem half2 (x : Int) : x.fdiv (2 ^ min (Int.toNat 1) IntKind.u64.bits) = x / 2 := half1 x

/-- of sorted Y the place for the one element ahead -/
theorem symA (lf d g n cap pw : Nat) (ws : List Int) (h : H) (P Y Q : List Nat) (x : Nat) (N : Nat) (hN : (P ++ x :: Y ++ Q).length = N) (hNb : N ≤ 1000000) (hE : EnvT h n g pw ws) (hg : g < n) (hh : h.get g = some ⟨3, true, nats (P ++ x :: Y ++ Q)⟩) (hx : x < ws.length) (hY : ∀ z ∈ Y, z < ws.length) {W : Nat → Prop} {n0 : Nat} (hn0 : n0 ≤ n) {R : Value → H → Nat → Prop} (k : Ex → Fr → M Value) (x2 x3 x28 : Value)
    (hK : ∀ p y33, p ≤ Y.length → (p = 0 ∨ keyW ws (Y.getD (p - 1) 0) < keyW ws x) → (p = Y.length ∨ ¬ keyW ws (Y.getD p 0) < keyW ws x) → Run W n0 (k (Ex.exit 0) [(0, .slice (some ⟨g, 0, none⟩) N cap), (1, .int .i64 (P.length : Nat)), (2, x2), (3, x3), (4, .func (.func 34) #[] #[.pointer (some ⟨pw, 0, none⟩)]), (10, .int .i64 ((P.length + 1 + p : Nat) : Int)), (11, .int .i64 ((P.length + 1 + p : Nat) : Int)), (28, x28), (33, y33)]) h n R) :
    ∀ (m p q fu : Nat), q - p ≤ m → m < fu → p ≤ q → q ≤ Y.length → (p = 0 ∨ keyW ws (Y.getD (p - 1) 0) < keyW ws x) → (q = Y.length ∨ ¬ keyW ws (Y.getD q 0) < keyW ws x) →
      Run W n0 (lpA_slices_symMergeCmpFunc_int lf (d + 3) fu k (.slice (some ⟨g, 0, none⟩) N cap) (.int .i64 (P.length : Nat)) x2 x3 (.func (.func 34) #[] #[.pointer (some ⟨pw, 0, none⟩)]) (.int .i64 ((P.length + 1 + p : Nat) : Int)) (.int .i64 ((P.length + 1 + q : Nat) : Int)) x28) h n R := by
  have lN := hN
  simp only [List.length_append, List.length_cons] at lN
  intro m
  induction m with
  | zero =>
    intro p q fu hm hfu hpq hq h1 h2
    obtain ⟨fu, rfl⟩ : ∃ f, fu = f + 1 := ⟨fu - 1, by omega⟩
    obtain rfl : p = q := by omega
    rw [succA_slices_symMergeCmpFunc_int]
    try simp (disch := first | omega | assumption | exact one_int _ _ | exact one_slice _ _ _ | exact one_ptr _ | exact one_bool _ | exact one_string _) only [optK_some_eq, nil2_ptr, ifV_true, ifV_false, run_if, run_out0, run_out1, run_out2, run_out3, optG_some, one_int, one_bool, one_string, one_slice, one_ptr, min2_eq, max2_eq, pick2_eq, u_not, u_neg, cells_agg, inside_ret, chk_true, get_eq, get_ne, List.getElem?_cons_zero, List.getElem?_cons_succ, List.set_cons_zero, List.set_cons_succ, List.length_cons, List.length_nil, Int.toNat_natCast, Int.toNat_zero, Nat.zero_add, Nat.add_zero, decide_eq_true_eq, decide_eq_false_iff_not, true_and, and_true, if_true, if_false, true_or, or_true, Bool.false_eq_true, Bool.true_eq_false, Nat.reduceAdd, Nat.reduceLT, wrap_id, wrap_succ, wrap_pred, len22, bgtr3, bleq3, blss3, beql24, beql3, ix22, ldr3, badd3, bneq3, bneq24, bmul3, str3, bsub3, bshl3, bquo3, bd36x0x1x2, len34, ix34, fa36f2, ldr22, fa36f0, fa46f0, bgeq3, fa46f1, beql22s, beql22n, bd46x0x3, fa46f2, str22, fa46f3, fa36f1, cv3x54, bshr54, cv54x3, Int.lt_irrefl]
    exact hK p _ hq h1 h2
  | succ m ih =>
    intro p q fu hm hfu hpq hq h1 h2
    obtain ⟨fu, rfl⟩ : ∃ f, fu = f + 1 := ⟨fu - 1, by omega⟩
    rw [succA_slices_symMergeCmpFunc_int]
    by_cases hlt : p < q
    · obtain ⟨c, hc⟩ : ∃ c, (P.length + 1 + p + (P.length + 1 + q)) / 2 = P.length + 1 + c := ⟨(p + q) / 2, by omega⟩
      have hcp : p ≤ c := by omega
      have hcq : c < q := by omega
      have e1 : ((P.length + 1 + p : Nat) : Int) < ((P.length + 1 + q : Nat) : Int) := by omega
      have e2 : (((P.length + 1 + p : Nat) : Int) + ((P.length + 1 + q : Nat) : Int)) / 2 = ((P.length + 1 + c : Nat) : Int) := by omega
      have hy : Y.getD c 0 < ws.length := hY _ (by rw [List.getD_eq_getElem?_getD, List.getElem?_eq_getElem (by omega)]; exact List.getElem_mem _)
      have g1 : (nats (P ++ x :: Y ++ Q))[P.length + 1 + c]? = some (.int .i64 (Y.getD c 0 : Nat)) := by
        rw [nats_get (by omega), show P ++ x :: Y ++ Q = (P ++ [x]) ++ Y ++ Q by simp, getD_mid _ _ _ c _ (by simp) (by omega)]
      have g2 : (nats (P ++ x :: Y ++ Q))[P.length]? = some (.int .i64 (x : Nat)) := by
        rw [nats_get (by omega), show P ++ x :: Y ++ Q = P ++ x :: (Y ++ Q) by simp, getD_at _ _ _ _ rfl]
      try simp (disch := first | omega | assumption | exact one_int _ _ | exact one_slice _ _ _ | exact one_ptr _ | exact one_bool _ | exact one_string _) only [optK_some_eq, nil2_ptr, ifV_true, ifV_false, run_if, run_out0, run_out1, run_out2, run_out3, optG_some, one_int, one_bool, one_string, one_slice, one_ptr, min2_eq, max2_eq, pick2_eq, u_not, u_neg, cells_agg, inside_ret, chk_true, get_eq, get_ne, List.getElem?_cons_zero, List.getElem?_cons_succ, List.set_cons_zero, List.set_cons_succ, List.length_cons, List.length_nil, Int.toNat_natCast, Int.toNat_zero, Nat.zero_add, Nat.add_zero, decide_eq_true_eq, decide_eq_false_iff_not, true_and, and_true, if_true, if_false, true_or, or_true, Bool.false_eq_true, Bool.true_eq_false, Nat.reduceAdd, Nat.reduceLT, wrap_id, wrap_succ, wrap_pred, len22, bgtr3, bleq3, blss3, beql24, beql3, ix22, ldr3, badd3, bneq3, bneq24, bmul3, str3, bsub3, bshl3, bquo3, bd36x0x1x2, len34, ix34, fa36f2, ldr22, fa36f0, fa46f0, bgeq3, fa46f1, beql22s, beql22n, bd46x0x3, fa46f2, str22, fa46f3, fa36f1, cv3x54, bshr54, cv54x3, e1, wrap_u64, half1, half2, e2, hh, g1, g2, callT]
      refine run_same (s_cmp lf d _ x h n g pw ws hE hy hx) hn0 (fun _ _ h => h.elim) ?_
      have e4 := cmp3_neg (keyW ws (Y.getD c 0)) (keyW ws x)
      try simp (disch := first | omega | assumption | exact one_int _ _ | exact one_slice _ _ _ | exact one_ptr _ | exact one_bool _ | exact one_string _) only [optK_some_eq, nil2_ptr, ifV_true, ifV_false, run_if, run_out0, run_out1, run_out2, run_out3, optG_some, one_int, one_bool, one_string, one_slice, one_ptr, min2_eq, max2_eq, pick2_eq, u_not, u_neg, cells_agg, inside_ret, chk_true, get_eq, get_ne, List.getElem?_cons_zero, List.getElem?_cons_succ, List.set_cons_zero, List.set_cons_succ, List.length_cons, List.length_nil, Int.toNat_natCast, Int.toNat_zero, Nat.zero_add, Nat.add_zero, decide_eq_true_eq, decide_eq_false_iff_not, true_and, and_true, if_true, if_false, true_or, or_true, Bool.false_eq_true, Bool.true_eq_false, Nat.reduceAdd, Nat.reduceLT, wrap_id, wrap_succ, wrap_pred, len22, bgtr3, bleq3, blss3, beql24, beql3, ix22, ldr3, badd3, bneq3, bneq24, bmul3, str3, bsub3, bshl3, bquo3, bd36x0x1x2, len34, ix34, fa36f2, ldr22, fa36f0, fa46f0, bgeq3, fa46f1, beql22s, beql22n, bd46x0x3, fa46f2, str22, fa46f3, fa36f1, cv3x54, bshr54, cv54x3, e4]
      by_cases hk : keyW ws (Y.getD c 0) < keyW ws x
      · have w1 : IntKind.i64.wrap (((P.length + 1 + c : Nat) : Int) + 1) = ((P.length + 1 + (c + 1) : Nat) : Int) := by rw [wrap_id (by omega) (by omega)]; omega
        try simp (disch := first | omega | assumption | exact one_int _ _ | exact one_slice _ _ _ | exact one_ptr _ | exact one_bool _ | exact one_string _) only [optK_some_eq, nil2_ptr, ifV_true, ifV_false, run_if, run_out0, run_out1, run_out2, run_out3, optG_some, one_int, one_bool, one_string, one_slice, one_ptr, min2_eq, max2_eq, pick2_eq, u_not, u_neg, cells_agg, inside_ret, chk_true, get_eq, get_ne, List.getElem?_cons_zero, List.getElem?_cons_succ, List.set_cons_zero, List.set_cons_succ, List.length_cons, List.length_nil, Int.toNat_natCast, Int.toNat_zero, Nat.zero_add, Nat.add_zero, decide_eq_true_eq, decide_eq_false_iff_not, true_and, and_true, if_true, if_false, true_or, or_true, Bool.false_eq_true, Bool.true_eq_false, Nat.reduceAdd, Nat.reduceLT, wrap_id, wrap_succ, wrap_pred, len22, bgtr3, bleq3, blss3, beql24, beql3, ix22, ldr3, badd3, bneq3, bneq24, bmul3, str3, bsub3, bshl3, bquo3, bd36x0x1x2, len34, ix34, fa36f2, ldr22, fa36f0, fa46f0, bgeq3, fa46f1, beql22s, beql22n, bd46x0x3, fa46f2, str22, fa46f3, fa36f1, cv3x54, bshr54, cv54x3, hk, w1]
        have w2 : ((P.length + 1 + c : Nat) : Int) + 1 = ((P.length + 1 + (c + 1) : Nat) : Int) := by omega
        try rw [w2]
        exact ih (c + 1) q fu (by omega) (by omega) (by omega) hq (.inr (by simpa using hk)) h2
      · try simp (disch := first | omega | assumption | exact one_int _ _ | exact one_slice _ _ _ | exact one_ptr _ | exact one_bool _ | exact one_string _) only [optK_some_eq, nil2_ptr, ifV_true, ifV_false, run_if, run_out0, run_out1, run_out2, run_out3, optG_some, one_int, one_bool, one_string, one_slice, one_ptr, min2_eq, max2_eq, pick2_eq, u_not, u_neg, cells_agg, inside_ret, chk_true, get_eq, get_ne, List.getElem?_cons_zero, List.getElem?_cons_succ, List.set_cons_zero, List.set_cons_succ, List.length_cons, List.length_nil, Int.toNat_natCast, Int.toNat_zero, Nat.zero_add, Nat.add_zero, decide_eq_true_eq, decide_eq_false_iff_not, true_and, and_true, if_true, if_false, true_or, or_true, Bool.false_eq_true, Bool.true_eq_false, Nat.reduceAdd, Nat.reduceLT, wrap_id, wrap_succ, wrap_pred, len22, bgtr3, bleq3, blss3, beql24, beql3, ix22, ldr3, badd3, bneq3, bneq24, bmul3, str3, bsub3, bshl3, bquo3, bd36x0x1x2, len34, ix34, fa36f2, ldr22, fa36f0, fa46f0, bgeq3, fa46f1, beql22s, beql22n, bd46x0x3, fa46f2, str22, fa46f3, fa36f1, cv3x54, bshr54, cv54x3, hk]
        exact ih p c fu (by omega) (by omega) (by omega) (by omega) h1 (.inr hk)
    · obtain rfl : p = q := by omega
      try simp (disch := first | omega | assumption | exact one_int _ _ | exact one_slice _ _ _ | exact one_ptr _ | exact one_bool _ | exact one_string _) only [optK_some_eq, nil2_ptr, ifV_true, ifV_false, run_if, run_out0, run_out1, run_out2, run_out3, optG_some, one_int, one_bool, one_string, one_slice, one_ptr, min2_eq, max2_eq, pick2_eq, u_not, u_neg, cells_agg, inside_ret, chk_true, get_eq, get_ne, List.getElem?_cons_zero, List.getElem?_cons_succ, List.set_cons_zero, List.set_cons_succ, List.length_cons, List.length_nil, Int.toNat_natCast, Int.toNat_zero, Nat.zero_add, Nat.add_zero, decide_eq_true_eq, decide_eq_false_iff_not, true_and, and_true, if_true, if_false, true_or, or_true, Bool.false_eq_true, Bool.true_eq_false, Nat.reduceAdd, Nat.reduceLT, wrap_id, wrap_succ, wrap_pred, len22, bgtr3, bleq3, blss3, beql24, beql3, ix22, ldr3, badd3, bneq3, bneq24, bmul3, str3, bsub3, bshl3, bquo3, bd36x0x1x2, len34, ix34, fa36f2, ldr22, fa36f0, fa46f0, bgeq3, fa46f1, beql22s, beql22n, bd46x0x3, fa46f2, str22, fa46f3, fa36f1, cv3x54, bshr54, cv54x3, Int.lt_irrefl]
      exact hK p _ hq h1 h2
/-- the one element ahead goes to its place -/
theorem symD (lf d g n cap : Nat) (h : H) (P Y Q : List Nat) (x p : Nat) (N : Nat) (hN : (P ++ x :: Y ++ Q).length = N) (hNb : N ≤ 1000000) (hp : p ≤ Y.length) (hg : g < n) {W : Nat → Prop} {n0 : Nat} (hW : n0 ≤ g ∨ W g) {R : Value → H → Nat → Prop} (k : Ex → Fr → M Value) (x1 x2 x3 x4 x11 x28 x33 : Value)
    (hK : ∀ hr y13 y58, At h hr g (P ++ (Y.take p ++ x :: Y.drop p) ++ Q) → Run W n0 (k (Ex.exit 2) [(0, .slice (some ⟨g, 0, none⟩) N cap), (1, x1), (2, x2), (3, x3), (4, x4), (10, .int .i64 ((P.length + 1 + p : Nat) : Int)), (11, x11), (13, y13), (28, x28), (33, x33), (58, y58)]) hr n R) :
    ∀ (m t fu : Nat) (hr : H), p - t ≤ m → m < fu → t ≤ p → At h hr g (P ++ (Y.take t ++ x :: Y.drop t) ++ Q) →
      Run W n0 (lpD_slices_symMergeCmpFunc_int lf d fu k (.slice (some ⟨g, 0, none⟩) N cap) x1 x2 x3 x4 (.int .i64 ((P.length + 1 + p : Nat) : Int)) x11 (.int .i64 ((P.length + t : Nat) : Int)) x28 x33) hr n R := by
  have lN := hN
  simp only [List.length_append, List.length_cons] at lN
  have w1 : IntKind.i64.wrap (((P.length + 1 + p : Nat) : Int) - 1) = ((P.length + p : Nat) : Int) := by rw [wrap_id (by omega) (by omega)]; omega
  intro m
  induction m with
  | zero =>
    intro t fu hr hm hfu ht hA
    obtain ⟨fu, rfl⟩ : ∃ f, fu = f + 1 := ⟨fu - 1, by omega⟩
    obtain rfl : t = p := by omega
    rw [succD_slices_symMergeCmpFunc_int]
    try simp (disch := first | omega | assumption | exact one_int _ _ | exact one_slice _ _ _ | exact one_ptr _ | exact one_bool _ | exact one_string _) only [optK_some_eq, nil2_ptr, ifV_true, ifV_false, run_if, run_out0, run_out1, run_out2, run_out3, optG_some, one_int, one_bool, one_string, one_slice, one_ptr, min2_eq, max2_eq, pick2_eq, u_not, u_neg, cells_agg, inside_ret, chk_true, get_eq, get_ne, List.getElem?_cons_zero, List.getElem?_cons_succ, List.set_cons_zero, List.set_cons_succ, List.length_cons, List.length_nil, Int.toNat_natCast, Int.toNat_zero, Nat.zero_add, Nat.add_zero, decide_eq_true_eq, decide_eq_false_iff_not, true_and, and_true, if_true, if_false, true_or, or_true, Bool.false_eq_true, Bool.true_eq_false, Nat.reduceAdd, Nat.reduceLT, wrap_id, wrap_succ, wrap_pred, len22, bgtr3, bleq3, blss3, beql24, beql3, ix22, ldr3, badd3, bneq3, bneq24, bmul3, str3, bsub3, bshl3, bquo3, bd36x0x1x2, len34, ix34, fa36f2, ldr22, fa36f0, fa46f0, bgeq3, fa46f1, beql22s, beql22n, bd46x0x3, fa46f2, str22, fa46f3, fa36f1, cv3x54, bshr54, cv54x3, Int.lt_irrefl, w1]
    exact hK hr _ _ hA
  | succ m ih =>
    intro t fu hr hm hfu ht hA
    obtain ⟨fu, rfl⟩ : ∃ f, fu = f + 1 := ⟨fu - 1, by omega⟩
    rw [succD_slices_symMergeCmpFunc_int]
    by_cases hlt : t < p
    · have e1 : ((P.length + t : Nat) : Int) < ((P.length + p : Nat) : Int) := by omega
      have w2 : IntKind.i64.wrap (((P.length + t : Nat) : Int) + 1) = ((P.length + (t + 1) : Nat) : Int) := by rw [wrap_id (by omega) (by omega)]; omega
      have hd : Y.drop t = Y.getD t 0 :: Y.drop (t + 1) := by rw [List.drop_eq_getElem_cons (by omega), List.getD_eq_getElem?_getD, List.getElem?_eq_getElem (by omega)]; rfl
      have ht1 : Y.take (t + 1) = Y.take t ++ [Y.getD t 0] := by rw [List.take_succ_eq_append_getElem (by omega), List.getD_eq_getElem?_getD, List.getElem?_eq_getElem (by omega)]; rfl
      obtain ⟨y, hy⟩ : ∃ y, Y.getD t 0 = y := ⟨_, rfl⟩
      rw [hy] at hd ht1
      have lt : (Y.take t).length = t := by rw [List.length_take]; omega
      have ld : (Y.drop (t + 1)).length = Y.length - (t + 1) := List.length_drop
      rw [hd] at hA
      have s1 : P ++ (Y.take t ++ x :: y :: Y.drop (t + 1)) ++ Q = (P ++ Y.take t) ++ x :: (y :: (Y.drop (t + 1) ++ Q)) := by simp
      have s2 : P ++ (Y.take t ++ x :: y :: Y.drop (t + 1)) ++ Q = (P ++ Y.take t ++ [x]) ++ y :: (Y.drop (t + 1) ++ Q) := by simp
      have hl : (P ++ (Y.take t ++ x :: y :: Y.drop (t + 1)) ++ Q).length = N := by simp; omega
      have g1 : (nats (P ++ (Y.take t ++ x :: y :: Y.drop (t + 1)) ++ Q))[P.length + t]? = some (.int .i64 (x : Nat)) := by
        rw [nats_get (by omega), s1, getD_at _ _ _ _ (by simp; omega)]
      have g2 : (nats (P ++ (Y.take t ++ x :: y :: Y.drop (t + 1)) ++ Q))[P.length + (t + 1)]? = some (.int .i64 (y : Nat)) := by
        rw [nats_get (by omega), s2, getD_at _ _ _ _ (by simp; omega)]
      have hset : ((P ++ (Y.take t ++ x :: y :: Y.drop (t + 1)) ++ Q).set (P.length + t) y).set (P.length + (t + 1)) x = P ++ (Y.take (t + 1) ++ x :: Y.drop (t + 1)) ++ Q := by
        rw [s1, set_at _ _ _ _ _ (by simp; omega), show P ++ Y.take t ++ y :: y :: (Y.drop (t + 1) ++ Q) = (P ++ Y.take t ++ [y]) ++ y :: (Y.drop (t + 1) ++ Q) by simp, set_at _ _ _ _ _ (by simp; omega), ht1]
        simp
      have c0 := hA.1
      try simp (disch := first | omega | assumption | exact one_int _ _ | exact one_slice _ _ _ | exact one_ptr _ | exact one_bool _ | exact one_string _) only [optK_some_eq, nil2_ptr, ifV_true, ifV_false, run_if, run_out0, run_out1, run_out2, run_out3, optG_some, one_int, one_bool, one_string, one_slice, one_ptr, min2_eq, max2_eq, pick2_eq, u_not, u_neg, cells_agg, inside_ret, chk_true, get_eq, get_ne, List.getElem?_cons_zero, List.getElem?_cons_succ, List.set_cons_zero, List.set_cons_succ, List.length_cons, List.length_nil, Int.toNat_natCast, Int.toNat_zero, Nat.zero_add, Nat.add_zero, decide_eq_true_eq, decide_eq_false_iff_not, true_and, and_true, if_true, if_false, true_or, or_true, Bool.false_eq_true, Bool.true_eq_false, Nat.reduceAdd, Nat.reduceLT, wrap_id, wrap_succ, wrap_pred, len22, bgtr3, bleq3, blss3, beql24, beql3, ix22, ldr3, badd3, bneq3, bneq24, bmul3, str3, bsub3, bshl3, bquo3, bd36x0x1x2, len34, ix34, fa36f2, ldr22, fa36f0, fa46f0, bgeq3, fa46f1, beql22s, beql22n, bd46x0x3, fa46f2, str22, fa46f3, fa36f1, cv3x54, bshr54, cv54x3, e1, w1, w2, c0, g1, g2, nats_len, nats_set, List.length_set, hset]
      refine ⟨by omega, hW, by omega, hW, ?_⟩
      exact ih (t + 1) fu _ (by omega) (by omega) (by omega) ((hA.set (ys := (P ++ (Y.take t ++ x :: y :: Y.drop (t + 1)) ++ Q).set (P.length + t) y) rfl rfl).set rfl rfl)
    · obtain rfl : t = p := by omega
      try simp (disch := first | omega | assumption | exact one_int _ _ | exact one_slice _ _ _ | exact one_ptr _ | exact one_bool _ | exact one_string _) only [optK_some_eq, nil2_ptr, ifV_true, ifV_false, run_if, run_out0, run_out1, run_out2, run_out3, optG_some, one_int, one_bool, one_string, one_slice, one_ptr, min2_eq, max2_eq, pick2_eq, u_not, u_neg, cells_agg, inside_ret, chk_true, get_eq, get_ne, List.getElem?_cons_zero, List.getElem?_cons_succ, List.set_cons_zero, List.set_cons_succ, List.length_cons, List.length_nil, Int.toNat_natCast, Int.toNat_zero, Nat.zero_add, Nat.add_zero, decide_eq_true_eq, decide_eq_false_iff_not, true_and, and_true, if_true, if_false, true_or, or_true, Bool.false_eq_true, Bool.true_eq_false, Nat.reduceAdd, Nat.reduceLT, wrap_id, wrap_succ, wrap_pred, len22, bgtr3, bleq3, blss3, beql24, beql3, ix22, ldr3, badd3, bneq3, bneq24, bmul3, str3, bsub3, bshl3, bquo3, bd36x0x1x2, len34, ix34, fa36f2, ldr22, fa36f0, fa46f0, bgeq3, fa46f1, beql22s, beql22n, bd46x0x3, fa46f2, str22, fa46f3, fa36f1, cv3x54, bshr54, cv54x3, Int.lt_irrefl, w1]
      exact hK hr _ _ hA

/-- of sorted X the place for the one element behind -/
theorem symB (lf d g n cap pw : Nat) (ws : List Int) (h : H) (P X Q : List Nat) (y : Nat) (N : Nat) (hN : (P ++ X ++ y :: Q).length = N) (hNb : N ≤ 1000000) (hE : EnvT h n g pw ws) (hg : g < n) (hh : h.get g = some ⟨3, true, nats (P ++ X ++ y :: Q)⟩) (hy : y < ws.length) (hX : ∀ z ∈ X, z < ws.length) {W : Nat → Prop} {n0 : Nat} (hn0 : n0 ≤ n) {R : Value → H → Nat → Prop} (k : Ex → Fr → M Value) (x1 x3 x28 x80 : Value)
    (hK : ∀ p y85, p ≤ X.length → (p = 0 ∨ ¬ keyW ws y < keyW ws (X.getD (p - 1) 0)) → (p = X.length ∨ keyW ws y < keyW ws (X.getD p 0)) → Run W n0 (k (Ex.exit 4) [(0, .slice (some ⟨g, 0, none⟩) N cap), (1, x1), (2, .int .i64 ((P.length + X.length : Nat) : Int)), (3, x3), (4, .func (.func 34) #[] #[.pointer (some ⟨pw, 0, none⟩)]), (14, .int .i64 ((P.length + p : Nat) : Int)), (15, .int .i64 ((P.length + p : Nat) : Int)), (28, x28), (80, x80), (85, y85)]) h n R) :
    ∀ (m p q fu : Nat), q - p ≤ m → m < fu → p ≤ q → q ≤ X.length → (p = 0 ∨ ¬ keyW ws y < keyW ws (X.getD (p - 1) 0)) → (q = X.length ∨ keyW ws y < keyW ws (X.getD q 0)) →
      Run W n0 (lpB_slices_symMergeCmpFunc_int lf (d + 3) fu k (.slice (some ⟨g, 0, none⟩) N cap) x1 (.int .i64 ((P.length + X.length : Nat) : Int)) x3 (.func (.func 34) #[] #[.pointer (some ⟨pw, 0, none⟩)]) (.int .i64 ((P.length + p : Nat) : Int)) (.int .i64 ((P.length + q : Nat) : Int)) x28 x80) h n R := by
  have lN := hN
  simp only [List.length_append, List.length_cons] at lN
  intro m
  induction m with
  | zero =>
    intro p q fu hm hfu hpq hq h1 h2
    obtain ⟨fu, rfl⟩ : ∃ f, fu = f + 1 := ⟨fu - 1, by omega⟩
    obtain rfl : p = q := by omega
    rw [succB_slices_symMergeCmpFunc_int]
    try simp (disch := first | omega | assumption | exact one_int _ _ | exact one_slice _ _ _ | exact one_ptr _ | exact one_bool _ | exact one_string _) only [optK_some_eq, nil2_ptr, ifV_true, ifV_false, run_if, run_out0, run_out1, run_out2, run_out3, optG_some, one_int, one_bool, one_string, one_slice, one_ptr, min2_eq, max2_eq, pick2_eq, u_not, u_neg, cells_agg, inside_ret, chk_true, get_eq, get_ne, List.getElem?_cons_zero, List.getElem?_cons_succ, List.set_cons_zero, List.set_cons_succ, List.length_cons, List.length_nil, Int.toNat_natCast, Int.toNat_zero, Nat.zero_add, Nat.add_zero, decide_eq_true_eq, decide_eq_false_iff_not, true_and, and_true, if_true, if_false, true_or, or_true, Bool.false_eq_true, Bool.true_eq_false, Nat.reduceAdd, Nat.reduceLT, wrap_id, wrap_succ, wrap_pred, len22, bgtr3, bleq3, blss3, beql24, beql3, ix22, ldr3, badd3, bneq3, bneq24, bmul3, str3, bsub3, bshl3, bquo3, bd36x0x1x2, len34, ix34, fa36f2, ldr22, fa36f0, fa46f0, bgeq3, fa46f1, beql22s, beql22n, bd46x0x3, fa46f2, str22, fa46f3, fa36f1, cv3x54, bshr54, cv54x3, Int.lt_irrefl]
    exact hK p _ hq h1 h2
  | succ m ih =>
    intro p q fu hm hfu hpq hq h1 h2
    obtain ⟨fu, rfl⟩ : ∃ f, fu = f + 1 := ⟨fu - 1, by omega⟩
    rw [succB_slices_symMergeCmpFunc_int]
    by_cases hlt : p < q
    · obtain ⟨c, hc⟩ : ∃ c, (P.length + p + (P.length + q)) / 2 = P.length + c := ⟨(p + q) / 2, by omega⟩
      have hcp : p ≤ c := by omega
      have hcq : c < q := by omega
      have e1 : ((P.length + p : Nat) : Int) < ((P.length + q : Nat) : Int) := by omega
      have e2 : (((P.length + p : Nat) : Int) + ((P.length + q : Nat) : Int)) / 2 = ((P.length + c : Nat) : Int) := by omega
      have hx : X.getD c 0 < ws.length := hX _ (by rw [List.getD_eq_getElem?_getD, List.getElem?_eq_getElem (by omega)]; exact List.getElem_mem _)
      have g1 : (nats (P ++ X ++ y :: Q))[P.length + c]? = some (.int .i64 (X.getD c 0 : Nat)) := by
        rw [nats_get (by omega), getD_mid _ _ _ c _ rfl (by omega)]
      have g2 : (nats (P ++ X ++ y :: Q))[P.length + X.length]? = some (.int .i64 (y : Nat)) := by
        rw [nats_get (by omega), getD_at _ _ _ _ (by simp)]
      try simp (disch := first | omega | assumption | exact one_int _ _ | exact one_slice _ _ _ | exact one_ptr _ | exact one_bool _ | exact one_string _) only [optK_some_eq, nil2_ptr, ifV_true, ifV_false, run_if, run_out0, run_out1, run_out2, run_out3, optG_some, one_int, one_bool, one_string, one_slice, one_ptr, min2_eq, max2_eq, pick2_eq, u_not, u_neg, cells_agg, inside_ret, chk_true, get_eq, get_ne, List.getElem?_cons_zero, List.getElem?_cons_succ, List.set_cons_zero, List.set_cons_succ, List.length_cons, List.length_nil, Int.toNat_natCast, Int.toNat_zero, Nat.zero_add, Nat.add_zero, decide_eq_true_eq, decide_eq_false_iff_not, true_and, and_true, if_true, if_false, true_or, or_true, Bool.false_eq_true, Bool.true_eq_false, Nat.reduceAdd, Nat.reduceLT, wrap_id, wrap_succ, wrap_pred, len22, bgtr3, bleq3, blss3, beql24, beql3, ix22, ldr3, badd3, bneq3, bneq24, bmul3, str3, bsub3, bshl3, bquo3, bd36x0x1x2, len34, ix34, fa36f2, ldr22, fa36f0, fa46f0, bgeq3, fa46f1, beql22s, beql22n, bd46x0x3, fa46f2, str22, fa46f3, fa36f1, cv3x54, bshr54, cv54x3, e1, wrap_u64, half1, half2, e2, hh, g1, g2, callT]
      refine run_same (s_cmp lf d y _ h n g pw ws hE hy hx) hn0 (fun _ _ h => h.elim) ?_
      have e4 := cmp3_neg (keyW ws y) (keyW ws (X.getD c 0))
      try simp (disch := first | omega | assumption | exact one_int _ _ | exact one_slice _ _ _ | exact one_ptr _ | exact one_bool _ | exact one_string _) only [optK_some_eq, nil2_ptr, ifV_true, ifV_false, run_if, run_out0, run_out1, run_out2, run_out3, optG_some, one_int, one_bool, one_string, one_slice, one_ptr, min2_eq, max2_eq, pick2_eq, u_not, u_neg, cells_agg, inside_ret, chk_true, get_eq, get_ne, List.getElem?_cons_zero, List.getElem?_cons_succ, List.set_cons_zero, List.set_cons_succ, List.length_cons, List.length_nil, Int.toNat_natCast, Int.toNat_zero, Nat.zero_add, Nat.add_zero, decide_eq_true_eq, decide_eq_false_iff_not, true_and, and_true, if_true, if_false, true_or, or_true, Bool.false_eq_true, Bool.true_eq_false, Nat.reduceAdd, Nat.reduceLT, wrap_id, wrap_succ, wrap_pred, len22, bgtr3, bleq3, blss3, beql24, beql3, ix22, ldr3, badd3, bneq3, bneq24, bmul3, str3, bsub3, bshl3, bquo3, bd36x0x1x2, len34, ix34, fa36f2, ldr22, fa36f0, fa46f0, bgeq3, fa46f1, beql22s, beql22n, bd46x0x3, fa46f2, str22, fa46f3, fa36f1, cv3x54, bshr54, cv54x3, e4]
      by_cases hk : keyW ws y < keyW ws (X.getD c 0)
      · try simp (disch := first | omega | assumption | exact one_int _ _ | exact one_slice _ _ _ | exact one_ptr _ | exact one_bool _ | exact one_string _) only [optK_some_eq, nil2_ptr, ifV_true, ifV_false, run_if, run_out0, run_out1, run_out2, run_out3, optG_some, one_int, one_bool, one_string, one_slice, one_ptr, min2_eq, max2_eq, pick2_eq, u_not, u_neg, cells_agg, inside_ret, chk_true, get_eq, get_ne, List.getElem?_cons_zero, List.getElem?_cons_succ, List.set_cons_zero, List.set_cons_succ, List.length_cons, List.length_nil, Int.toNat_natCast, Int.toNat_zero, Nat.zero_add, Nat.add_zero, decide_eq_true_eq, decide_eq_false_iff_not, true_and, and_true, if_true, if_false, true_or, or_true, Bool.false_eq_true, Bool.true_eq_false, Nat.reduceAdd, Nat.reduceLT, wrap_id, wrap_succ, wrap_pred, len22, bgtr3, bleq3, blss3, beql24, beql3, ix22, ldr3, badd3, bneq3, bneq24, bmul3, str3, bsub3, bshl3, bquo3, bd36x0x1x2, len34, ix34, fa36f2, ldr22, fa36f0, fa46f0, bgeq3, fa46f1, beql22s, beql22n, bd46x0x3, fa46f2, str22, fa46f3, fa36f1, cv3x54, bshr54, cv54x3, hk, decide_true, Bool.not_true]
        exact ih p c fu (by omega) (by omega) (by omega) (by omega) h1 (.inr hk)
      · have w1 : IntKind.i64.wrap (((P.length + c : Nat) : Int) + 1) = ((P.length + (c + 1) : Nat) : Int) := by rw [wrap_id (by omega) (by omega)]; omega
        have w2 : ((P.length + c : Nat) : Int) + 1 = ((P.length + (c + 1) : Nat) : Int) := by omega
        try simp (disch := first | omega | assumption | exact one_int _ _ | exact one_slice _ _ _ | exact one_ptr _ | exact one_bool _ | exact one_string _) only [optK_some_eq, nil2_ptr, ifV_true, ifV_false, run_if, run_out0, run_out1, run_out2, run_out3, optG_some, one_int, one_bool, one_string, one_slice, one_ptr, min2_eq, max2_eq, pick2_eq, u_not, u_neg, cells_agg, inside_ret, chk_true, get_eq, get_ne, List.getElem?_cons_zero, List.getElem?_cons_succ, List.set_cons_zero, List.set_cons_succ, List.length_cons, List.length_nil, Int.toNat_natCast, Int.toNat_zero, Nat.zero_add, Nat.add_zero, decide_eq_true_eq, decide_eq_false_iff_not, true_and, and_true, if_true, if_false, true_or, or_true, Bool.false_eq_true, Bool.true_eq_false, Nat.reduceAdd, Nat.reduceLT, wrap_id, wrap_succ, wrap_pred, len22, bgtr3, bleq3, blss3, beql24, beql3, ix22, ldr3, badd3, bneq3, bneq24, bmul3, str3, bsub3, bshl3, bquo3, bd36x0x1x2, len34, ix34, fa36f2, ldr22, fa36f0, fa46f0, bgeq3, fa46f1, beql22s, beql22n, bd46x0x3, fa46f2, str22, fa46f3, fa36f1, cv3x54, bshr54, cv54x3, hk, decide_false, Bool.not_false, w1]
        try rw [w2]
        exact ih (c + 1) q fu (by omega) (by omega) (by omega) hq (.inr (by simpa using hk)) h2
    · obtain rfl : p = q := by omega
      try simp (disch := first | omega | assumption | exact one_int _ _ | exact one_slice _ _ _ | exact one_ptr _ | exact one_bool _ | exact one_string _) only [optK_some_eq, nil2_ptr, ifV_true, ifV_false, run_if, run_out0, run_out1, run_out2, run_out3, optG_some, one_int, one_bool, one_string, one_slice, one_ptr, min2_eq, max2_eq, pick2_eq, u_not, u_neg, cells_agg, inside_ret, chk_true, get_eq, get_ne, List.getElem?_cons_zero, List.getElem?_cons_succ, List.set_cons_zero, List.set_cons_succ, List.length_cons, List.length_nil, Int.toNat_natCast, Int.toNat_zero, Nat.zero_add, Nat.add_zero, decide_eq_true_eq, decide_eq_false_iff_not, true_and, and_true, if_true, if_false, true_or, or_true, Bool.false_eq_true, Bool.true_eq_false, Nat.reduceAdd, Nat.reduceLT, wrap_id, wrap_succ, wrap_pred, len22, bgtr3, bleq3, blss3, beql24, beql3, ix22, ldr3, badd3, bneq3, bneq24, bmul3, str3, bsub3, bshl3, bquo3, bd36x0x1x2, len34, ix34, fa36f2, ldr22, fa36f0, fa46f0, bgeq3, fa46f1, beql22s, beql22n, bd46x0x3, fa46f2, str22, fa46f3, fa36f1, cv3x54, bshr54, cv54x3, Int.lt_irrefl]
      exact hK p _ hq h1 h2
/-- the one element behind goes to its place -/
theorem symE (lf d g n cap : Nat) (h : H) (P X Q : List Nat) (y p : Nat) (N : Nat) (hN : (P ++ X ++ y :: Q).length = N) (hNb : N ≤ 1000000) (hp : p ≤ X.length) (hg : g < n) {W : Nat → Prop} {n0 : Nat} (hW : n0 ≤ g ∨ W g) {R : Value → H → Nat → Prop} (k : Ex → Fr → M Value) (x1 x2 x3 x4 x15 x28 x80 x85 : Value)
    (hK : ∀ hr y17 y110, At h hr g (P ++ (X.take p ++ y :: X.drop p) ++ Q) → Run W n0 (k (Ex.exit 6) [(0, .slice (some ⟨g, 0, none⟩) N cap), (1, x1), (2, x2), (3, x3), (4, x4), (14, .int .i64 ((P.length + p : Nat) : Int)), (15, x15), (17, y17), (28, x28), (80, x80), (85, x85), (110, y110)]) hr n R) :
    ∀ (m t fu : Nat) (hr : H), t - p = m → m < fu → p ≤ t → t ≤ X.length → At h hr g (P ++ (X.take t ++ y :: X.drop t) ++ Q) →
      Run W n0 (lpE_slices_symMergeCmpFunc_int lf d fu k (.slice (some ⟨g, 0, none⟩) N cap) x1 x2 x3 x4 (.int .i64 ((P.length + p : Nat) : Int)) x15 (.int .i64 ((P.length + t : Nat) : Int)) x28 x80 x85) hr n R := by
  have lN := hN
  simp only [List.length_append, List.length_cons] at lN
  intro m
  induction m with
  | zero =>
    intro t fu hr hm hfu ht htl hA
    obtain ⟨fu, rfl⟩ : ∃ f, fu = f + 1 := ⟨fu - 1, by omega⟩
    obtain rfl : t = p := by omega
    rw [succE_slices_symMergeCmpFunc_int]
    try simp (disch := first | omega | assumption | exact one_int _ _ | exact one_slice _ _ _ | exact one_ptr _ | exact one_bool _ | exact one_string _) only [optK_some_eq, nil2_ptr, ifV_true, ifV_false, run_if, run_out0, run_out1, run_out2, run_out3, optG_some, one_int, one_bool, one_string, one_slice, one_ptr, min2_eq, max2_eq, pick2_eq, u_not, u_neg, cells_agg, inside_ret, chk_true, get_eq, get_ne, List.getElem?_cons_zero, List.getElem?_cons_succ, List.set_cons_zero, List.set_cons_succ, List.length_cons, List.length_nil, Int.toNat_natCast, Int.toNat_zero, Nat.zero_add, Nat.add_zero, decide_eq_true_eq, decide_eq_false_iff_not, true_and, and_true, if_true, if_false, true_or, or_true, Bool.false_eq_true, Bool.true_eq_false, Nat.reduceAdd, Nat.reduceLT, wrap_id, wrap_succ, wrap_pred, len22, bgtr3, bleq3, blss3, beql24, beql3, ix22, ldr3, badd3, bneq3, bneq24, bmul3, str3, bsub3, bshl3, bquo3, bd36x0x1x2, len34, ix34, fa36f2, ldr22, fa36f0, fa46f0, bgeq3, fa46f1, beql22s, beql22n, bd46x0x3, fa46f2, str22, fa46f3, fa36f1, cv3x54, bshr54, cv54x3, Int.lt_irrefl]
    exact hK hr _ _ hA
  | succ m ih =>
    intro t fu hr hm hfu ht htl hA
    obtain ⟨fu, rfl⟩ : ∃ f, fu = f + 1 := ⟨fu - 1, by omega⟩
    obtain ⟨t, rfl⟩ : ∃ f, t = f + 1 := ⟨t - 1, by omega⟩
    rw [succE_slices_symMergeCmpFunc_int]
    have e1 : ((P.length + p : Nat) : Int) < ((P.length + (t + 1) : Nat) : Int) := by omega
    have w2 : IntKind.i64.wrap (((P.length + (t + 1) : Nat) : Int) - 1) = ((P.length + t : Nat) : Int) := by rw [wrap_id (by omega) (by omega)]; omega
    have hd : X.drop t = X.getD t 0 :: X.drop (t + 1) := by rw [List.drop_eq_getElem_cons (by omega), List.getD_eq_getElem?_getD, List.getElem?_eq_getElem (by omega)]; rfl
    have ht1 : X.take (t + 1) = X.take t ++ [X.getD t 0] := by rw [List.take_succ_eq_append_getElem (by omega), List.getD_eq_getElem?_getD, List.getElem?_eq_getElem (by omega)]; rfl
    obtain ⟨x, hx⟩ : ∃ y, X.getD t 0 = y := ⟨_, rfl⟩
    rw [hx] at hd ht1
    have lt : (X.take t).length = t := by rw [List.length_take]; omega
    have ld : (X.drop (t + 1)).length = X.length - (t + 1) := List.length_drop
    rw [ht1] at hA
    have s1 : P ++ (X.take t ++ [x] ++ y :: X.drop (t + 1)) ++ Q = (P ++ X.take t) ++ x :: (y :: (X.drop (t + 1) ++ Q)) := by simp
    have s2 : P ++ (X.take t ++ [x] ++ y :: X.drop (t + 1)) ++ Q = (P ++ X.take t ++ [x]) ++ y :: (X.drop (t + 1) ++ Q) := by simp
    have hl : (P ++ (X.take t ++ [x] ++ y :: X.drop (t + 1)) ++ Q).length = N := by simp; omega
    have g1 : (nats (P ++ (X.take t ++ [x] ++ y :: X.drop (t + 1)) ++ Q))[P.length + t]? = some (.int .i64 (x : Nat)) := by
      rw [nats_get (by omega), s1, getD_at _ _ _ _ (by simp; omega)]
    have g2 : (nats (P ++ (X.take t ++ [x] ++ y :: X.drop (t + 1)) ++ Q))[P.length + (t + 1)]? = some (.int .i64 (y : Nat)) := by
      rw [nats_get (by omega), s2, getD_at _ _ _ _ (by simp; omega)]
    have hset : ((P ++ (X.take t ++ [x] ++ y :: X.drop (t + 1)) ++ Q).set (P.length + (t + 1)) x).set (P.length + t) y = P ++ (X.take t ++ y :: X.drop t) ++ Q := by
      rw [s2, set_at _ _ _ _ _ (by simp; omega), show P ++ X.take t ++ [x] ++ x :: (X.drop (t + 1) ++ Q) = (P ++ X.take t) ++ x :: (x :: (X.drop (t + 1) ++ Q)) by simp, set_at _ _ _ _ _ (by simp; omega), hd]
      simp
    have c0 := hA.1
    try simp (disch := first | omega | assumption | exact one_int _ _ | exact one_slice _ _ _ | exact one_ptr _ | exact one_bool _ | exact one_string _) only [optK_some_eq, nil2_ptr, ifV_true, ifV_false, run_if, run_out0, run_out1, run_out2, run_out3, optG_some, one_int, one_bool, one_string, one_slice, one_ptr, min2_eq, max2_eq, pick2_eq, u_not, u_neg, cells_agg, inside_ret, chk_true, get_eq, get_ne, List.getElem?_cons_zero, List.getElem?_cons_succ, List.set_cons_zero, List.set_cons_succ, List.length_cons, List.length_nil, Int.toNat_natCast, Int.toNat_zero, Nat.zero_add, Nat.add_zero, decide_eq_true_eq, decide_eq_false_iff_not, true_and, and_true, if_true, if_false, true_or, or_true, Bool.false_eq_true, Bool.true_eq_false, Nat.reduceAdd, Nat.reduceLT, wrap_id, wrap_succ, wrap_pred, len22, bgtr3, bleq3, blss3, beql24, beql3, ix22, ldr3, badd3, bneq3, bneq24, bmul3, str3, bsub3, bshl3, bquo3, bd36x0x1x2, len34, ix34, fa36f2, ldr22, fa36f0, fa46f0, bgeq3, fa46f1, beql22s, beql22n, bd46x0x3, fa46f2, str22, fa46f3, fa36f1, cv3x54, bshr54, cv54x3, e1, w2, c0, g1, g2, nats_len, nats_set, List.length_set, hset]
    refine ⟨by omega, hW, by omega, hW, ?_⟩
    exact ih t fu _ (by omega) (by omega) (by omega) (by omega) ((hA.set (ys := (P ++ (X.take t ++ [x] ++ y :: X.drop (t + 1)) ++ Q).set (P.length + (t + 1)) x) rfl rfl).set rfl rfl)

end Go.Proofs.Ytapdcejhfooahaa

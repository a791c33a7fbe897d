/- The statements LensOrder and LensCheap, walked by the second form. -/
import Derived.Test.YtapdcejhfooahaaLf
import Derived.Test.YtapdcejhfooahaaLg
namespace Go.Proofs.Ytapdcejhfooahaa
set_option linter.unusedVariables false
set_option linter.unusedSimpArgs false
open Go.RowKit Ev Hu

theorem ext0 (a b : Value) : evExtract (.tuple #[a, b]) 0 = some a := rfl
theorem ext1 (a b : Value) : evExtract (.tuple #[a, b]) 1 = some b := rfl
theorem mem_getD {xs : List Int} {i : Nat} (h : i < xs.length) : xs.getD i 0 ∈ xs := by
  rw [List.getD_eq_getElem?_getD, List.getElem?_eq_getElem h]
  exact List.getElem_mem _
theorem run_three {lf d n n0 : Nat} {h : H} {W : Nat → Prop} (hn : n0 ≤ n) : Run W n0 ((inside (evCall2 Try.prog gt lf (d + 1) 9 #[])).bind fun v => outK [v]) h n fun v _ _ => v = .bool true := by
  refine run_same (k_three lf d n h) hn (fun _ _ h => h.elim) ?_
  rw [run_out1]

/-! of two symbols the one with the greater weight has no greater depth -/
theorem orB (lf d n : Nat) (h : H) (b1 o1 c1 b2 o2 c2 N : Nat) (ws l : List Int) (B1 B2 : AB) (g1 : h.get b1 = some B1) (g2 : h.get b2 = some B2) (hb1 : b1 < n) (hb2 : b2 < n) (hN : ws.length = N) (hl : l.length = N) (hNb : N ≤ 1000000) (a1 : ∀ i, i < N → B1.cells[o1 + i]? = some (.int .i64 (ws.getD i 0))) (a2 : ∀ i, i < N → B2.cells[o2 + i]? = some (.int .i64 (l.getD i 0)))
    (i : Nat) (hi : i < N) (hord : ∀ k, k < N → ws.getD k 0 < ws.getD i 0 → l.getD i 0 ≤ l.getD k 0) (x2 x4 x21 x36 x37 x38 x39 x40 : Value) {W : Nat → Prop} {n0 : Nat} {R : Value → H → Nat → Prop} (k : Ex → Fr → M Value)
    (hK : ∀ y47, Run W n0 (k (Ex.exit 2) [(0, .slice (some ⟨b1, o1, none⟩) N c1), (2, x2), (3, .slice (some ⟨b2, o2, none⟩) N c2), (4, x4), (5, .int .i64 (i : Nat)), (6, .int .i64 (ws.getD i 0)), (21, x21), (36, x36), (37, x37), (38, x38), (39, x39), (40, x40), (44, .slice (some ⟨b1, o1, none⟩) N c1), (45, .int .i64 (N : Nat)), (46, .int .i64 (N : Nat)), (47, y47)]) h n R) :
    ∀ (m j fu : Nat), N - j = m → m < fu → j ≤ N → Run W n0 (lpB_balerlaw09_LensOrder lf d fu k (.slice (some ⟨b1, o1, none⟩) N c1) x2 (.slice (some ⟨b2, o2, none⟩) N c2) x4 (.int .i64 (i : Nat)) (.int .i64 (ws.getD i 0)) x21 x36 x37 x38 x39 x40 (.slice (some ⟨b1, o1, none⟩) N c1) (.int .i64 (N : Nat)) (.int .i64 (j : Nat))) h n R := by
  intro m
  induction m with
  | zero =>
    intro j fu hm hfu hj
    obtain ⟨fu, rfl⟩ : ∃ f, fu = f + 1 := ⟨fu - 1, by omega⟩
    obtain rfl : j = N := by omega
    rw [succB_balerlaw09_LensOrder]
    try simp (disch := first | omega | assumption | exact one_int _ _ | exact one_slice _ _ _ | exact one_ptr _ | exact one_bool _ | exact one_string _) only [optK_some_eq, nil2_ptr, ifV_true, ifV_false, run_if, run_out0, run_out1, run_out2, run_out3, optG_some, one_int, one_bool, one_string, one_slice, one_ptr, min2_eq, max2_eq, pick2_eq, u_not, u_neg, cells_agg, inside_ret, chk_true, get_eq, get_ne, List.getElem?_cons_zero, List.getElem?_cons_succ, List.set_cons_zero, List.set_cons_succ, List.length_cons, List.length_nil, Int.toNat_natCast, Int.toNat_zero, Nat.zero_add, Nat.add_zero, decide_eq_true_eq, decide_eq_false_iff_not, true_and, and_true, if_true, if_false, true_or, or_true, Bool.false_eq_true, Bool.true_eq_false, Nat.reduceAdd, Nat.reduceLT, wrap_id, wrap_succ, wrap_pred, len22, bgtr3, bleq3, blss3, beql24, beql3, ix22, ldr3, badd3, bneq3, bneq24, bmul3, str3, bsub3, bshl3, bquo3, bd36x0x1x2, len34, ix34, fa36f2, ldr22, fa36f0, fa46f0, bgeq3, fa46f1, beql22s, beql22n, bd46x0x3, fa46f2, str22, fa46f3, fa36f1, cv3x54, bshr54, cv54x3, Int.lt_irrefl]
    exact hK _
  | succ m ih =>
    intro j fu hm hfu hj
    obtain ⟨fu, rfl⟩ : ∃ f, fu = f + 1 := ⟨fu - 1, by omega⟩
    have e1 : ((j : Nat) : Int) < ((N : Nat) : Int) := by omega
    have e2 : ((i : Nat) : Int) < ((N : Nat) : Int) := by omega
    have w1 : ((j : Nat) : Int) + 1 = ((j + 1 : Nat) : Int) := by omega
    have q1 := a1 j (by omega)
    have q2 := a2 j (by omega)
    have q3 := a2 i hi
    rw [succB_balerlaw09_LensOrder]
    by_cases hlt : ws.getD j 0 < ws.getD i 0
    · have hle : ¬ l.getD j 0 < l.getD i 0 := by have := hord j (by omega) hlt; omega
      try simp (disch := first | omega | assumption | exact one_int _ _ | exact one_slice _ _ _ | exact one_ptr _ | exact one_bool _ | exact one_string _) only [optK_some_eq, nil2_ptr, ifV_true, ifV_false, run_if, run_out0, run_out1, run_out2, run_out3, optG_some, one_int, one_bool, one_string, one_slice, one_ptr, min2_eq, max2_eq, pick2_eq, u_not, u_neg, cells_agg, inside_ret, chk_true, get_eq, get_ne, List.getElem?_cons_zero, List.getElem?_cons_succ, List.set_cons_zero, List.set_cons_succ, List.length_cons, List.length_nil, Int.toNat_natCast, Int.toNat_zero, Nat.zero_add, Nat.add_zero, decide_eq_true_eq, decide_eq_false_iff_not, true_and, and_true, if_true, if_false, true_or, or_true, Bool.false_eq_true, Bool.true_eq_false, Nat.reduceAdd, Nat.reduceLT, wrap_id, wrap_succ, wrap_pred, len22, bgtr3, bleq3, blss3, beql24, beql3, ix22, ldr3, badd3, bneq3, bneq24, bmul3, str3, bsub3, bshl3, bquo3, bd36x0x1x2, len34, ix34, fa36f2, ldr22, fa36f0, fa46f0, bgeq3, fa46f1, beql22s, beql22n, bd46x0x3, fa46f2, str22, fa46f3, fa36f1, cv3x54, bshr54, cv54x3, e1, e2, g1, g2, q1, q2, q3, hlt, hle]
      rw [w1]
      exact ih (j + 1) fu (by omega) (by omega) (by omega)
    · try simp (disch := first | omega | assumption | exact one_int _ _ | exact one_slice _ _ _ | exact one_ptr _ | exact one_bool _ | exact one_string _) only [optK_some_eq, nil2_ptr, ifV_true, ifV_false, run_if, run_out0, run_out1, run_out2, run_out3, optG_some, one_int, one_bool, one_string, one_slice, one_ptr, min2_eq, max2_eq, pick2_eq, u_not, u_neg, cells_agg, inside_ret, chk_true, get_eq, get_ne, List.getElem?_cons_zero, List.getElem?_cons_succ, List.set_cons_zero, List.set_cons_succ, List.length_cons, List.length_nil, Int.toNat_natCast, Int.toNat_zero, Nat.zero_add, Nat.add_zero, decide_eq_true_eq, decide_eq_false_iff_not, true_and, and_true, if_true, if_false, true_or, or_true, Bool.false_eq_true, Bool.true_eq_false, Nat.reduceAdd, Nat.reduceLT, wrap_id, wrap_succ, wrap_pred, len22, bgtr3, bleq3, blss3, beql24, beql3, ix22, ldr3, badd3, bneq3, bneq24, bmul3, str3, bsub3, bshl3, bquo3, bd36x0x1x2, len34, ix34, fa36f2, ldr22, fa36f0, fa46f0, bgeq3, fa46f1, beql22s, beql22n, bd46x0x3, fa46f2, str22, fa46f3, fa36f1, cv3x54, bshr54, cv54x3, e1, e2, g1, g2, q1, q2, q3, hlt]
      rw [w1]
      exact ih (j + 1) fu (by omega) (by omega) (by omega)
theorem orA (lf d n : Nat) (h : H) (b1 o1 c1 b2 o2 c2 N : Nat) (ws l : List Int) (B1 B2 : AB) (g1 : h.get b1 = some B1) (g2 : h.get b2 = some B2) (hb1 : b1 < n) (hb2 : b2 < n) (hN : ws.length = N) (hl : l.length = N) (hNb : N ≤ 1000000) (a1 : ∀ i, i < N → B1.cells[o1 + i]? = some (.int .i64 (ws.getD i 0))) (a2 : ∀ i, i < N → B2.cells[o2 + i]? = some (.int .i64 (l.getD i 0)))
    (hord : ∀ i k, i < N → k < N → ws.getD k 0 < ws.getD i 0 → l.getD i 0 ≤ l.getD k 0) (x2 x4 x21 x36 : Value) (hlf : 3000000 ≤ lf) {W : Nat → Prop} {n0 : Nat} (hn0 : n0 ≤ n) :
    ∀ (m i fu : Nat), N - i = m → m < fu → i ≤ N → Run W n0 (lpA_balerlaw09_LensOrder lf (d + 1) fu (kcA_balerlaw09_LensOrder lf (d + 1)) (.slice (some ⟨b1, o1, none⟩) N c1) x2 (.slice (some ⟨b2, o2, none⟩) N c2) x4 x21 x36 (.slice (some ⟨b1, o1, none⟩) N c1) (.int .i64 (N : Nat)) (.int .i64 (i : Nat))) h n fun v _ _ => v = .bool true := by
  intro m
  induction m with
  | zero =>
    intro i fu hm hfu hi
    obtain ⟨fu, rfl⟩ : ∃ f, fu = f + 1 := ⟨fu - 1, by omega⟩
    obtain rfl : i = N := by omega
    rw [succA_balerlaw09_LensOrder]
    try simp (disch := first | omega | assumption | exact one_int _ _ | exact one_slice _ _ _ | exact one_ptr _ | exact one_bool _ | exact one_string _) only [optK_some_eq, nil2_ptr, ifV_true, ifV_false, run_if, run_out0, run_out1, run_out2, run_out3, optG_some, one_int, one_bool, one_string, one_slice, one_ptr, min2_eq, max2_eq, pick2_eq, u_not, u_neg, cells_agg, inside_ret, chk_true, get_eq, get_ne, List.getElem?_cons_zero, List.getElem?_cons_succ, List.set_cons_zero, List.set_cons_succ, List.length_cons, List.length_nil, Int.toNat_natCast, Int.toNat_zero, Nat.zero_add, Nat.add_zero, decide_eq_true_eq, decide_eq_false_iff_not, true_and, and_true, if_true, if_false, true_or, or_true, Bool.false_eq_true, Bool.true_eq_false, Nat.reduceAdd, Nat.reduceLT, wrap_id, wrap_succ, wrap_pred, len22, bgtr3, bleq3, blss3, beql24, beql3, ix22, ldr3, badd3, bneq3, bneq24, bmul3, str3, bsub3, bshl3, bquo3, bd36x0x1x2, len34, ix34, fa36f2, ldr22, fa36f0, fa46f0, bgeq3, fa46f1, beql22s, beql22n, bd46x0x3, fa46f2, str22, fa46f3, fa36f1, cv3x54, bshr54, cv54x3, Int.lt_irrefl]
    rw [kcAa_balerlaw09_LensOrder]
    exact run_three hn0
  | succ m ih =>
    intro i fu hm hfu hi
    obtain ⟨fu, rfl⟩ : ∃ f, fu = f + 1 := ⟨fu - 1, by omega⟩
    have e1 : ((i : Nat) : Int) < ((N : Nat) : Int) := by omega
    have w1 : ((i : Nat) : Int) + 1 = ((i + 1 : Nat) : Int) := by omega
    have q1 := a1 i (by omega)
    rw [succA_balerlaw09_LensOrder]
    try simp (disch := first | omega | assumption | exact one_int _ _ | exact one_slice _ _ _ | exact one_ptr _ | exact one_bool _ | exact one_string _) only [optK_some_eq, nil2_ptr, ifV_true, ifV_false, run_if, run_out0, run_out1, run_out2, run_out3, optG_some, one_int, one_bool, one_string, one_slice, one_ptr, min2_eq, max2_eq, pick2_eq, u_not, u_neg, cells_agg, inside_ret, chk_true, get_eq, get_ne, List.getElem?_cons_zero, List.getElem?_cons_succ, List.set_cons_zero, List.set_cons_succ, List.length_cons, List.length_nil, Int.toNat_natCast, Int.toNat_zero, Nat.zero_add, Nat.add_zero, decide_eq_true_eq, decide_eq_false_iff_not, true_and, and_true, if_true, if_false, true_or, or_true, Bool.false_eq_true, Bool.true_eq_false, Nat.reduceAdd, Nat.reduceLT, wrap_id, wrap_succ, wrap_pred, len22, bgtr3, bleq3, blss3, beql24, beql3, ix22, ldr3, badd3, bneq3, bneq24, bmul3, str3, bsub3, bshl3, bquo3, bd36x0x1x2, len34, ix34, fa36f2, ldr22, fa36f0, fa46f0, bgeq3, fa46f1, beql22s, beql22n, bd46x0x3, fa46f2, str22, fa46f3, fa36f1, cv3x54, bshr54, cv54x3, e1, g1, q1]
    have e0 : (.int .i64 0 : Value) = .int .i64 ((0 : Nat) : Int) := rfl
    rw [e0]
    refine orB lf (d + 1) n h b1 o1 c1 b2 o2 c2 N ws l B1 B2 g1 g2 hb1 hb2 hN hl hNb a1 a2 i (by omega) (fun k hk => hord i k (by omega) hk) _ _ _ _ _ _ _ _ _ (fun y47 => ?_) N 0 lf (by omega) (by omega) (by omega)
    rw [kcBb_balerlaw09_LensOrder]
    try simp (disch := first | omega | assumption | exact one_int _ _ | exact one_slice _ _ _ | exact one_ptr _ | exact one_bool _ | exact one_string _) only [optK_some_eq, nil2_ptr, ifV_true, ifV_false, run_if, run_out0, run_out1, run_out2, run_out3, optG_some, one_int, one_bool, one_string, one_slice, one_ptr, min2_eq, max2_eq, pick2_eq, u_not, u_neg, cells_agg, inside_ret, chk_true, get_eq, get_ne, List.getElem?_cons_zero, List.getElem?_cons_succ, List.set_cons_zero, List.set_cons_succ, List.length_cons, List.length_nil, Int.toNat_natCast, Int.toNat_zero, Nat.zero_add, Nat.add_zero, decide_eq_true_eq, decide_eq_false_iff_not, true_and, and_true, if_true, if_false, true_or, or_true, Bool.false_eq_true, Bool.true_eq_false, Nat.reduceAdd, Nat.reduceLT, wrap_id, wrap_succ, wrap_pred, len22, bgtr3, bleq3, blss3, beql24, beql3, ix22, ldr3, badd3, bneq3, bneq24, bmul3, str3, bsub3, bshl3, bquo3, bd36x0x1x2, len34, ix34, fa36f2, ldr22, fa36f0, fa46f0, bgeq3, fa46f1, beql22s, beql22n, bd46x0x3, fa46f2, str22, fa46f3, fa36f1, cv3x54, bshr54, cv54x3]
    rw [w1]
    exact ih (i + 1) fu (by omega) (by omega) (by omega)
theorem law_Order (n : Nat) (h : H) (v : Value) (ws : List Int) (hR : Row h n 3 .i64 v ws) (hL : ws.length ≤ 9223372036854775807) :
    Run (fun _ => False) n (evCall2 Try.prog gt 3000000 1000 8 #[v]) h n fun v' _ _ => v' = .bool true := by
  have aux : ∀ lf d, 3000000 ≤ lf → 500 ≤ d → Run (fun _ => False) n (evCall2 Try.prog gt lf d 8 #[v]) h n fun v' _ _ => v' = .bool true := by
    intro lf d hlf hd
    obtain ⟨d, rfl⟩ : ∃ e, d = e + 2 := ⟨d - 2, by omega⟩
    rw [sh_balerlaw09_LensOrder]
    refine Run.inside_ ?_
    unfold b_balerlaw09_LensOrder
    have hR0 := hR
    obtain ⟨a, c, rfl⟩ := hR.len
    by_cases c1 : ws.length < 2
    · have e1 : ((ws.length : Nat) : Int) < 2 := by omega
      try simp (disch := first | omega | assumption | exact one_int _ _ | exact one_slice _ _ _ | exact one_ptr _ | exact one_bool _ | exact one_string _) only [optK_some_eq, nil2_ptr, ifV_true, ifV_false, run_if, run_out0, run_out1, run_out2, run_out3, optG_some, one_int, one_bool, one_string, one_slice, one_ptr, min2_eq, max2_eq, pick2_eq, u_not, u_neg, cells_agg, inside_ret, chk_true, get_eq, get_ne, List.getElem?_cons_zero, List.getElem?_cons_succ, List.set_cons_zero, List.set_cons_succ, List.length_cons, List.length_nil, Int.toNat_natCast, Int.toNat_zero, Nat.zero_add, Nat.add_zero, decide_eq_true_eq, decide_eq_false_iff_not, true_and, and_true, if_true, if_false, true_or, or_true, Bool.false_eq_true, Bool.true_eq_false, Nat.reduceAdd, Nat.reduceLT, wrap_id, wrap_succ, wrap_pred, len22, bgtr3, bleq3, blss3, beql24, beql3, ix22, ldr3, badd3, bneq3, bneq24, bmul3, str3, bsub3, bshl3, bquo3, bd36x0x1x2, len34, ix34, fa36f2, ldr22, fa36f0, fa46f0, bgeq3, fa46f1, beql22s, beql22n, bd46x0x3, fa46f2, str22, fa46f3, fa36f1, cv3x54, bshr54, cv54x3, e1]
      exact run_three (Nat.le_refl n)
    have e1 : ¬ ((ws.length : Nat) : Int) < 2 := by omega
    by_cases c2 : 100 < ws.length
    · have e2 : (100 : Int) < ((ws.length : Nat) : Int) := by omega
      try simp (disch := first | omega | assumption | exact one_int _ _ | exact one_slice _ _ _ | exact one_ptr _ | exact one_bool _ | exact one_string _) only [optK_some_eq, nil2_ptr, ifV_true, ifV_false, run_if, run_out0, run_out1, run_out2, run_out3, optG_some, one_int, one_bool, one_string, one_slice, one_ptr, min2_eq, max2_eq, pick2_eq, u_not, u_neg, cells_agg, inside_ret, chk_true, get_eq, get_ne, List.getElem?_cons_zero, List.getElem?_cons_succ, List.set_cons_zero, List.set_cons_succ, List.length_cons, List.length_nil, Int.toNat_natCast, Int.toNat_zero, Nat.zero_add, Nat.add_zero, decide_eq_true_eq, decide_eq_false_iff_not, true_and, and_true, if_true, if_false, true_or, or_true, Bool.false_eq_true, Bool.true_eq_false, Nat.reduceAdd, Nat.reduceLT, wrap_id, wrap_succ, wrap_pred, len22, bgtr3, bleq3, blss3, beql24, beql3, ix22, ldr3, badd3, bneq3, bneq24, bmul3, str3, bsub3, bshl3, bquo3, bd36x0x1x2, len34, ix34, fa36f2, ldr22, fa36f0, fa46f0, bgeq3, fa46f1, beql22s, beql22n, bd46x0x3, fa46f2, str22, fa46f3, fa36f1, cv3x54, bshr54, cv54x3, e1, e2]
      exact run_three (Nat.le_refl n)
    have e2 : ¬ (100 : Int) < ((ws.length : Nat) : Int) := by omega
    try simp (disch := first | omega | assumption | exact one_int _ _ | exact one_slice _ _ _ | exact one_ptr _ | exact one_bool _ | exact one_string _) only [optK_some_eq, nil2_ptr, ifV_true, ifV_false, run_if, run_out0, run_out1, run_out2, run_out3, optG_some, one_int, one_bool, one_string, one_slice, one_ptr, min2_eq, max2_eq, pick2_eq, u_not, u_neg, cells_agg, inside_ret, chk_true, get_eq, get_ne, List.getElem?_cons_zero, List.getElem?_cons_succ, List.set_cons_zero, List.set_cons_succ, List.length_cons, List.length_nil, Int.toNat_natCast, Int.toNat_zero, Nat.zero_add, Nat.add_zero, decide_eq_true_eq, decide_eq_false_iff_not, true_and, and_true, if_true, if_false, true_or, or_true, Bool.false_eq_true, Bool.true_eq_false, Nat.reduceAdd, Nat.reduceLT, wrap_id, wrap_succ, wrap_pred, len22, bgtr3, bleq3, blss3, beql24, beql3, ix22, ldr3, badd3, bneq3, bneq24, bmul3, str3, bsub3, bshl3, bquo3, bd36x0x1x2, len34, ix34, fa36f2, ldr22, fa36f0, fa46f0, bgeq3, fa46f1, beql22s, beql22n, bd46x0x3, fa46f2, str22, fa46f3, fa36f1, cv3x54, bshr54, cv54x3, e1, e2]
    refine run_same (s_May lf d n h _ ws hR0 1 1099511627776 (by omega) hlf) (Nat.le_refl _) (fun _ _ h => h.elim) ?_
    by_cases hm : allIn 1 1099511627776 ws = true
    · rw [hm, u_not, optK_some_eq, Bool.not_true]
      try simp (disch := first | omega | assumption | exact one_int _ _ | exact one_slice _ _ _ | exact one_ptr _ | exact one_bool _ | exact one_string _) only [optK_some_eq, nil2_ptr, ifV_true, ifV_false, run_if, run_out0, run_out1, run_out2, run_out3, optG_some, one_int, one_bool, one_string, one_slice, one_ptr, min2_eq, max2_eq, pick2_eq, u_not, u_neg, cells_agg, inside_ret, chk_true, get_eq, get_ne, List.getElem?_cons_zero, List.getElem?_cons_succ, List.set_cons_zero, List.set_cons_succ, List.length_cons, List.length_nil, Int.toNat_natCast, Int.toNat_zero, Nat.zero_add, Nat.add_zero, decide_eq_true_eq, decide_eq_false_iff_not, true_and, and_true, if_true, if_false, true_or, or_true, Bool.false_eq_true, Bool.true_eq_false, Nat.reduceAdd, Nat.reduceLT, wrap_id, wrap_succ, wrap_pred, len22, bgtr3, bleq3, blss3, beql24, beql3, ix22, ldr3, badd3, bneq3, bneq24, bmul3, str3, bsub3, bshl3, bquo3, bd36x0x1x2, len34, ix34, fa36f2, ldr22, fa36f0, fa46f0, bgeq3, fa46f1, beql22s, beql22n, bd46x0x3, fa46f2, str22, fa46f3, fa36f1, cv3x54, bshr54, cv54x3]
      refine run_call okd (s_Depths_ok lf (d + 1) n h _ ws hR0 (by omega) (by omega) hm hlf (by omega)) (Nat.le_refl n) (fun _ _ h => h.elim) fun v1 h1 n1 hn1 fr1 hq => ?_
      obtain ⟨l, rfl, so, hl⟩ := hq
      have hR1 := hR0.keep hn1 (fun b hb => fr1 b hb id)
      have hm' := allIn_iff.1 hm
      have hW : Ws ws := ⟨by omega, by omega, fun x hx => by have := hm' x hx; omega, fun x hx => by have := hm' x hx; omega⟩
      obtain ⟨w, I, A, B, X, R, dep, D⟩ := hW.deps so
      have dl := depF_len (ws := ws) (by omega)
      obtain ⟨b1, o1, c1, ow1, cs1, ev1, g1, hb1, _, _, _, a1⟩ := hR1.some (by omega)
      obtain ⟨b2, o2, c2, ow2, cs2, rfl, g2, hb2, _, _, _, a2⟩ := hl.some (by omega)
      rw [ev1]
      rw [dl] at a2
      rw [dl]
      have z1 : ((0 : Int) != 0) = false := rfl
      have z2 : (((ws.length : Nat) : Int) != ((ws.length : Nat) : Int)) = false := by simp
      try simp (disch := first | omega | assumption | exact one_int _ _ | exact one_slice _ _ _ | exact one_ptr _ | exact one_bool _ | exact one_string _) only [optK_some_eq, nil2_ptr, ifV_true, ifV_false, run_if, run_out0, run_out1, run_out2, run_out3, optG_some, one_int, one_bool, one_string, one_slice, one_ptr, min2_eq, max2_eq, pick2_eq, u_not, u_neg, cells_agg, inside_ret, chk_true, get_eq, get_ne, List.getElem?_cons_zero, List.getElem?_cons_succ, List.set_cons_zero, List.set_cons_succ, List.length_cons, List.length_nil, Int.toNat_natCast, Int.toNat_zero, Nat.zero_add, Nat.add_zero, decide_eq_true_eq, decide_eq_false_iff_not, true_and, and_true, if_true, if_false, true_or, or_true, Bool.false_eq_true, Bool.true_eq_false, Nat.reduceAdd, Nat.reduceLT, wrap_id, wrap_succ, wrap_pred, len22, bgtr3, bleq3, blss3, beql24, beql3, ix22, ldr3, badd3, bneq3, bneq24, bmul3, str3, bsub3, bshl3, bquo3, bd36x0x1x2, len34, ix34, fa36f2, ldr22, fa36f0, fa46f0, bgeq3, fa46f1, beql22s, beql22n, bd46x0x3, fa46f2, str22, fa46f3, fa36f1, cv3x54, bshr54, cv54x3, ext0, ext1, z1, z2]
      have e0 : (.int .i64 0 : Value) = .int .i64 ((0 : Nat) : Int) := rfl
      refine orA lf d n1 h1 b1 o1 c1 b2 o2 c2 ws.length ws (depF ws) _ _ g1 g2 hb1 hb2 rfl dl (by omega) a1 a2 (fun i k hi hk hlt => ?_) _ _ _ _ hlf hn1 ws.length 0 lf (by omega) (by omega) (by omega)
      have hord := D.m.order D.d0 D.d1 hi hk (by rw [D.ww _ hi, D.ww _ hk]; exact hlt)
      unfold depF
      rw [D.at_ hi, D.at_ hk]
      omega
    · rw [Bool.eq_false_iff.2 hm, u_not, optK_some_eq, Bool.not_false]
      try simp (disch := first | omega | assumption | exact one_int _ _ | exact one_slice _ _ _ | exact one_ptr _ | exact one_bool _ | exact one_string _) only [optK_some_eq, nil2_ptr, ifV_true, ifV_false, run_if, run_out0, run_out1, run_out2, run_out3, optG_some, one_int, one_bool, one_string, one_slice, one_ptr, min2_eq, max2_eq, pick2_eq, u_not, u_neg, cells_agg, inside_ret, chk_true, get_eq, get_ne, List.getElem?_cons_zero, List.getElem?_cons_succ, List.set_cons_zero, List.set_cons_succ, List.length_cons, List.length_nil, Int.toNat_natCast, Int.toNat_zero, Nat.zero_add, Nat.add_zero, decide_eq_true_eq, decide_eq_false_iff_not, true_and, and_true, if_true, if_false, true_or, or_true, Bool.false_eq_true, Bool.true_eq_false, Nat.reduceAdd, Nat.reduceLT, wrap_id, wrap_succ, wrap_pred, len22, bgtr3, bleq3, blss3, beql24, beql3, ix22, ldr3, badd3, bneq3, bneq24, bmul3, str3, bsub3, bshl3, bquo3, bd36x0x1x2, len34, ix34, fa36f2, ldr22, fa36f0, fa46f0, bgeq3, fa46f1, beql22s, beql22n, bd46x0x3, fa46f2, str22, fa46f3, fa36f1, cv3x54, bshr54, cv54x3]
      exact run_three (Nat.le_refl n)
  exact aux _ _ (Nat.le_refl _) (by omega)

/-! none is cheaper -/
def dotTo (xs ls : List Int) (i : Nat) : Int := sumI ((List.range i).map fun j => xs.getD j 0 * ls.getD j 0)
theorem dot_next (xs ls : List Int) (i : Nat) : dotTo xs ls (i + 1) = dotTo xs ls i + xs.getD i 0 * ls.getD i 0 := by
  unfold dotTo
  rw [List.range_succ, List.map_append, sumI_app]
  simp [sumI]
theorem mul_bound {x y a b : Int} (h0 : 0 ≤ x) (h1 : x ≤ a) (h2 : 0 ≤ y) (h3 : y ≤ b) : 0 ≤ x * y ∧ x * y ≤ a * b :=
  ⟨Int.mul_nonneg h0 h2, Int.mul_le_mul h1 h3 h2 (by omega)⟩
theorem chA (lf d n : Nat) (h : H) (b1 o1 c1 b2 o2 c2 b3 o3 c3 N : Nat) (ws l ot : List Int) (B1 B2 B3 : AB) (g1 : h.get b1 = some B1) (g2 : h.get b2 = some B2) (g3 : h.get b3 = some B3) (hb1 : b1 < n) (hb2 : b2 < n) (hb3 : b3 < n) (hNb : N ≤ 258) (a1 : ∀ i, i < N → B1.cells[o1 + i]? = some (.int .i64 (ws.getD i 0))) (a2 : ∀ i, i < N → B2.cells[o2 + i]? = some (.int .i64 (l.getD i 0))) (a3 : ∀ i, i < N → B3.cells[o3 + i]? = some (.int .i64 (ot.getD i 0)))
    (r1 : ∀ i, i < N → 0 ≤ ws.getD i 0 ∧ ws.getD i 0 ≤ 1073741824) (r2 : ∀ i, i < N → 1 ≤ l.getD i 0 ∧ l.getD i 0 ≤ 258) (r3 : ∀ i, i < N → 1 ≤ ot.getD i 0 ∧ ot.getD i 0 ≤ 20) (hend : dotTo ws l N ≤ dotTo ws ot N) (x4 x6 x40 x55 : Value) {W : Nat → Prop} {n0 : Nat} (hn0 : n0 ≤ n) :
    ∀ (m i fu : Nat) (u y : Int), N - i = m → m < fu → i ≤ N → u = dotTo ws l i → y = dotTo ws ot i → 0 ≤ u → u ≤ i * 277025390592 → 0 ≤ y → y ≤ i * 277025390592 →
      Run W n0 (lpA_balerlaw09_LensCheap lf (d + 1) fu (kcA_balerlaw09_LensCheap lf (d + 1)) (.slice (some ⟨b1, o1, none⟩) N c1) (.slice (some ⟨b3, o3, none⟩) N c3) x4 (.slice (some ⟨b2, o2, none⟩) N c2) x6 (.int .i64 u) (.int .i64 y) x40 x55 (.slice (some ⟨b1, o1, none⟩) N c1) (.int .i64 (N : Nat)) (.int .i64 (i : Nat))) h n fun v _ _ => v = .bool true := by
  intro m
  induction m with
  | zero =>
    intro i fu u y hm hfu hi hu hy _ _ _ _
    obtain ⟨fu, rfl⟩ : ∃ f, fu = f + 1 := ⟨fu - 1, by omega⟩
    obtain rfl : i = N := by omega
    rw [succA_balerlaw09_LensCheap]
    try simp (disch := first | omega | assumption | exact one_int _ _ | exact one_slice _ _ _ | exact one_ptr _ | exact one_bool _ | exact one_string _) only [optK_some_eq, nil2_ptr, ifV_true, ifV_false, run_if, run_out0, run_out1, run_out2, run_out3, optG_some, one_int, one_bool, one_string, one_slice, one_ptr, min2_eq, max2_eq, pick2_eq, u_not, u_neg, cells_agg, inside_ret, chk_true, get_eq, get_ne, List.getElem?_cons_zero, List.getElem?_cons_succ, List.set_cons_zero, List.set_cons_succ, List.length_cons, List.length_nil, Int.toNat_natCast, Int.toNat_zero, Nat.zero_add, Nat.add_zero, decide_eq_true_eq, decide_eq_false_iff_not, true_and, and_true, if_true, if_false, true_or, or_true, Bool.false_eq_true, Bool.true_eq_false, Nat.reduceAdd, Nat.reduceLT, wrap_id, wrap_succ, wrap_pred, len22, bgtr3, bleq3, blss3, beql24, beql3, ix22, ldr3, badd3, bneq3, bneq24, bmul3, str3, bsub3, bshl3, bquo3, bd36x0x1x2, len34, ix34, fa36f2, ldr22, fa36f0, fa46f0, bgeq3, fa46f1, beql22s, beql22n, bd46x0x3, fa46f2, str22, fa46f3, fa36f1, cv3x54, bshr54, cv54x3, Int.lt_irrefl]
    rw [kcAb_balerlaw09_LensCheap]
    have e9 : u ≤ y := by rw [hu, hy]; exact hend
    try simp (disch := first | omega | assumption | exact one_int _ _ | exact one_slice _ _ _ | exact one_ptr _ | exact one_bool _ | exact one_string _) only [optK_some_eq, nil2_ptr, ifV_true, ifV_false, run_if, run_out0, run_out1, run_out2, run_out3, optG_some, one_int, one_bool, one_string, one_slice, one_ptr, min2_eq, max2_eq, pick2_eq, u_not, u_neg, cells_agg, inside_ret, chk_true, get_eq, get_ne, List.getElem?_cons_zero, List.getElem?_cons_succ, List.set_cons_zero, List.set_cons_succ, List.length_cons, List.length_nil, Int.toNat_natCast, Int.toNat_zero, Nat.zero_add, Nat.add_zero, decide_eq_true_eq, decide_eq_false_iff_not, true_and, and_true, if_true, if_false, true_or, or_true, Bool.false_eq_true, Bool.true_eq_false, Nat.reduceAdd, Nat.reduceLT, wrap_id, wrap_succ, wrap_pred, len22, bgtr3, bleq3, blss3, beql24, beql3, ix22, ldr3, badd3, bneq3, bneq24, bmul3, str3, bsub3, bshl3, bquo3, bd36x0x1x2, len34, ix34, fa36f2, ldr22, fa36f0, fa46f0, bgeq3, fa46f1, beql22s, beql22n, bd46x0x3, fa46f2, str22, fa46f3, fa36f1, cv3x54, bshr54, cv54x3, e9]
    exact run_three hn0
  | succ m ih =>
    intro i fu u y hm hfu hi hu hy u0 u1 y0 y1
    obtain ⟨fu, rfl⟩ : ∃ f, fu = f + 1 := ⟨fu - 1, by omega⟩
    have e1 : ((i : Nat) : Int) < ((N : Nat) : Int) := by omega
    have w1 : ((i : Nat) : Int) + 1 = ((i + 1 : Nat) : Int) := by omega
    have q1 := a1 i (by omega)
    have q2 := a2 i (by omega)
    have q3 := a3 i (by omega)
    have p1 := r1 i (by omega)
    have p2 := r2 i (by omega)
    have p3 := r3 i (by omega)
    have m1 := mul_bound p1.1 p1.2 (by omega : 0 ≤ l.getD i 0) p2.2
    have m2 := mul_bound p1.1 p1.2 (by omega : 0 ≤ ot.getD i 0) (by omega : ot.getD i 0 ≤ 258)
    have t1 : ¬ l.getD i 0 < 1 := by omega
    have t2 : ¬ 258 < l.getD i 0 := by omega
    have n1 := dot_next ws l i
    have n2 := dot_next ws ot i
    have v1 : IntKind.i64.wrap (ws.getD i 0 * l.getD i 0) = ws.getD i 0 * l.getD i 0 := wrap_id (by omega) (by omega)
    have v2 : IntKind.i64.wrap (ws.getD i 0 * ot.getD i 0) = ws.getD i 0 * ot.getD i 0 := wrap_id (by omega) (by omega)
    have v3 : IntKind.i64.wrap (u + ws.getD i 0 * l.getD i 0) = u + ws.getD i 0 * l.getD i 0 := wrap_id (by omega) (by omega)
    have v4 : IntKind.i64.wrap (y + ws.getD i 0 * ot.getD i 0) = y + ws.getD i 0 * ot.getD i 0 := wrap_id (by omega) (by omega)
    rw [succA_balerlaw09_LensCheap]
    try simp (disch := first | omega | assumption | exact one_int _ _ | exact one_slice _ _ _ | exact one_ptr _ | exact one_bool _ | exact one_string _) only [optK_some_eq, nil2_ptr, ifV_true, ifV_false, run_if, run_out0, run_out1, run_out2, run_out3, optG_some, one_int, one_bool, one_string, one_slice, one_ptr, min2_eq, max2_eq, pick2_eq, u_not, u_neg, cells_agg, inside_ret, chk_true, get_eq, get_ne, List.getElem?_cons_zero, List.getElem?_cons_succ, List.set_cons_zero, List.set_cons_succ, List.length_cons, List.length_nil, Int.toNat_natCast, Int.toNat_zero, Nat.zero_add, Nat.add_zero, decide_eq_true_eq, decide_eq_false_iff_not, true_and, and_true, if_true, if_false, true_or, or_true, Bool.false_eq_true, Bool.true_eq_false, Nat.reduceAdd, Nat.reduceLT, wrap_id, wrap_succ, wrap_pred, len22, bgtr3, bleq3, blss3, beql24, beql3, ix22, ldr3, badd3, bneq3, bneq24, bmul3, str3, bsub3, bshl3, bquo3, bd36x0x1x2, len34, ix34, fa36f2, ldr22, fa36f0, fa46f0, bgeq3, fa46f1, beql22s, beql22n, bd46x0x3, fa46f2, str22, fa46f3, fa36f1, cv3x54, bshr54, cv54x3, e1, g1, g2, g3, q1, q2, q3, t1, t2, v1, v2, v3, v4]
    rw [w1]
    exact ih (i + 1) fu _ _ (by omega) (by omega) (by omega) (by omega) (by omega) (by omega) (by omega) (by omega) (by omega)
theorem dot_cheap {ws : List Int} {D : List Nat} {w : Nat → Int} {I A B : Nat → Nat} {X R : Nat → List Nat} {dep : Nat → Nat} (d : Deps ws D w I A B X R dep) {ot : List Int} (hl : ot.length = ws.length) (ho : ∀ x ∈ ot, 1 ≤ x ∧ x ≤ 20) (hs : shrL ot ≤ 1048576) : dotTo ws (depthsP ws D) ws.length ≤ dotTo ws ot ws.length := by
  have hN := d.m.two
  have hoi : ∀ i, i < ws.length → 1 ≤ ot.getD i 0 ∧ ot.getD i 0 ≤ 20 := fun i hi => ho _ (mem_getD (by omega))
  have px := d.m.x0
  have xl : ∀ i ∈ X 0, i < ws.length := fun i hi => List.mem_range.1 (px.mem_iff.1 hi)
  have h := d.m.cheap d.d0 d.d1 20 (ws.length - 1) 0 (by omega) (fun i => (ot.getD i 0).toNat) (fun i hi => by have := hoi i (xl i hi); omega) (by
    unfold krf
    rw [sumI_perm (px.map _)]
    refine Int.le_trans (Int.le_of_eq ?_) hs
    unfold shrL
    congr 1
    apply List.ext_getElem
    · simp [hl]
    · intro i h1 h2
      have hi : i < ws.length := by simpa using h1
      have := hoi i hi
      simp only [List.getElem_map, List.getElem_range]
      unfold shr1
      rw [List.getD_eq_getElem?_getD, List.getElem?_eq_getElem (by omega)] at this ⊢
      simp only [Option.getD_some] at this ⊢
      congr 1
      omega)
  unfold cst at h
  rw [sumI_perm (px.map _), sumI_perm (px.map _)] at h
  unfold dotTo
  refine Int.le_trans (Int.le_of_eq ?_) (Int.le_trans h (Int.le_of_eq ?_))
  · congr 1
    refine List.map_congr_left fun i hi => ?_
    have hi := List.mem_range.1 hi
    rw [d.at_ hi, d.ww i hi]
  · congr 1
    refine List.map_congr_left fun i hi => ?_
    have hi := List.mem_range.1 hi
    have := hoi i hi
    show w i * (((ot.getD i 0).toNat : Nat) : Int) = ws.getD i 0 * ot.getD i 0
    rw [d.ww i hi]
    congr 1
    omega
set_option maxHeartbeats 1000000 in
theorem law_Cheap (n : Nat) (h : H) (v vo : Value) (ws ot : List Int) (hR : Row h n 3 .i64 v ws) (hO : Row h n 3 .i64 vo ot) (hL : ws.length ≤ 9223372036854775807) (hL2 : ot.length ≤ 9223372036854775807) :
    Run (fun _ => False) n (evCall2 Try.prog gt 3000000 1000 7 #[v, vo]) h n fun v' _ _ => v' = .bool true := by
  have aux : ∀ lf d, 3000000 ≤ lf → 500 ≤ d → Run (fun _ => False) n (evCall2 Try.prog gt lf d 7 #[v, vo]) h n fun v' _ _ => v' = .bool true := by
    intro lf d hlf hd
    obtain ⟨d, rfl⟩ : ∃ e, d = e + 2 := ⟨d - 2, by omega⟩
    rw [sh_balerlaw09_LensCheap]
    refine Run.inside_ ?_
    unfold b_balerlaw09_LensCheap
    have hR0 := hR
    have hO0 := hO
    obtain ⟨a, c, rfl⟩ := hR.len
    obtain ⟨a', c', rfl⟩ := hO.len
    by_cases c1 : ws.length < 2
    · have e1 : ((ws.length : Nat) : Int) < 2 := by omega
      try simp (disch := first | omega | assumption | exact one_int _ _ | exact one_slice _ _ _ | exact one_ptr _ | exact one_bool _ | exact one_string _) only [optK_some_eq, nil2_ptr, ifV_true, ifV_false, run_if, run_out0, run_out1, run_out2, run_out3, optG_some, one_int, one_bool, one_string, one_slice, one_ptr, min2_eq, max2_eq, pick2_eq, u_not, u_neg, cells_agg, inside_ret, chk_true, get_eq, get_ne, List.getElem?_cons_zero, List.getElem?_cons_succ, List.set_cons_zero, List.set_cons_succ, List.length_cons, List.length_nil, Int.toNat_natCast, Int.toNat_zero, Nat.zero_add, Nat.add_zero, decide_eq_true_eq, decide_eq_false_iff_not, true_and, and_true, if_true, if_false, true_or, or_true, Bool.false_eq_true, Bool.true_eq_false, Nat.reduceAdd, Nat.reduceLT, wrap_id, wrap_succ, wrap_pred, len22, bgtr3, bleq3, blss3, beql24, beql3, ix22, ldr3, badd3, bneq3, bneq24, bmul3, str3, bsub3, bshl3, bquo3, bd36x0x1x2, len34, ix34, fa36f2, ldr22, fa36f0, fa46f0, bgeq3, fa46f1, beql22s, beql22n, bd46x0x3, fa46f2, str22, fa46f3, fa36f1, cv3x54, bshr54, cv54x3, e1]
      exact run_three (Nat.le_refl n)
    have e1 : ¬ ((ws.length : Nat) : Int) < 2 := by omega
    by_cases c2 : 258 < ws.length
    · have e2 : (258 : Int) < ((ws.length : Nat) : Int) := by omega
      try simp (disch := first | omega | assumption | exact one_int _ _ | exact one_slice _ _ _ | exact one_ptr _ | exact one_bool _ | exact one_string _) only [optK_some_eq, nil2_ptr, ifV_true, ifV_false, run_if, run_out0, run_out1, run_out2, run_out3, optG_some, one_int, one_bool, one_string, one_slice, one_ptr, min2_eq, max2_eq, pick2_eq, u_not, u_neg, cells_agg, inside_ret, chk_true, get_eq, get_ne, List.getElem?_cons_zero, List.getElem?_cons_succ, List.set_cons_zero, List.set_cons_succ, List.length_cons, List.length_nil, Int.toNat_natCast, Int.toNat_zero, Nat.zero_add, Nat.add_zero, decide_eq_true_eq, decide_eq_false_iff_not, true_and, and_true, if_true, if_false, true_or, or_true, Bool.false_eq_true, Bool.true_eq_false, Nat.reduceAdd, Nat.reduceLT, wrap_id, wrap_succ, wrap_pred, len22, bgtr3, bleq3, blss3, beql24, beql3, ix22, ldr3, badd3, bneq3, bneq24, bmul3, str3, bsub3, bshl3, bquo3, bd36x0x1x2, len34, ix34, fa36f2, ldr22, fa36f0, fa46f0, bgeq3, fa46f1, beql22s, beql22n, bd46x0x3, fa46f2, str22, fa46f3, fa36f1, cv3x54, bshr54, cv54x3, e1, e2]
      exact run_three (Nat.le_refl n)
    have e2 : ¬ (258 : Int) < ((ws.length : Nat) : Int) := by omega
    by_cases c3 : ot.length = ws.length
    · have e3 : (((ot.length : Nat) : Int) != ((ws.length : Nat) : Int)) = false := by rw [c3]; simp
      try simp (disch := first | omega | assumption | exact one_int _ _ | exact one_slice _ _ _ | exact one_ptr _ | exact one_bool _ | exact one_string _) only [optK_some_eq, nil2_ptr, ifV_true, ifV_false, run_if, run_out0, run_out1, run_out2, run_out3, optG_some, one_int, one_bool, one_string, one_slice, one_ptr, min2_eq, max2_eq, pick2_eq, u_not, u_neg, cells_agg, inside_ret, chk_true, get_eq, get_ne, List.getElem?_cons_zero, List.getElem?_cons_succ, List.set_cons_zero, List.set_cons_succ, List.length_cons, List.length_nil, Int.toNat_natCast, Int.toNat_zero, Nat.zero_add, Nat.add_zero, decide_eq_true_eq, decide_eq_false_iff_not, true_and, and_true, if_true, if_false, true_or, or_true, Bool.false_eq_true, Bool.true_eq_false, Nat.reduceAdd, Nat.reduceLT, wrap_id, wrap_succ, wrap_pred, len22, bgtr3, bleq3, blss3, beql24, beql3, ix22, ldr3, badd3, bneq3, bneq24, bmul3, str3, bsub3, bshl3, bquo3, bd36x0x1x2, len34, ix34, fa36f2, ldr22, fa36f0, fa46f0, bgeq3, fa46f1, beql22s, beql22n, bd46x0x3, fa46f2, str22, fa46f3, fa36f1, cv3x54, bshr54, cv54x3, e1, e2, e3]
      refine run_same (s_May lf d n h _ ws hR0 1 1073741824 (by omega) hlf) (Nat.le_refl _) (fun _ _ h => h.elim) ?_
      by_cases hm : allIn 1 1073741824 ws = true
      · rw [hm, u_not, optK_some_eq, Bool.not_true]
        try simp (disch := first | omega | assumption | exact one_int _ _ | exact one_slice _ _ _ | exact one_ptr _ | exact one_bool _ | exact one_string _) only [optK_some_eq, nil2_ptr, ifV_true, ifV_false, run_if, run_out0, run_out1, run_out2, run_out3, optG_some, one_int, one_bool, one_string, one_slice, one_ptr, min2_eq, max2_eq, pick2_eq, u_not, u_neg, cells_agg, inside_ret, chk_true, get_eq, get_ne, List.getElem?_cons_zero, List.getElem?_cons_succ, List.set_cons_zero, List.set_cons_succ, List.length_cons, List.length_nil, Int.toNat_natCast, Int.toNat_zero, Nat.zero_add, Nat.add_zero, decide_eq_true_eq, decide_eq_false_iff_not, true_and, and_true, if_true, if_false, true_or, or_true, Bool.false_eq_true, Bool.true_eq_false, Nat.reduceAdd, Nat.reduceLT, wrap_id, wrap_succ, wrap_pred, len22, bgtr3, bleq3, blss3, beql24, beql3, ix22, ldr3, badd3, bneq3, bneq24, bmul3, str3, bsub3, bshl3, bquo3, bd36x0x1x2, len34, ix34, fa36f2, ldr22, fa36f0, fa46f0, bgeq3, fa46f1, beql22s, beql22n, bd46x0x3, fa46f2, str22, fa46f3, fa36f1, cv3x54, bshr54, cv54x3]
        refine run_same (s_May lf d n h _ ot hO0 1 20 (by omega) hlf) (Nat.le_refl _) (fun _ _ h => h.elim) ?_
        by_cases hm2 : allIn 1 20 ot = true
        · rw [hm2, u_not, optK_some_eq, Bool.not_true]
          try simp (disch := first | omega | assumption | exact one_int _ _ | exact one_slice _ _ _ | exact one_ptr _ | exact one_bool _ | exact one_string _) only [optK_some_eq, nil2_ptr, ifV_true, ifV_false, run_if, run_out0, run_out1, run_out2, run_out3, optG_some, one_int, one_bool, one_string, one_slice, one_ptr, min2_eq, max2_eq, pick2_eq, u_not, u_neg, cells_agg, inside_ret, chk_true, get_eq, get_ne, List.getElem?_cons_zero, List.getElem?_cons_succ, List.set_cons_zero, List.set_cons_succ, List.length_cons, List.length_nil, Int.toNat_natCast, Int.toNat_zero, Nat.zero_add, Nat.add_zero, decide_eq_true_eq, decide_eq_false_iff_not, true_and, and_true, if_true, if_false, true_or, or_true, Bool.false_eq_true, Bool.true_eq_false, Nat.reduceAdd, Nat.reduceLT, wrap_id, wrap_succ, wrap_pred, len22, bgtr3, bleq3, blss3, beql24, beql3, ix22, ldr3, badd3, bneq3, bneq24, bmul3, str3, bsub3, bshl3, bquo3, bd36x0x1x2, len34, ix34, fa36f2, ldr22, fa36f0, fa46f0, bgeq3, fa46f1, beql22s, beql22n, bd46x0x3, fa46f2, str22, fa46f3, fa36f1, cv3x54, bshr54, cv54x3]
          have hm' := allIn_iff.1 hm
          have hm2' := allIn_iff.1 hm2
          refine run_same (s_ShareR lf d n h _ ot hO0 (by omega) (fun x hx => by have := hm2' x hx; omega) hlf) (Nat.le_refl _) (fun _ _ h => h.elim) ?_
          by_cases hs : 1048576 < shrL ot
          · try simp (disch := first | omega | assumption | exact one_int _ _ | exact one_slice _ _ _ | exact one_ptr _ | exact one_bool _ | exact one_string _) only [optK_some_eq, nil2_ptr, ifV_true, ifV_false, run_if, run_out0, run_out1, run_out2, run_out3, optG_some, one_int, one_bool, one_string, one_slice, one_ptr, min2_eq, max2_eq, pick2_eq, u_not, u_neg, cells_agg, inside_ret, chk_true, get_eq, get_ne, List.getElem?_cons_zero, List.getElem?_cons_succ, List.set_cons_zero, List.set_cons_succ, List.length_cons, List.length_nil, Int.toNat_natCast, Int.toNat_zero, Nat.zero_add, Nat.add_zero, decide_eq_true_eq, decide_eq_false_iff_not, true_and, and_true, if_true, if_false, true_or, or_true, Bool.false_eq_true, Bool.true_eq_false, Nat.reduceAdd, Nat.reduceLT, wrap_id, wrap_succ, wrap_pred, len22, bgtr3, bleq3, blss3, beql24, beql3, ix22, ldr3, badd3, bneq3, bneq24, bmul3, str3, bsub3, bshl3, bquo3, bd36x0x1x2, len34, ix34, fa36f2, ldr22, fa36f0, fa46f0, bgeq3, fa46f1, beql22s, beql22n, bd46x0x3, fa46f2, str22, fa46f3, fa36f1, cv3x54, bshr54, cv54x3, hs]
            exact run_three (Nat.le_refl n)
          · try simp (disch := first | omega | assumption | exact one_int _ _ | exact one_slice _ _ _ | exact one_ptr _ | exact one_bool _ | exact one_string _) only [optK_some_eq, nil2_ptr, ifV_true, ifV_false, run_if, run_out0, run_out1, run_out2, run_out3, optG_some, one_int, one_bool, one_string, one_slice, one_ptr, min2_eq, max2_eq, pick2_eq, u_not, u_neg, cells_agg, inside_ret, chk_true, get_eq, get_ne, List.getElem?_cons_zero, List.getElem?_cons_succ, List.set_cons_zero, List.set_cons_succ, List.length_cons, List.length_nil, Int.toNat_natCast, Int.toNat_zero, Nat.zero_add, Nat.add_zero, decide_eq_true_eq, decide_eq_false_iff_not, true_and, and_true, if_true, if_false, true_or, or_true, Bool.false_eq_true, Bool.true_eq_false, Nat.reduceAdd, Nat.reduceLT, wrap_id, wrap_succ, wrap_pred, len22, bgtr3, bleq3, blss3, beql24, beql3, ix22, ldr3, badd3, bneq3, bneq24, bmul3, str3, bsub3, bshl3, bquo3, bd36x0x1x2, len34, ix34, fa36f2, ldr22, fa36f0, fa46f0, bgeq3, fa46f1, beql22s, beql22n, bd46x0x3, fa46f2, str22, fa46f3, fa36f1, cv3x54, bshr54, cv54x3, hs]
            have hm3 : allIn 1 1099511627776 ws = true := allIn_iff.2 fun x hx => by have := hm' x hx; omega
            refine run_call okd (s_Depths_ok lf (d + 1) n h _ ws hR0 (by omega) (by omega) hm3 hlf (by omega)) (Nat.le_refl n) (fun _ _ h => h.elim) fun v1 h1 n1 hn1 fr1 hq => ?_
            obtain ⟨l, rfl, so, hl⟩ := hq
            have hR1 := hR0.keep hn1 (fun b hb => fr1 b hb id)
            have hO1 := hO0.keep hn1 (fun b hb => fr1 b hb id)
            have hW : Ws ws := ⟨by omega, by omega, fun x hx => by have := hm' x hx; omega, fun x hx => by have := hm' x hx; omega⟩
            obtain ⟨w, I, A, B, X, R, dep, D⟩ := hW.deps so
            have dl := depF_len (ws := ws) (by omega)
            obtain ⟨b1, o1, c1, ow1, cs1, ev1, g1, hb1, _, _, _, a1⟩ := hR1.some (by omega)
            obtain ⟨b3, o3, c3', ow3, cs3, ev3, g3, hb3, _, _, _, a3⟩ := hO1.some (by omega)
            obtain ⟨b2, o2, c2, ow2, cs2, rfl, g2, hb2, _, _, _, a2⟩ := hl.some (by omega)
            rw [ev1, ev3]
            rw [dl] at a2
            rw [c3] at a3
            rw [dl, c3]
            have z1 : ((0 : Int) != 0) = false := rfl
            have z2 : (((ws.length : Nat) : Int) != ((ws.length : Nat) : Int)) = false := by simp
            try simp (disch := first | omega | assumption | exact one_int _ _ | exact one_slice _ _ _ | exact one_ptr _ | exact one_bool _ | exact one_string _) only [optK_some_eq, nil2_ptr, ifV_true, ifV_false, run_if, run_out0, run_out1, run_out2, run_out3, optG_some, one_int, one_bool, one_string, one_slice, one_ptr, min2_eq, max2_eq, pick2_eq, u_not, u_neg, cells_agg, inside_ret, chk_true, get_eq, get_ne, List.getElem?_cons_zero, List.getElem?_cons_succ, List.set_cons_zero, List.set_cons_succ, List.length_cons, List.length_nil, Int.toNat_natCast, Int.toNat_zero, Nat.zero_add, Nat.add_zero, decide_eq_true_eq, decide_eq_false_iff_not, true_and, and_true, if_true, if_false, true_or, or_true, Bool.false_eq_true, Bool.true_eq_false, Nat.reduceAdd, Nat.reduceLT, wrap_id, wrap_succ, wrap_pred, len22, bgtr3, bleq3, blss3, beql24, beql3, ix22, ldr3, badd3, bneq3, bneq24, bmul3, str3, bsub3, bshl3, bquo3, bd36x0x1x2, len34, ix34, fa36f2, ldr22, fa36f0, fa46f0, bgeq3, fa46f1, beql22s, beql22n, bd46x0x3, fa46f2, str22, fa46f3, fa36f1, cv3x54, bshr54, cv54x3, ext0, ext1, z1, z2]
            refine chA lf d n1 h1 b1 o1 c1 b2 o2 c2 b3 o3 c3' ws.length ws (depF ws) ot _ _ _ g1 g2 g3 hb1 hb2 hb3 (by omega) a1 a2 a3 (fun i hi => by have := hm' _ (mem_getD hi); omega) (fun i hi => ?_) (fun i hi => hm2' _ (mem_getD (by omega))) (dot_cheap D c3 hm2' (by omega)) _ _ _ _ hn1 ws.length 0 lf 0 0 (by omega) (by omega) (by omega) rfl rfl (by omega) (by omega) (by omega) (by omega)
            unfold depF
            rw [D.at_ hi]
            have := D.ge1 hi
            have := D.le hi
            omega
        · rw [Bool.eq_false_iff.2 hm2, u_not, optK_some_eq, Bool.not_false]
          try simp (disch := first | omega | assumption | exact one_int _ _ | exact one_slice _ _ _ | exact one_ptr _ | exact one_bool _ | exact one_string _) only [optK_some_eq, nil2_ptr, ifV_true, ifV_false, run_if, run_out0, run_out1, run_out2, run_out3, optG_some, one_int, one_bool, one_string, one_slice, one_ptr, min2_eq, max2_eq, pick2_eq, u_not, u_neg, cells_agg, inside_ret, chk_true, get_eq, get_ne, List.getElem?_cons_zero, List.getElem?_cons_succ, List.set_cons_zero, List.set_cons_succ, List.length_cons, List.length_nil, Int.toNat_natCast, Int.toNat_zero, Nat.zero_add, Nat.add_zero, decide_eq_true_eq, decide_eq_false_iff_not, true_and, and_true, if_true, if_false, true_or, or_true, Bool.false_eq_true, Bool.true_eq_false, Nat.reduceAdd, Nat.reduceLT, wrap_id, wrap_succ, wrap_pred, len22, bgtr3, bleq3, blss3, beql24, beql3, ix22, ldr3, badd3, bneq3, bneq24, bmul3, str3, bsub3, bshl3, bquo3, bd36x0x1x2, len34, ix34, fa36f2, ldr22, fa36f0, fa46f0, bgeq3, fa46f1, beql22s, beql22n, bd46x0x3, fa46f2, str22, fa46f3, fa36f1, cv3x54, bshr54, cv54x3]
          exact run_three (Nat.le_refl n)
      · rw [Bool.eq_false_iff.2 hm, u_not, optK_some_eq, Bool.not_false]
        try simp (disch := first | omega | assumption | exact one_int _ _ | exact one_slice _ _ _ | exact one_ptr _ | exact one_bool _ | exact one_string _) only [optK_some_eq, nil2_ptr, ifV_true, ifV_false, run_if, run_out0, run_out1, run_out2, run_out3, optG_some, one_int, one_bool, one_string, one_slice, one_ptr, min2_eq, max2_eq, pick2_eq, u_not, u_neg, cells_agg, inside_ret, chk_true, get_eq, get_ne, List.getElem?_cons_zero, List.getElem?_cons_succ, List.set_cons_zero, List.set_cons_succ, List.length_cons, List.length_nil, Int.toNat_natCast, Int.toNat_zero, Nat.zero_add, Nat.add_zero, decide_eq_true_eq, decide_eq_false_iff_not, true_and, and_true, if_true, if_false, true_or, or_true, Bool.false_eq_true, Bool.true_eq_false, Nat.reduceAdd, Nat.reduceLT, wrap_id, wrap_succ, wrap_pred, len22, bgtr3, bleq3, blss3, beql24, beql3, ix22, ldr3, badd3, bneq3, bneq24, bmul3, str3, bsub3, bshl3, bquo3, bd36x0x1x2, len34, ix34, fa36f2, ldr22, fa36f0, fa46f0, bgeq3, fa46f1, beql22s, beql22n, bd46x0x3, fa46f2, str22, fa46f3, fa36f1, cv3x54, bshr54, cv54x3]
        exact run_three (Nat.le_refl n)
    · have e3 : (((ot.length : Nat) : Int) != ((ws.length : Nat) : Int)) = true := bne_iff_ne.2 (by omega)
      try simp (disch := first | omega | assumption | exact one_int _ _ | exact one_slice _ _ _ | exact one_ptr _ | exact one_bool _ | exact one_string _) only [optK_some_eq, nil2_ptr, ifV_true, ifV_false, run_if, run_out0, run_out1, run_out2, run_out3, optG_some, one_int, one_bool, one_string, one_slice, one_ptr, min2_eq, max2_eq, pick2_eq, u_not, u_neg, cells_agg, inside_ret, chk_true, get_eq, get_ne, List.getElem?_cons_zero, List.getElem?_cons_succ, List.set_cons_zero, List.set_cons_succ, List.length_cons, List.length_nil, Int.toNat_natCast, Int.toNat_zero, Nat.zero_add, Nat.add_zero, decide_eq_true_eq, decide_eq_false_iff_not, true_and, and_true, if_true, if_false, true_or, or_true, Bool.false_eq_true, Bool.true_eq_false, Nat.reduceAdd, Nat.reduceLT, wrap_id, wrap_succ, wrap_pred, len22, bgtr3, bleq3, blss3, beql24, beql3, ix22, ldr3, badd3, bneq3, bneq24, bmul3, str3, bsub3, bshl3, bquo3, bd36x0x1x2, len34, ix34, fa36f2, ldr22, fa36f0, fa46f0, bgeq3, fa46f1, beql22s, beql22n, bd46x0x3, fa46f2, str22, fa46f3, fa36f1, cv3x54, bshr54, cv54x3, e1, e2, e3]
      exact run_three (Nat.le_refl n)
  exact aux _ _ (Nat.le_refl _) (by omega)

end Go.Proofs.Ytapdcejhfooahaa

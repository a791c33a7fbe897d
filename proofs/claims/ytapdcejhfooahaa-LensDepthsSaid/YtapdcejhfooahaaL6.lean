/- The library's merge in place, by the second form: the whole. -/
import Derived.Test.YtapdcejhfooahaaL5
namespace Go.Proofs.Ytapdcejhfooahaa
set_option linter.unusedVariables false
set_option linter.unusedSimpArgs false
open Go.RowKit Ev Hu

/-- what a merge leaves -/
def SymQ (h : H) (g n : Nat) (ws : List Int) (P XY Q : List Nat) (h' : H) (n' : Nat) : Prop := n' = n ∧ ∃ Z, Z.Perm XY ∧ Z.Pairwise (RI (keyW ws)) ∧ At h h' g (P ++ Z ++ Q)
def FT (pw : Nat) : Value := .func (.func 34) #[] #[.pointer (some ⟨pw, 0, none⟩)]
theorem s_sym_one (lf d g n cap pw : Nat) (ws : List Int) (h : H) (P Y Q : List Nat) (x : Nat) (N : Nat) (a m b : Int) (hlf : 3000000 ≤ lf) (hN : (P ++ x :: Y ++ Q).length = N) (hNb : N ≤ 1000000) (ha : a = (P.length : Nat)) (hm : m = ((P.length + 1 : Nat) : Int)) (hb : b = ((P.length + 1 + Y.length : Nat) : Int)) (hE : EnvT h n g pw ws) (hg : g < n) (hh : h.get g = some ⟨3, true, nats (P ++ x :: Y ++ Q)⟩) (hin : ∀ z ∈ x :: Y, z < ws.length) (hy : Y.Pairwise (RI (keyW ws))) (hxy : ∀ y ∈ Y, x < y) :
    Run (fun z => z = g) n (evCall2 Try.prog gt lf (d + 4) 39 #[.slice (some ⟨g, 0, none⟩) N cap, .int .i64 a, .int .i64 m, .int .i64 b, FT pw]) h n fun _ h' n' => SymQ h g n ws P (x :: Y) Q h' n' := by
  subst ha hm hb
  have lN := hN
  simp only [List.length_append, List.length_cons] at lN
  rw [sh_slices_symMergeCmpFunc_int]
  refine Run.inside_ ?_
  unfold b_slices_symMergeCmpFunc_int FT
  have w1 : IntKind.i64.wrap (((P.length + 1 : Nat) : Int) - ((P.length : Nat) : Int)) = 1 := by rw [wrap_id (by omega) (by omega)]; omega
  try simp (disch := first | omega | assumption | exact one_int _ _ | exact one_slice _ _ _ | exact one_ptr _ | exact one_bool _ | exact one_string _) only [optK_some_eq, nil2_ptr, ifV_true, ifV_false, run_if, run_out0, run_out1, run_out2, run_out3, optG_some, one_int, one_bool, one_string, one_slice, one_ptr, min2_eq, max2_eq, pick2_eq, u_not, u_neg, cells_agg, inside_ret, chk_true, get_eq, get_ne, List.getElem?_cons_zero, List.getElem?_cons_succ, List.set_cons_zero, List.set_cons_succ, List.length_cons, List.length_nil, Int.toNat_natCast, Int.toNat_zero, Nat.zero_add, Nat.add_zero, decide_eq_true_eq, decide_eq_false_iff_not, true_and, and_true, if_true, if_false, true_or, or_true, Bool.false_eq_true, Bool.true_eq_false, Nat.reduceAdd, Nat.reduceLT, wrap_id, wrap_succ, wrap_pred, len22, bgtr3, bleq3, blss3, beql24, beql3, ix22, ldr3, badd3, bneq3, bneq24, bmul3, str3, bsub3, bshl3, bquo3, bd36x0x1x2, len34, ix34, fa36f2, ldr22, fa36f0, fa46f0, bgeq3, fa46f1, beql22s, beql22n, bd46x0x3, fa46f2, str22, fa46f3, fa36f1, cv3x54, bshr54, cv54x3, w1, beq_self_eq_true]
  have := symA (W := fun z => z = g) lf d g n cap pw ws h P Y Q x N hN hNb hE hg hh (hin x (by simp)) (fun z hz => hin z (by simp [hz])) (Nat.le_refl n) (R := fun _ h' n' => SymQ h g n ws P (x :: Y) Q h' n') (kcA_slices_symMergeCmpFunc_int lf (d + 3)) (.int .i64 ((P.length + 1 : Nat) : Int)) (.int .i64 ((P.length + 1 + Y.length : Nat) : Int)) (.bool true) (fun p y33 hp h1 h2 => by
    rw [kcAa_slices_symMergeCmpFunc_int]
    refine symD (W := fun z => z = g) lf (d + 3) g n cap h P Y Q x p N hN hNb hp hg (.inr rfl) _ _ _ _ _ _ _ _ (fun hr y13 y58 hA => ?_) p 0 lf h (by omega) (by omega) (Nat.zero_le _) ⟨by simpa using hh, fun b hb => rfl⟩
    rw [kcDa_slices_symMergeCmpFunc_int]
    try simp (disch := first | omega | assumption | exact one_int _ _ | exact one_slice _ _ _ | exact one_ptr _ | exact one_bool _ | exact one_string _) only [optK_some_eq, nil2_ptr, ifV_true, ifV_false, run_if, run_out0, run_out1, run_out2, run_out3, optG_some, one_int, one_bool, one_string, one_slice, one_ptr, min2_eq, max2_eq, pick2_eq, u_not, u_neg, cells_agg, inside_ret, chk_true, get_eq, get_ne, List.getElem?_cons_zero, List.getElem?_cons_succ, List.set_cons_zero, List.set_cons_succ, List.length_cons, List.length_nil, Int.toNat_natCast, Int.toNat_zero, Nat.zero_add, Nat.add_zero, decide_eq_true_eq, decide_eq_false_iff_not, true_and, and_true, if_true, if_false, true_or, or_true, Bool.false_eq_true, Bool.true_eq_false, Nat.reduceAdd, Nat.reduceLT, wrap_id, wrap_succ, wrap_pred, len22, bgtr3, bleq3, blss3, beql24, beql3, ix22, ldr3, badd3, bneq3, bneq24, bmul3, str3, bsub3, bshl3, bquo3, bd36x0x1x2, len34, ix34, fa36f2, ldr22, fa36f0, fa46f0, bgeq3, fa46f1, beql22s, beql22n, bd46x0x3, fa46f2, str22, fa46f3, fa36f1, cv3x54, bshr54, cv54x3]
    refine ⟨rfl, _, ?_, ?_, hA⟩
    · have := List.perm_middle (a := x) (l₁ := Y.take p) (l₂ := Y.drop p)
      rw [List.take_append_drop] at this
      exact this
    · refine put_in hy hp ?_ ?_
      · rcases h1 with h1 | h1
        · exact .inl h1
        · exact .inr (.inl h1)
      · rcases h2 with h2 | h2
        · exact .inl h2
        · by_cases hpl : p = Y.length
          · exact .inl hpl
          · exact .inr (RI_of_not (hxy _ (by rw [List.getD_eq_getElem?_getD, List.getElem?_eq_getElem (by omega)]; exact List.getElem_mem _)) h2)) Y.length 0 Y.length lf (by omega) (by omega) (by omega) (by omega) (.inl rfl) (.inl rfl)
  exact this
theorem s_sym_last (lf d g n cap pw : Nat) (ws : List Int) (h : H) (P X Q : List Nat) (y : Nat) (N : Nat) (a m b : Int) (hlf : 3000000 ≤ lf) (hN : (P ++ X ++ y :: Q).length = N) (hNb : N ≤ 1000000) (hX2 : 2 ≤ X.length) (ha : a = (P.length : Nat)) (hm : m = ((P.length + X.length : Nat) : Int)) (hb : b = ((P.length + X.length + 1 : Nat) : Int)) (hE : EnvT h n g pw ws) (hg : g < n) (hh : h.get g = some ⟨3, true, nats (P ++ X ++ y :: Q)⟩) (hyw : y < ws.length) (hin : ∀ z ∈ X, z < ws.length) (hx : X.Pairwise (RI (keyW ws))) (hxy : ∀ x ∈ X, x < y) :
    Run (fun z => z = g) n (evCall2 Try.prog gt lf (d + 4) 39 #[.slice (some ⟨g, 0, none⟩) N cap, .int .i64 a, .int .i64 m, .int .i64 b, FT pw]) h n fun _ h' n' => SymQ h g n ws P (X ++ [y]) Q h' n' := by
  subst ha hm hb
  have lN := hN
  simp only [List.length_append, List.length_cons] at lN
  rw [sh_slices_symMergeCmpFunc_int]
  refine Run.inside_ ?_
  unfold b_slices_symMergeCmpFunc_int FT
  have w1 : (IntKind.i64.wrap (((P.length + X.length : Nat) : Int) - ((P.length : Nat) : Int)) == 1) = false := by rw [wrap_id (by omega) (by omega), beq_eq_false_iff_ne]; omega
  have w1' : ((((P.length + X.length : Nat) : Int) - ((P.length : Nat) : Int)) == 1) = false := by rw [beq_eq_false_iff_ne]; omega
  have w2 : IntKind.i64.wrap (((P.length + X.length + 1 : Nat) : Int) - ((P.length + X.length : Nat) : Int)) = 1 := by rw [wrap_id (by omega) (by omega)]; omega
  try simp (disch := first | omega | assumption | exact one_int _ _ | exact one_slice _ _ _ | exact one_ptr _ | exact one_bool _ | exact one_string _) only [optK_some_eq, nil2_ptr, ifV_true, ifV_false, run_if, run_out0, run_out1, run_out2, run_out3, optG_some, one_int, one_bool, one_string, one_slice, one_ptr, min2_eq, max2_eq, pick2_eq, u_not, u_neg, cells_agg, inside_ret, chk_true, get_eq, get_ne, List.getElem?_cons_zero, List.getElem?_cons_succ, List.set_cons_zero, List.set_cons_succ, List.length_cons, List.length_nil, Int.toNat_natCast, Int.toNat_zero, Nat.zero_add, Nat.add_zero, decide_eq_true_eq, decide_eq_false_iff_not, true_and, and_true, if_true, if_false, true_or, or_true, Bool.false_eq_true, Bool.true_eq_false, Nat.reduceAdd, Nat.reduceLT, wrap_id, wrap_succ, wrap_pred, len22, bgtr3, bleq3, blss3, beql24, beql3, ix22, ldr3, badd3, bneq3, bneq24, bmul3, str3, bsub3, bshl3, bquo3, bd36x0x1x2, len34, ix34, fa36f2, ldr22, fa36f0, fa46f0, bgeq3, fa46f1, beql22s, beql22n, bd46x0x3, fa46f2, str22, fa46f3, fa36f1, cv3x54, bshr54, cv54x3, w1, w1', w2, beq_self_eq_true]
  have := symB (W := fun z => z = g) lf d g n cap pw ws h P X Q y N hN hNb hE hg hh hyw hin (Nat.le_refl n) (R := fun _ h' n' => SymQ h g n ws P (X ++ [y]) Q h' n') (kcB_slices_symMergeCmpFunc_int lf (d + 3)) (.int .i64 ((P.length : Nat) : Int)) (.int .i64 ((P.length + X.length + 1 : Nat) : Int)) (.bool false) (.bool true) (fun p y85 hp h1 h2 => by
    rw [kcBa_slices_symMergeCmpFunc_int]
    refine symE (W := fun z => z = g) lf (d + 3) g n cap h P X Q y p N hN hNb hp hg (.inr rfl) _ _ _ _ _ _ _ _ _ (fun hr y17 y110 hA => ?_) (X.length - p) X.length lf h rfl (by omega) hp (Nat.le_refl _) ⟨by simpa using hh, fun b hb => rfl⟩
    rw [kcEa_slices_symMergeCmpFunc_int]
    try simp (disch := first | omega | assumption | exact one_int _ _ | exact one_slice _ _ _ | exact one_ptr _ | exact one_bool _ | exact one_string _) only [optK_some_eq, nil2_ptr, ifV_true, ifV_false, run_if, run_out0, run_out1, run_out2, run_out3, optG_some, one_int, one_bool, one_string, one_slice, one_ptr, min2_eq, max2_eq, pick2_eq, u_not, u_neg, cells_agg, inside_ret, chk_true, get_eq, get_ne, List.getElem?_cons_zero, List.getElem?_cons_succ, List.set_cons_zero, List.set_cons_succ, List.length_cons, List.length_nil, Int.toNat_natCast, Int.toNat_zero, Nat.zero_add, Nat.add_zero, decide_eq_true_eq, decide_eq_false_iff_not, true_and, and_true, if_true, if_false, true_or, or_true, Bool.false_eq_true, Bool.true_eq_false, Nat.reduceAdd, Nat.reduceLT, wrap_id, wrap_succ, wrap_pred, len22, bgtr3, bleq3, blss3, beql24, beql3, ix22, ldr3, badd3, bneq3, bneq24, bmul3, str3, bsub3, bshl3, bquo3, bd36x0x1x2, len34, ix34, fa36f2, ldr22, fa36f0, fa46f0, bgeq3, fa46f1, beql22s, beql22n, bd46x0x3, fa46f2, str22, fa46f3, fa36f1, cv3x54, bshr54, cv54x3]
    refine ⟨rfl, _, ?_, ?_, hA⟩
    · have := List.perm_middle (a := y) (l₁ := X.take p) (l₂ := X.drop p)
      rw [List.take_append_drop] at this
      exact this.trans (List.perm_append_singleton y X).symm
    · refine put_in hx hp ?_ ?_
      · rcases h1 with h1 | h1
        · exact .inl h1
        · by_cases hp0 : p = 0
          · exact .inl hp0
          · exact .inr (RI_of_not (hxy _ (by rw [List.getD_eq_getElem?_getD, List.getElem?_eq_getElem (by omega)]; exact List.getElem_mem _)) h1)
      · rcases h2 with h2 | h2
        · exact .inl h2
        · exact .inr (.inl h2)) X.length 0 X.length lf (by omega) (by omega) (by omega) (by omega) (.inl rfl) (.inl rfl)
  exact this

/-- where the two stretches part is sought -/
theorem symC (lf d g n cap pw : Nat) (ws : List Int) (h : H) (P X Y Q : List Nat) (hm : Nat) (N : Nat) (hN : (P ++ X ++ Y ++ Q).length = N) (hNb : N ≤ 1000000) (hE : EnvT h n g pw ws) (hg : g < n) (hh : h.get g = some ⟨3, true, nats (P ++ X ++ Y ++ Q)⟩) (hX : ∀ z ∈ X, z < ws.length) (hY : ∀ z ∈ Y, z < ws.length) (hxy : ∀ x ∈ X, ∀ y ∈ Y, x < y) (hh1 : hm ≤ X.length + Y.length) {W : Nat → Prop} {n0 : Nat} (hn0 : n0 ≤ n) {R : Value → H → Nat → Prop} (k : Ex → Fr → M Value) (x1 x2 x3 x18 x19 x28 x80 x140 : Value) (pp : Int) (hpp : pp = ((P.length + hm + P.length + X.length : Nat) : Int) - 1)
    (hK : ∀ s y151, s ≤ X.length → s ≤ hm → hm - s ≤ Y.length → (s = 0 ∨ hm - s = Y.length ∨ RI (keyW ws) (X.getD (s - 1) 0) (Y.getD (hm - s) 0)) → (s = X.length ∨ s = hm ∨ RI (keyW ws) (Y.getD (hm - 1 - s) 0) (X.getD s 0)) → Run W n0 (k (Ex.exit 8) [(0, .slice (some ⟨g, 0, none⟩) N cap), (1, x1), (2, x2), (3, x3), (4, FT pw), (18, x18), (19, x19), (20, .int .i64 ((P.length + s : Nat) : Int)), (21, .int .i64 ((P.length + s : Nat) : Int)), (22, .int .i64 pp), (28, x28), (80, x80), (140, x140), (151, y151)]) h n R) :
    ∀ (m s r fu : Nat), r - s ≤ m → m < fu → s ≤ r → r ≤ X.length → r ≤ hm → hm - s ≤ Y.length → (s = 0 ∨ hm - s = Y.length ∨ RI (keyW ws) (X.getD (s - 1) 0) (Y.getD (hm - s) 0)) → (r = X.length ∨ r = hm ∨ RI (keyW ws) (Y.getD (hm - 1 - r) 0) (X.getD r 0)) →
      Run W n0 (lpC_slices_symMergeCmpFunc_int lf (d + 3) fu k (.slice (some ⟨g, 0, none⟩) N cap) x1 x2 x3 (FT pw) x18 x19 (.int .i64 ((P.length + s : Nat) : Int)) (.int .i64 ((P.length + r : Nat) : Int)) (.int .i64 pp) x28 x80 x140) h n R := by
  have lN := hN
  simp only [List.length_append] at lN
  intro m
  induction m with
  | zero =>
    intro s r fu hrs hfu hsr hrX hrh hsY h1 h2
    obtain ⟨fu, rfl⟩ : ∃ f, fu = f + 1 := ⟨fu - 1, by omega⟩
    obtain rfl : s = r := by omega
    rw [succC_slices_symMergeCmpFunc_int]
    try simp (disch := first | omega | assumption | exact one_int _ _ | exact one_slice _ _ _ | exact one_ptr _ | exact one_bool _ | exact one_string _) only [optK_some_eq, nil2_ptr, ifV_true, ifV_false, run_if, run_out0, run_out1, run_out2, run_out3, optG_some, one_int, one_bool, one_string, one_slice, one_ptr, min2_eq, max2_eq, pick2_eq, u_not, u_neg, cells_agg, inside_ret, chk_true, get_eq, get_ne, List.getElem?_cons_zero, List.getElem?_cons_succ, List.set_cons_zero, List.set_cons_succ, List.length_cons, List.length_nil, Int.toNat_natCast, Int.toNat_zero, Nat.zero_add, Nat.add_zero, decide_eq_true_eq, decide_eq_false_iff_not, true_and, and_true, if_true, if_false, true_or, or_true, Bool.false_eq_true, Bool.true_eq_false, Nat.reduceAdd, Nat.reduceLT, wrap_id, wrap_succ, wrap_pred, len22, bgtr3, bleq3, blss3, beql24, beql3, ix22, ldr3, badd3, bneq3, bneq24, bmul3, str3, bsub3, bshl3, bquo3, bd36x0x1x2, len34, ix34, fa36f2, ldr22, fa36f0, fa46f0, bgeq3, fa46f1, beql22s, beql22n, bd46x0x3, fa46f2, str22, fa46f3, fa36f1, cv3x54, bshr54, cv54x3, Int.lt_irrefl]
    exact hK s _ hrX hrh hsY h1 h2
  | succ m ih =>
    intro s r fu hrs hfu hsr hrX hrh hsY h1 h2
    obtain ⟨fu, rfl⟩ : ∃ f, fu = f + 1 := ⟨fu - 1, by omega⟩
    rw [succC_slices_symMergeCmpFunc_int]
    by_cases hlt : s < r
    · obtain ⟨c, hc⟩ : ∃ c, (P.length + s + (P.length + r)) / 2 = P.length + c := ⟨(s + r) / 2, by omega⟩
      have hcp : s ≤ c := by omega
      have hcq : c < r := by omega
      have e1 : ((P.length + s : Nat) : Int) < ((P.length + r : Nat) : Int) := by omega
      have e2 : (((P.length + s : Nat) : Int) + ((P.length + r : Nat) : Int)) / 2 = ((P.length + c : Nat) : Int) := by omega
      have hx : X.getD c 0 ∈ X := by rw [List.getD_eq_getElem?_getD, List.getElem?_eq_getElem (by omega)]; exact List.getElem_mem _
      have hy : Y.getD (hm - 1 - c) 0 ∈ Y := by rw [List.getD_eq_getElem?_getD, List.getElem?_eq_getElem (by omega)]; exact List.getElem_mem _
      have w0 : IntKind.i64.wrap (pp - ((P.length + c : Nat) : Int)) = ((P.length + X.length + (hm - 1 - c) : Nat) : Int) := by rw [wrap_id (by omega) (by omega)]; omega
      have g1 : (nats (P ++ X ++ Y ++ Q))[P.length + c]? = some (.int .i64 (X.getD c 0 : Nat)) := by
        rw [nats_get (by simp; omega), show P ++ X ++ Y ++ Q = P ++ X ++ (Y ++ Q) by simp, getD_mid _ _ _ c _ rfl (by omega)]
      have g2 : (nats (P ++ X ++ Y ++ Q))[P.length + X.length + (hm - 1 - c)]? = some (.int .i64 (Y.getD (hm - 1 - c) 0 : Nat)) := by
        rw [nats_get (by simp; omega), getD_mid (P ++ X) Y Q (hm - 1 - c) _ (by simp) (by omega)]
      unfold FT at *
      try simp (disch := first | omega | assumption | exact one_int _ _ | exact one_slice _ _ _ | exact one_ptr _ | exact one_bool _ | exact one_string _) only [optK_some_eq, nil2_ptr, ifV_true, ifV_false, run_if, run_out0, run_out1, run_out2, run_out3, optG_some, one_int, one_bool, one_string, one_slice, one_ptr, min2_eq, max2_eq, pick2_eq, u_not, u_neg, cells_agg, inside_ret, chk_true, get_eq, get_ne, List.getElem?_cons_zero, List.getElem?_cons_succ, List.set_cons_zero, List.set_cons_succ, List.length_cons, List.length_nil, Int.toNat_natCast, Int.toNat_zero, Nat.zero_add, Nat.add_zero, decide_eq_true_eq, decide_eq_false_iff_not, true_and, and_true, if_true, if_false, true_or, or_true, Bool.false_eq_true, Bool.true_eq_false, Nat.reduceAdd, Nat.reduceLT, wrap_id, wrap_succ, wrap_pred, len22, bgtr3, bleq3, blss3, beql24, beql3, ix22, ldr3, badd3, bneq3, bneq24, bmul3, str3, bsub3, bshl3, bquo3, bd36x0x1x2, len34, ix34, fa36f2, ldr22, fa36f0, fa46f0, bgeq3, fa46f1, beql22s, beql22n, bd46x0x3, fa46f2, str22, fa46f3, fa36f1, cv3x54, bshr54, cv54x3, e1, wrap_u64, half1, half2, e2, w0, hh, g1, g2, callT]
      refine run_same (s_cmp lf d _ _ h n g pw ws hE (hY _ hy) (hX _ hx)) hn0 (fun _ _ h => h.elim) ?_
      have e4 := cmp3_neg (keyW ws (Y.getD (hm - 1 - c) 0)) (keyW ws (X.getD c 0))
      try simp (disch := first | omega | assumption | exact one_int _ _ | exact one_slice _ _ _ | exact one_ptr _ | exact one_bool _ | exact one_string _) only [optK_some_eq, nil2_ptr, ifV_true, ifV_false, run_if, run_out0, run_out1, run_out2, run_out3, optG_some, one_int, one_bool, one_string, one_slice, one_ptr, min2_eq, max2_eq, pick2_eq, u_not, u_neg, cells_agg, inside_ret, chk_true, get_eq, get_ne, List.getElem?_cons_zero, List.getElem?_cons_succ, List.set_cons_zero, List.set_cons_succ, List.length_cons, List.length_nil, Int.toNat_natCast, Int.toNat_zero, Nat.zero_add, Nat.add_zero, decide_eq_true_eq, decide_eq_false_iff_not, true_and, and_true, if_true, if_false, true_or, or_true, Bool.false_eq_true, Bool.true_eq_false, Nat.reduceAdd, Nat.reduceLT, wrap_id, wrap_succ, wrap_pred, len22, bgtr3, bleq3, blss3, beql24, beql3, ix22, ldr3, badd3, bneq3, bneq24, bmul3, str3, bsub3, bshl3, bquo3, bd36x0x1x2, len34, ix34, fa36f2, ldr22, fa36f0, fa46f0, bgeq3, fa46f1, beql22s, beql22n, bd46x0x3, fa46f2, str22, fa46f3, fa36f1, cv3x54, bshr54, cv54x3, e4]
      by_cases hk : keyW ws (Y.getD (hm - 1 - c) 0) < keyW ws (X.getD c 0)
      · try simp (disch := first | omega | assumption | exact one_int _ _ | exact one_slice _ _ _ | exact one_ptr _ | exact one_bool _ | exact one_string _) only [optK_some_eq, nil2_ptr, ifV_true, ifV_false, run_if, run_out0, run_out1, run_out2, run_out3, optG_some, one_int, one_bool, one_string, one_slice, one_ptr, min2_eq, max2_eq, pick2_eq, u_not, u_neg, cells_agg, inside_ret, chk_true, get_eq, get_ne, List.getElem?_cons_zero, List.getElem?_cons_succ, List.set_cons_zero, List.set_cons_succ, List.length_cons, List.length_nil, Int.toNat_natCast, Int.toNat_zero, Nat.zero_add, Nat.add_zero, decide_eq_true_eq, decide_eq_false_iff_not, true_and, and_true, if_true, if_false, true_or, or_true, Bool.false_eq_true, Bool.true_eq_false, Nat.reduceAdd, Nat.reduceLT, wrap_id, wrap_succ, wrap_pred, len22, bgtr3, bleq3, blss3, beql24, beql3, ix22, ldr3, badd3, bneq3, bneq24, bmul3, str3, bsub3, bshl3, bquo3, bd36x0x1x2, len34, ix34, fa36f2, ldr22, fa36f0, fa46f0, bgeq3, fa46f1, beql22s, beql22n, bd46x0x3, fa46f2, str22, fa46f3, fa36f1, cv3x54, bshr54, cv54x3, hk, decide_true, Bool.not_true]
        exact ih s c fu (by omega) (by omega) (by omega) (by omega) (by omega) hsY h1 (.inr (.inr (.inl hk)))
      · have w1 : IntKind.i64.wrap (((P.length + c : Nat) : Int) + 1) = ((P.length + (c + 1) : Nat) : Int) := by rw [wrap_id (by omega) (by omega)]; omega
        have w2 : ((P.length + c : Nat) : Int) + 1 = ((P.length + (c + 1) : Nat) : Int) := by omega
        try simp (disch := first | omega | assumption | exact one_int _ _ | exact one_slice _ _ _ | exact one_ptr _ | exact one_bool _ | exact one_string _) only [optK_some_eq, nil2_ptr, ifV_true, ifV_false, run_if, run_out0, run_out1, run_out2, run_out3, optG_some, one_int, one_bool, one_string, one_slice, one_ptr, min2_eq, max2_eq, pick2_eq, u_not, u_neg, cells_agg, inside_ret, chk_true, get_eq, get_ne, List.getElem?_cons_zero, List.getElem?_cons_succ, List.set_cons_zero, List.set_cons_succ, List.length_cons, List.length_nil, Int.toNat_natCast, Int.toNat_zero, Nat.zero_add, Nat.add_zero, decide_eq_true_eq, decide_eq_false_iff_not, true_and, and_true, if_true, if_false, true_or, or_true, Bool.false_eq_true, Bool.true_eq_false, Nat.reduceAdd, Nat.reduceLT, wrap_id, wrap_succ, wrap_pred, len22, bgtr3, bleq3, blss3, beql24, beql3, ix22, ldr3, badd3, bneq3, bneq24, bmul3, str3, bsub3, bshl3, bquo3, bd36x0x1x2, len34, ix34, fa36f2, ldr22, fa36f0, fa46f0, bgeq3, fa46f1, beql22s, beql22n, bd46x0x3, fa46f2, str22, fa46f3, fa36f1, cv3x54, bshr54, cv54x3, hk, decide_false, Bool.not_false, w1]
        try rw [w2]
        refine ih (c + 1) r fu (by omega) (by omega) (by omega) hrX hrh (by omega) (.inr (.inr ?_)) h2
        rw [show c + 1 - 1 = c by omega, show hm - (c + 1) = hm - 1 - c by omega]
        exact RI_of_not (hxy _ hx _ hy) hk
    · obtain rfl : s = r := by omega
      try simp (disch := first | omega | assumption | exact one_int _ _ | exact one_slice _ _ _ | exact one_ptr _ | exact one_bool _ | exact one_string _) only [optK_some_eq, nil2_ptr, ifV_true, ifV_false, run_if, run_out0, run_out1, run_out2, run_out3, optG_some, one_int, one_bool, one_string, one_slice, one_ptr, min2_eq, max2_eq, pick2_eq, u_not, u_neg, cells_agg, inside_ret, chk_true, get_eq, get_ne, List.getElem?_cons_zero, List.getElem?_cons_succ, List.set_cons_zero, List.set_cons_succ, List.length_cons, List.length_nil, Int.toNat_natCast, Int.toNat_zero, Nat.zero_add, Nat.add_zero, decide_eq_true_eq, decide_eq_false_iff_not, true_and, and_true, if_true, if_false, true_or, or_true, Bool.false_eq_true, Bool.true_eq_false, Nat.reduceAdd, Nat.reduceLT, wrap_id, wrap_succ, wrap_pred, len22, bgtr3, bleq3, blss3, beql24, beql3, ix22, ldr3, badd3, bneq3, bneq24, bmul3, str3, bsub3, bshl3, bquo3, bd36x0x1x2, len34, ix34, fa36f2, ldr22, fa36f0, fa46f0, bgeq3, fa46f1, beql22s, beql22n, bd46x0x3, fa46f2, str22, fa46f3, fa36f1, cv3x54, bshr54, cv54x3, Int.lt_irrefl]
      exact hK s _ hrX hrh hsY h1 h2

end Go.Proofs.Ytapdcejhfooahaa

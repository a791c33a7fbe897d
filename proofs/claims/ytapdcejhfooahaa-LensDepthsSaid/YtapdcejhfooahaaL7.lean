/- The library's merge in place, by the second form: the general step, and the whole. -/
import Derived.Test.YtapdcejhfooahaaL6
namespace Go.Proofs.Ytapdcejhfooahaa
set_option linter.unusedVariables false
set_option linter.unusedSimpArgs false
open Go.RowKit Ev Hu

def SymSpec (lf g cap pw N : Nat) (ws : List Int) (l : Nat) : Prop :=
  ∀ (d n : Nat) (h : H) (P X Y Q : List Nat) (a m b : Int), X.length + Y.length ≤ l → (P ++ X ++ Y ++ Q).length = N → a = (P.length : Nat) → m = ((P.length + X.length : Nat) : Int) → b = ((P.length + X.length + Y.length : Nat) : Int) → 1 ≤ X.length → 1 ≤ Y.length → EnvT h n g pw ws → g < n → h.get g = some ⟨3, true, nats (P ++ X ++ Y ++ Q)⟩ → (∀ z ∈ X ++ Y, z < ws.length) → X.Pairwise (RI (keyW ws)) → Y.Pairwise (RI (keyW ws)) → (∀ x ∈ X, ∀ y ∈ Y, x < y) →
    Run (fun z => z = g) n (evCall2 Try.prog gt lf (d + l + 4) 39 #[.slice (some ⟨g, 0, none⟩) N cap, .int .i64 a, .int .i64 m, .int .i64 b, FT pw]) h n fun _ h' n' => SymQ h g n ws P (X ++ Y) Q h' n'

theorem SymQ.run {h hr : H} {g n : Nat} {ws : List Int} {P Z Q : List Nat} {QQ : H → Nat → Prop} (e : ∀ h', (∃ Z', Z'.Perm Z ∧ Z'.Pairwise (RI (keyW ws)) ∧ At hr h' g (P ++ Z' ++ Q)) → QQ h' n) {h' : H} {n' : Nat} (q : SymQ hr g n ws P Z Q h' n') : QQ h' n' := by
  obtain ⟨rfl, q⟩ := q
  exact e _ q

set_option maxHeartbeats 1000000 in
theorem s_sym_step (lf g cap pw N : Nat) (ws : List Int) (hlf : 3000000 ≤ lf) (hNb : N ≤ 1000000) (l : Nat) (ih : SymSpec lf g cap pw N ws l) (d n : Nat) (h : H) (P X Y Q : List Nat) (hl : X.length + Y.length ≤ l + 1) (hN : (P ++ X ++ Y ++ Q).length = N) (hX2 : 2 ≤ X.length) (hY2 : 2 ≤ Y.length) (hE : EnvT h n g pw ws) (hg : g < n) (hh : h.get g = some ⟨3, true, nats (P ++ X ++ Y ++ Q)⟩) (hin : ∀ z ∈ X ++ Y, z < ws.length) (hx : X.Pairwise (RI (keyW ws))) (hy : Y.Pairwise (RI (keyW ws))) (hxy : ∀ x ∈ X, ∀ y ∈ Y, x < y) :
    Run (fun z => z = g) n (evCall2 Try.prog gt lf (d + l + 4 + 1) 39 #[.slice (some ⟨g, 0, none⟩) N cap, .int .i64 (P.length : Nat), .int .i64 ((P.length + X.length : Nat) : Int), .int .i64 ((P.length + X.length + Y.length : Nat) : Int), FT pw]) h n fun _ h' n' => SymQ h g n ws P (X ++ Y) Q h' n' := by
  have lN := hN
  simp only [List.length_append] at lN
  rw [sh_slices_symMergeCmpFunc_int]
  refine Run.inside_ ?_
  unfold b_slices_symMergeCmpFunc_int
  obtain ⟨hm, hhm⟩ : ∃ hm, (P.length + (P.length + X.length + Y.length)) / 2 = P.length + hm := ⟨(X.length + Y.length) / 2, by omega⟩
  have hm1 : 1 ≤ hm := by omega
  have hm2 : hm < X.length + Y.length := by omega
  have w1 : (((P.length + X.length : Nat) : Int) - ((P.length : Nat) : Int) == 1) = false := by rw [beq_eq_false_iff_ne]; omega
  have w2 : (((P.length + X.length + Y.length : Nat) : Int) - ((P.length + X.length : Nat) : Int) == 1) = false := by rw [beq_eq_false_iff_ne]; omega
  have w3 : (((P.length : Nat) : Int) + ((P.length + X.length + Y.length : Nat) : Int)) / 2 = ((P.length + hm : Nat) : Int) := by omega
  have w4 : IntKind.i64.wrap (((P.length + hm : Nat) : Int) + ((P.length + X.length : Nat) : Int)) = ((P.length + hm + P.length + X.length : Nat) : Int) := by rw [wrap_id (by omega) (by omega)]; omega
  -- what stands behind the search
  have fin : ∀ s y151, s ≤ X.length → s ≤ hm → hm - s ≤ Y.length → (s = 0 ∨ hm - s = Y.length ∨ RI (keyW ws) (X.getD (s - 1) 0) (Y.getD (hm - s) 0)) → (s = X.length ∨ s = hm ∨ RI (keyW ws) (Y.getD (hm - 1 - s) 0) (X.getD s 0)) → ∀ y21 y22 y28 y80 y140,
      Run (fun z => z = g) n (kcC_slices_symMergeCmpFunc_int lf (d + l + 4) (Ex.exit 8) [(0, .slice (some ⟨g, 0, none⟩) N cap), (1, .int .i64 (P.length : Nat)), (2, .int .i64 ((P.length + X.length : Nat) : Int)), (3, .int .i64 ((P.length + X.length + Y.length : Nat) : Int)), (4, FT pw), (18, .int .i64 ((P.length + hm : Nat) : Int)), (19, .int .i64 ((P.length + hm + P.length + X.length : Nat) : Int)), (20, .int .i64 ((P.length + s : Nat) : Int)), (21, y21), (22, y22), (28, y28), (80, y80), (140, y140), (151, y151)]) h n fun _ h' n' => SymQ h g n ws P (X ++ Y) Q h' n' := by
    intro s y151 hsX hsh hsY h1 h2 y21 y22 y28 y80 y140
    have hc := sym_split hx hy hm s hsX hsh hsY h1 h2
    obtain ⟨X1, hX1⟩ : ∃ X1, X.take s = X1 := ⟨_, rfl⟩
    obtain ⟨X2, hX2'⟩ : ∃ X2, X.drop s = X2 := ⟨_, rfl⟩
    obtain ⟨Y1, hY1⟩ : ∃ Y1, Y.take (hm - s) = Y1 := ⟨_, rfl⟩
    obtain ⟨Y2, hY2'⟩ : ∃ Y2, Y.drop (hm - s) = Y2 := ⟨_, rfl⟩
    have sj := fun Z1 Z2 p1 p2 s1 s2 => sym_join (Z1 := Z1) (Z2 := Z2) (X := X) (Y := Y) (h := hm) (s := s) (k := keyW ws) p1 p2 s1 s2 hc
    have eX : X1 ++ X2 = X := by rw [← hX1, ← hX2']; exact List.take_append_drop _ _
    have eY : Y1 ++ Y2 = Y := by rw [← hY1, ← hY2']; exact List.take_append_drop _ _
    have lX1 : X1.length = s := by rw [← hX1, List.length_take]; omega
    have lY1 : Y1.length = hm - s := by rw [← hY1, List.length_take]; omega
    have lX2 : X2.length = X.length - s := by rw [← hX2', List.length_drop]
    have lY2 : Y2.length = Y.length - (hm - s) := by rw [← hY2', List.length_drop]
    have pX1 : X1.Pairwise (RI (keyW ws)) := by rw [← hX1]; exact hx.sublist (List.take_sublist _ _)
    have pX2 : X2.Pairwise (RI (keyW ws)) := by rw [← hX2']; exact hx.sublist (List.drop_sublist _ _)
    have pY1 : Y1.Pairwise (RI (keyW ws)) := by rw [← hY1]; exact hy.sublist (List.take_sublist _ _)
    have pY2 : Y2.Pairwise (RI (keyW ws)) := by rw [← hY2']; exact hy.sublist (List.drop_sublist _ _)
    simp only [hX1, hX2', hY1, hY2'] at sj
    have mX1 : ∀ z ∈ X1, z ∈ X := fun z hz => by rw [← eX]; simp [hz]
    have mX2 : ∀ z ∈ X2, z ∈ X := fun z hz => by rw [← eX]; simp [hz]
    have mY1 : ∀ z ∈ Y1, z ∈ Y := fun z hz => by rw [← eY]; simp [hz]
    have mY2 : ∀ z ∈ Y2, z ∈ Y := fun z hz => by rw [← eY]; simp [hz]
    rw [kcCa_slices_symMergeCmpFunc_int]
    have w5 : IntKind.i64.wrap (((P.length + hm + P.length + X.length : Nat) : Int) - ((P.length + s : Nat) : Int)) = ((P.length + X.length + (hm - s) : Nat) : Int) := by rw [wrap_id (by omega) (by omega)]; omega
    -- the third part
    have t3 : ∀ hr Z, Z.Perm (X1 ++ Y1) → Z.Pairwise (RI (keyW ws)) → At h hr g (P ++ Z ++ (X2 ++ Y2) ++ Q) → Run (fun z => z = g) n (
        optK (bin2 Try.prog .lss 3 (.int .i64 ((P.length + hm : Nat) : Int)) (.int .i64 ((P.length + X.length + (hm - s) : Nat) : Int))) fun v208 =>
        ifV v208 (
          optK (bin2 Try.prog .lss 3 (.int .i64 ((P.length + X.length + (hm - s) : Nat) : Int)) (.int .i64 ((P.length + X.length + Y.length : Nat) : Int))) fun v212 =>
          ifV v212 (
            (inside (evCall2 Try.prog gt lf (d + l + 4) 39 #[.slice (some ⟨g, 0, none⟩) N cap, .int .i64 ((P.length + hm : Nat) : Int), .int .i64 ((P.length + X.length + (hm - s) : Nat) : Int), .int .i64 ((P.length + X.length + Y.length : Nat) : Int), FT pw])).bind fun v219 =>
            outK []) (
            outK [])) (
          outK [])) hr n fun _ h' n' => SymQ h g n ws P (X ++ Y) Q h' n' := by
      intro hr Z pZ sZ hA
      have lZ := pZ.length_eq
      simp only [List.length_append] at lZ
      have done : ∀ h' Z2, Z2.Perm (X2 ++ Y2) → Z2.Pairwise (RI (keyW ws)) → At h h' g (P ++ Z ++ Z2 ++ Q) → SymQ h g n ws P (X ++ Y) Q h' n := fun h' Z2 p2 s2 hA2 => by
        obtain ⟨q1, q2⟩ := sj Z Z2 pZ p2 sZ s2
        exact ⟨rfl, Z ++ Z2, q1, q2, by rw [← List.append_assoc]; exact hA2⟩
      by_cases c1 : X2 = [] ∨ Y2 = []
      · -- nothing is to be merged
        have hs2 : (X2 ++ Y2).Pairwise (RI (keyW ws)) := by
          rcases c1 with c1 | c1
          · rw [c1]; exact pY2
          · rw [c1, List.append_nil]; exact pX2
        have D := done hr _ (List.Perm.refl _) hs2 hA
        by_cases c2 : ((P.length + hm : Nat) : Int) < ((P.length + X.length + (hm - s) : Nat) : Int)
        · by_cases c3 : ((P.length + X.length + (hm - s) : Nat) : Int) < ((P.length + X.length + Y.length : Nat) : Int)
          · exfalso
            rcases c1 with c1 | c1 <;> (have q := congrArg List.length c1; simp only [List.length_nil] at q; omega)
          · try simp (disch := first | omega | assumption | exact one_int _ _ | exact one_slice _ _ _ | exact one_ptr _ | exact one_bool _ | exact one_string _) only [optK_some_eq, nil2_ptr, ifV_true, ifV_false, run_if, run_out0, run_out1, run_out2, run_out3, optG_some, one_int, one_bool, one_string, one_slice, one_ptr, min2_eq, max2_eq, pick2_eq, u_not, u_neg, cells_agg, inside_ret, chk_true, get_eq, get_ne, List.getElem?_cons_zero, List.getElem?_cons_succ, List.set_cons_zero, List.set_cons_succ, List.length_cons, List.length_nil, Int.toNat_natCast, Int.toNat_zero, Nat.zero_add, Nat.add_zero, decide_eq_true_eq, decide_eq_false_iff_not, true_and, and_true, if_true, if_false, true_or, or_true, Bool.false_eq_true, Bool.true_eq_false, Nat.reduceAdd, Nat.reduceLT, wrap_id, wrap_succ, wrap_pred, len22, bgtr3, bleq3, blss3, beql24, beql3, ix22, ldr3, badd3, bneq3, bneq24, bmul3, str3, bsub3, bshl3, bquo3, bd36x0x1x2, len34, ix34, fa36f2, ldr22, fa36f0, fa46f0, bgeq3, fa46f1, beql22s, beql22n, bd46x0x3, fa46f2, str22, fa46f3, fa36f1, cv3x54, bshr54, cv54x3, c2, c3]
            exact D
        · try simp (disch := first | omega | assumption | exact one_int _ _ | exact one_slice _ _ _ | exact one_ptr _ | exact one_bool _ | exact one_string _) only [optK_some_eq, nil2_ptr, ifV_true, ifV_false, run_if, run_out0, run_out1, run_out2, run_out3, optG_some, one_int, one_bool, one_string, one_slice, one_ptr, min2_eq, max2_eq, pick2_eq, u_not, u_neg, cells_agg, inside_ret, chk_true, get_eq, get_ne, List.getElem?_cons_zero, List.getElem?_cons_succ, List.set_cons_zero, List.set_cons_succ, List.length_cons, List.length_nil, Int.toNat_natCast, Int.toNat_zero, Nat.zero_add, Nat.add_zero, decide_eq_true_eq, decide_eq_false_iff_not, true_and, and_true, if_true, if_false, true_or, or_true, Bool.false_eq_true, Bool.true_eq_false, Nat.reduceAdd, Nat.reduceLT, wrap_id, wrap_succ, wrap_pred, len22, bgtr3, bleq3, blss3, beql24, beql3, ix22, ldr3, badd3, bneq3, bneq24, bmul3, str3, bsub3, bshl3, bquo3, bd36x0x1x2, len34, ix34, fa36f2, ldr22, fa36f0, fa46f0, bgeq3, fa46f1, beql22s, beql22n, bd46x0x3, fa46f2, str22, fa46f3, fa36f1, cv3x54, bshr54, cv54x3, c2]
          exact D
      · have hx2 : 1 ≤ X2.length := by cases X2 with | nil => exact absurd (.inl rfl) c1 | cons a l => simp
        have hy2 : 1 ≤ Y2.length := by cases Y2 with | nil => exact absurd (.inr rfl) c1 | cons a l => simp
        have c2 : ((P.length + hm : Nat) : Int) < ((P.length + X.length + (hm - s) : Nat) : Int) := by omega
        have c3 : ((P.length + X.length + (hm - s) : Nat) : Int) < ((P.length + X.length + Y.length : Nat) : Int) := by omega
        try simp (disch := first | omega | assumption | exact one_int _ _ | exact one_slice _ _ _ | exact one_ptr _ | exact one_bool _ | exact one_string _) only [optK_some_eq, nil2_ptr, ifV_true, ifV_false, run_if, run_out0, run_out1, run_out2, run_out3, optG_some, one_int, one_bool, one_string, one_slice, one_ptr, min2_eq, max2_eq, pick2_eq, u_not, u_neg, cells_agg, inside_ret, chk_true, get_eq, get_ne, List.getElem?_cons_zero, List.getElem?_cons_succ, List.set_cons_zero, List.set_cons_succ, List.length_cons, List.length_nil, Int.toNat_natCast, Int.toNat_zero, Nat.zero_add, Nat.add_zero, decide_eq_true_eq, decide_eq_false_iff_not, true_and, and_true, if_true, if_false, true_or, or_true, Bool.false_eq_true, Bool.true_eq_false, Nat.reduceAdd, Nat.reduceLT, wrap_id, wrap_succ, wrap_pred, len22, bgtr3, bleq3, blss3, beql24, beql3, ix22, ldr3, badd3, bneq3, bneq24, bmul3, str3, bsub3, bshl3, bquo3, bd36x0x1x2, len34, ix34, fa36f2, ldr22, fa36f0, fa46f0, bgeq3, fa46f1, beql22s, beql22n, bd46x0x3, fa46f2, str22, fa46f3, fa36f1, cv3x54, bshr54, cv54x3, c2, c3]
        have hA' : hr.get g = some ⟨3, true, nats (P ++ Z ++ X2 ++ Y2 ++ Q)⟩ := by rw [hA.1]; simp
        refine run_call okd (ih d n hr (P ++ Z) X2 Y2 Q _ _ _ (by omega) (by simp; omega) (by simp; omega) (by simp; omega) (by simp; omega) hx2 hy2 (hE.keeps hA.2) hg hA' (fun z hz => hin z (by rcases List.mem_append.1 hz with q | q; exact List.mem_append_left _ (mX2 z q); exact List.mem_append_right _ (mY2 z q))) pX2 pY2 (fun x hx y hy => hxy x (mX2 x hx) y (mY2 y hy))) (Nat.le_refl n) (fun b _ hb => .inr hb) fun v h1 n1 _ _ hq => ?_
        try simp (disch := first | omega | assumption | exact one_int _ _ | exact one_slice _ _ _ | exact one_ptr _ | exact one_bool _ | exact one_string _) only [optK_some_eq, nil2_ptr, ifV_true, ifV_false, run_if, run_out0, run_out1, run_out2, run_out3, optG_some, one_int, one_bool, one_string, one_slice, one_ptr, min2_eq, max2_eq, pick2_eq, u_not, u_neg, cells_agg, inside_ret, chk_true, get_eq, get_ne, List.getElem?_cons_zero, List.getElem?_cons_succ, List.set_cons_zero, List.set_cons_succ, List.length_cons, List.length_nil, Int.toNat_natCast, Int.toNat_zero, Nat.zero_add, Nat.add_zero, decide_eq_true_eq, decide_eq_false_iff_not, true_and, and_true, if_true, if_false, true_or, or_true, Bool.false_eq_true, Bool.true_eq_false, Nat.reduceAdd, Nat.reduceLT, wrap_id, wrap_succ, wrap_pred, len22, bgtr3, bleq3, blss3, beql24, beql3, ix22, ldr3, badd3, bneq3, bneq24, bmul3, str3, bsub3, bshl3, bquo3, bd36x0x1x2, len34, ix34, fa36f2, ldr22, fa36f0, fa46f0, bgeq3, fa46f1, beql22s, beql22n, bd46x0x3, fa46f2, str22, fa46f3, fa36f1, cv3x54, bshr54, cv54x3]
        obtain ⟨rfl, Z2, p2, s2, hA2⟩ := hq
        exact done h1 Z2 p2 s2 (hA.trans hA2)
    -- the second part
    have t2 : ∀ hr, At h hr g (P ++ (X1 ++ Y1) ++ (X2 ++ Y2) ++ Q) → Run (fun z => z = g) n (
        optK (bin2 Try.prog .lss 3 (.int .i64 (P.length : Nat)) (.int .i64 ((P.length + s : Nat) : Int))) fun v194 =>
        ifV v194 (
          optK (bin2 Try.prog .lss 3 (.int .i64 ((P.length + s : Nat) : Int)) (.int .i64 ((P.length + hm : Nat) : Int))) fun v198 =>
          ifV v198 (
            (inside (evCall2 Try.prog gt lf (d + l + 4) 39 #[.slice (some ⟨g, 0, none⟩) N cap, .int .i64 (P.length : Nat), .int .i64 ((P.length + s : Nat) : Int), .int .i64 ((P.length + hm : Nat) : Int), FT pw])).bind fun v205 =>
            optK (bin2 Try.prog .lss 3 (.int .i64 ((P.length + hm : Nat) : Int)) (.int .i64 ((P.length + X.length + (hm - s) : Nat) : Int))) fun v208 =>
            ifV v208 (
              optK (bin2 Try.prog .lss 3 (.int .i64 ((P.length + X.length + (hm - s) : Nat) : Int)) (.int .i64 ((P.length + X.length + Y.length : Nat) : Int))) fun v212 =>
              ifV v212 (
                (inside (evCall2 Try.prog gt lf (d + l + 4) 39 #[.slice (some ⟨g, 0, none⟩) N cap, .int .i64 ((P.length + hm : Nat) : Int), .int .i64 ((P.length + X.length + (hm - s) : Nat) : Int), .int .i64 ((P.length + X.length + Y.length : Nat) : Int), FT pw])).bind fun v219 =>
                outK []) (
                outK [])) (
              outK [])) (
            optK (bin2 Try.prog .lss 3 (.int .i64 ((P.length + hm : Nat) : Int)) (.int .i64 ((P.length + X.length + (hm - s) : Nat) : Int))) fun v208 =>
            ifV v208 (
              optK (bin2 Try.prog .lss 3 (.int .i64 ((P.length + X.length + (hm - s) : Nat) : Int)) (.int .i64 ((P.length + X.length + Y.length : Nat) : Int))) fun v212 =>
              ifV v212 (
                (inside (evCall2 Try.prog gt lf (d + l + 4) 39 #[.slice (some ⟨g, 0, none⟩) N cap, .int .i64 ((P.length + hm : Nat) : Int), .int .i64 ((P.length + X.length + (hm - s) : Nat) : Int), .int .i64 ((P.length + X.length + Y.length : Nat) : Int), FT pw])).bind fun v219 =>
                outK []) (
                outK [])) (
              outK []))) (
          optK (bin2 Try.prog .lss 3 (.int .i64 ((P.length + hm : Nat) : Int)) (.int .i64 ((P.length + X.length + (hm - s) : Nat) : Int))) fun v208 =>
          ifV v208 (
            optK (bin2 Try.prog .lss 3 (.int .i64 ((P.length + X.length + (hm - s) : Nat) : Int)) (.int .i64 ((P.length + X.length + Y.length : Nat) : Int))) fun v212 =>
            ifV v212 (
              (inside (evCall2 Try.prog gt lf (d + l + 4) 39 #[.slice (some ⟨g, 0, none⟩) N cap, .int .i64 ((P.length + hm : Nat) : Int), .int .i64 ((P.length + X.length + (hm - s) : Nat) : Int), .int .i64 ((P.length + X.length + Y.length : Nat) : Int), FT pw])).bind fun v219 =>
              outK []) (
              outK [])) (
            outK []))) hr n fun _ h' n' => SymQ h g n ws P (X ++ Y) Q h' n' := by
      intro hr hA
      by_cases c1 : X1 = [] ∨ Y1 = []
      · have hs2 : (X1 ++ Y1).Pairwise (RI (keyW ws)) := by
          rcases c1 with c1 | c1
          · rw [c1]; exact pY1
          · rw [c1, List.append_nil]; exact pX1
        have D := t3 hr _ (List.Perm.refl _) hs2 hA
        by_cases c2 : ((P.length : Nat) : Int) < ((P.length + s : Nat) : Int)
        · by_cases c3 : ((P.length + s : Nat) : Int) < ((P.length + hm : Nat) : Int)
          · exfalso
            rcases c1 with c1 | c1 <;> (have q := congrArg List.length c1; simp only [List.length_nil] at q; omega)
          · simp only [blss3, optK_some_eq, decide_eq_true c2, decide_eq_false c3, ifV_true, ifV_false]
            simpa only [blss3, optK_some_eq] using D
        · simp only [blss3, optK_some_eq, decide_eq_false c2, ifV_false]
          simpa only [blss3, optK_some_eq] using D
      · have hx2 : 1 ≤ X1.length := by cases X1 with | nil => exact absurd (.inl rfl) c1 | cons a l => simp
        have hy2 : 1 ≤ Y1.length := by cases Y1 with | nil => exact absurd (.inr rfl) c1 | cons a l => simp
        have c2 : ((P.length : Nat) : Int) < ((P.length + s : Nat) : Int) := by omega
        have c3 : ((P.length + s : Nat) : Int) < ((P.length + hm : Nat) : Int) := by omega
        simp only [blss3, optK_some_eq, decide_eq_true c2, decide_eq_true c3, ifV_true]
        have hA' : hr.get g = some ⟨3, true, nats (P ++ X1 ++ Y1 ++ (X2 ++ Y2 ++ Q))⟩ := by rw [hA.1]; simp
        refine run_call okd (ih d n hr P X1 Y1 (X2 ++ Y2 ++ Q) _ _ _ (by omega) (by simp; omega) rfl (by omega) (by omega) hx2 hy2 (hE.keeps hA.2) hg hA' (fun z hz => hin z (by rcases List.mem_append.1 hz with q | q; exact List.mem_append_left _ (mX1 z q); exact List.mem_append_right _ (mY1 z q))) pX1 pY1 (fun x hx y hy => hxy x (mX1 x hx) y (mY1 y hy))) (Nat.le_refl n) (fun b _ hb => .inr hb) fun v h1 n1 _ _ hq => ?_
        obtain ⟨rfl, Z2, p2, s2, hA2⟩ := hq
        simpa only [blss3, optK_some_eq] using t3 h1 Z2 p2 s2 (by have := hA.trans hA2; rwa [show P ++ Z2 ++ (X2 ++ Y2) ++ Q = P ++ Z2 ++ (X2 ++ Y2 ++ Q) by simp])
    simp only [blss3, bsub3, w5, optK_some_eq] at t2 ⊢
    by_cases c1 : X2 = [] ∨ Y1 = []
    · have hA0 : At h h g (P ++ (X1 ++ Y1) ++ (X2 ++ Y2) ++ Q) := by
        refine ⟨?_, fun b hb => rfl⟩
        rw [hh, ← eX, ← eY]
        rcases c1 with c1 | c1 <;> (rw [c1]; simp)
      have D := t2 h hA0
      by_cases c2 : ((P.length + s : Nat) : Int) < ((P.length + X.length : Nat) : Int)
      · by_cases c3 : ((P.length + X.length : Nat) : Int) < ((P.length + X.length + (hm - s) : Nat) : Int)
        · exfalso
          rcases c1 with c1 | c1 <;> (have q := congrArg List.length c1; simp only [List.length_nil] at q; omega)
        · simp only [decide_eq_true c2, decide_eq_false c3, ifV_true, ifV_false]
          exact D
      · simp only [decide_eq_false c2, ifV_false]
        exact D
    · have hx2 : 1 ≤ X2.length := by cases X2 with | nil => exact absurd (.inl rfl) c1 | cons a l => simp
      have hy2 : 1 ≤ Y1.length := by cases Y1 with | nil => exact absurd (.inr rfl) c1 | cons a l => simp
      have c2 : ((P.length + s : Nat) : Int) < ((P.length + X.length : Nat) : Int) := by omega
      have c3 : ((P.length + X.length : Nat) : Int) < ((P.length + X.length + (hm - s) : Nat) : Int) := by omega
      simp only [decide_eq_true c2, decide_eq_true c3, ifV_true]
      have hh' : h.get g = some ⟨3, true, nats (P ++ X1 ++ X2 ++ Y1 ++ (Y2 ++ Q))⟩ := by rw [hh, ← eX, ← eY]; simp
      refine run_call okd (s_rot lf (d + l + 2) g n cap h (P ++ X1) X2 Y1 (Y2 ++ Q) N _ _ _ _ hlf (by simp; omega) hNb hx2 hy2 hg (by simp; omega) (by simp; omega) (by simp; omega) hh') (Nat.le_refl n) (fun b _ hb => .inr hb) fun v h1 n1 _ _ hq => ?_
      obtain ⟨rfl, hA⟩ := hq
      exact t2 h1 (by rwa [show P ++ (X1 ++ Y1) ++ (X2 ++ Y2) ++ Q = P ++ X1 ++ Y1 ++ X2 ++ (Y2 ++ Q) by simp])
  have run := symC (W := fun z => z = g) lf (d + l + 1) g n cap pw ws h P X Y Q hm N hN hNb hE hg hh (fun z hz => hin z (by simp [hz])) (fun z hz => hin z (by simp [hz])) hxy (by omega) (Nat.le_refl n) (R := fun _ h' n' => SymQ h g n ws P (X ++ Y) Q h' n') (kcC_slices_symMergeCmpFunc_int lf (d + l + 4)) (.int .i64 (P.length : Nat)) (.int .i64 ((P.length + X.length : Nat) : Int)) (.int .i64 ((P.length + X.length + Y.length : Nat) : Int)) (.int .i64 ((P.length + hm : Nat) : Int)) (.int .i64 ((P.length + hm + P.length + X.length : Nat) : Int)) (.bool false) (.bool false)
  by_cases c0 : hm < X.length
  · have c1 : ((P.length + hm : Nat) : Int) < ((P.length + X.length : Nat) : Int) := by omega
    have w6 : IntKind.i64.wrap (((P.length + hm + P.length + X.length : Nat) : Int) - ((P.length + X.length + Y.length : Nat) : Int)) = ((P.length + (hm - Y.length) : Nat) : Int) := by rw [wrap_id (by omega) (by omega)]; omega
    try simp (disch := first | omega | assumption | exact one_int _ _ | exact one_slice _ _ _ | exact one_ptr _ | exact one_bool _ | exact one_string _) only [optK_some_eq, nil2_ptr, ifV_true, ifV_false, run_if, run_out0, run_out1, run_out2, run_out3, optG_some, one_int, one_bool, one_string, one_slice, one_ptr, min2_eq, max2_eq, pick2_eq, u_not, u_neg, cells_agg, inside_ret, chk_true, get_eq, get_ne, List.getElem?_cons_zero, List.getElem?_cons_succ, List.set_cons_zero, List.set_cons_succ, List.length_cons, List.length_nil, Int.toNat_natCast, Int.toNat_zero, Nat.zero_add, Nat.add_zero, decide_eq_true_eq, decide_eq_false_iff_not, true_and, and_true, if_true, if_false, true_or, or_true, Bool.false_eq_true, Bool.true_eq_false, Nat.reduceAdd, Nat.reduceLT, wrap_id, wrap_succ, wrap_pred, len22, bgtr3, bleq3, blss3, beql24, beql3, ix22, ldr3, badd3, bneq3, bneq24, bmul3, str3, bsub3, bshl3, bquo3, bd36x0x1x2, len34, ix34, fa36f2, ldr22, fa36f0, fa46f0, bgeq3, fa46f1, beql22s, beql22n, bd46x0x3, fa46f2, str22, fa46f3, fa36f1, cv3x54, bshr54, cv54x3, w1, w2, w3, w4, wrap_u64, half1, half2, c1, w6]
    exact run (.bool true) _ rfl (fun s y151 a1 a2 a3 a4 a5 => fin s y151 a1 a2 a3 a4 a5 _ _ _ _ _) (X.length + Y.length) (hm - Y.length) hm lf (by omega) (by omega) (by omega) (by omega) (by omega) (by omega) (by omega) (by omega)
  · have c1 : ¬ ((P.length + hm : Nat) : Int) < ((P.length + X.length : Nat) : Int) := by omega
    try simp (disch := first | omega | assumption | exact one_int _ _ | exact one_slice _ _ _ | exact one_ptr _ | exact one_bool _ | exact one_string _) only [optK_some_eq, nil2_ptr, ifV_true, ifV_false, run_if, run_out0, run_out1, run_out2, run_out3, optG_some, one_int, one_bool, one_string, one_slice, one_ptr, min2_eq, max2_eq, pick2_eq, u_not, u_neg, cells_agg, inside_ret, chk_true, get_eq, get_ne, List.getElem?_cons_zero, List.getElem?_cons_succ, List.set_cons_zero, List.set_cons_succ, List.length_cons, List.length_nil, Int.toNat_natCast, Int.toNat_zero, Nat.zero_add, Nat.add_zero, decide_eq_true_eq, decide_eq_false_iff_not, true_and, and_true, if_true, if_false, true_or, or_true, Bool.false_eq_true, Bool.true_eq_false, Nat.reduceAdd, Nat.reduceLT, wrap_id, wrap_succ, wrap_pred, len22, bgtr3, bleq3, blss3, beql24, beql3, ix22, ldr3, badd3, bneq3, bneq24, bmul3, str3, bsub3, bshl3, bquo3, bd36x0x1x2, len34, ix34, fa36f2, ldr22, fa36f0, fa46f0, bgeq3, fa46f1, beql22s, beql22n, bd46x0x3, fa46f2, str22, fa46f3, fa36f1, cv3x54, bshr54, cv54x3, w1, w2, w3, w4, wrap_u64, half1, half2, c1]
    exact run (.bool false) _ rfl (fun s y151 a1 a2 a3 a4 a5 => fin s y151 a1 a2 a3 a4 a5 _ _ _ _ _) (X.length + Y.length) 0 X.length lf (by omega) (by omega) (by omega) (by omega) (by omega) (by omega) (by omega) (by omega)

theorem s_sym (lf g cap pw N : Nat) (ws : List Int) (hlf : 3000000 ≤ lf) (hNb : N ≤ 1000000) : ∀ l, SymSpec lf g cap pw N ws l := by
  intro l
  induction l with
  | zero => intro d n h P X Y Q a m b hl hN ha hm hb hX hY; omega
  | succ l ih =>
    intro d n h P X Y Q a m b hl hN ha hm hb hX hY hE hg hh hin hx hy hxy
    by_cases h1 : X.length = 1
    · obtain ⟨x, rfl⟩ := List.length_eq_one_iff.1 h1
      have e : P ++ [x] ++ Y ++ Q = P ++ x :: Y ++ Q := by simp
      exact s_sym_one lf (d + l + 1) g n cap pw ws h P Y Q x N a m b hlf (by rw [← e]; exact hN) hNb ha hm hb hE hg (by rw [← e]; exact hh) (fun z hz => hin z (by simpa using hz)) hy (fun y hy => hxy x (by simp) y hy)
    · by_cases h2 : Y.length = 1
      · obtain ⟨y, rfl⟩ := List.length_eq_one_iff.1 h2
        have e : P ++ X ++ [y] ++ Q = P ++ X ++ y :: Q := by simp
        exact s_sym_last lf (d + l + 1) g n cap pw ws h P X Q y N a m b hlf (by rw [← e]; exact hN) hNb (by omega) ha hm hb hE hg (by rw [← e]; exact hh) (hin y (by simp)) (fun z hz => hin z (by simp [hz])) hx (fun x hx => hxy x hx y (by simp))
      · subst ha hm hb
        exact s_sym_step lf g cap pw N ws hlf hNb l ih d n h P X Y Q hl hN (by omega) (by omega) hE hg hh hin hx hy hxy

end Go.Proofs.Ytapdcejhfooahaa

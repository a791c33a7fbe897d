/- The library's merge in place, by the second form: the general step, and the whole. -/
import Derived.Test.YtdagfcflbphoiaaDoorMak
import Derived.Test.YtdagfcflbphoiaaDoorMae
import Derived.WalkKit
namespace Go.Proofs.YtdagfcflbphoiaaDoor
set_option linter.unusedVariables false
set_option linter.unusedSimpArgs false
open Go.RowKit Ev Hu

def SymSpec (lf g cap pw N : Nat) (ws : List Int) (l : Nat) : Prop :=
  ∀ (d n : Nat) (h : H) (P X Y Q : List Nat) (a m b : Int), X.length + Y.length ≤ l → (P ++ X ++ Y ++ Q).length = N → a = (P.length : Nat) → m = ((P.length + X.length : Nat) : Int) → b = ((P.length + X.length + Y.length : Nat) : Int) → 1 ≤ X.length → 1 ≤ Y.length → EnvT h n g pw ws → g < n → h.get g = some ⟨3, true, nats (P ++ X ++ Y ++ Q)⟩ → (∀ z ∈ X ++ Y, z < ws.length) → X.Pairwise (RI (keyW ws)) → Y.Pairwise (RI (keyW ws)) → (∀ x ∈ X, ∀ y ∈ Y, x < y) →
    Run (fun z => z = g) n (evCall2 Tryd.prog gt lf (d + l + 4) 76 #[.slice (some ⟨g, 0, none⟩) N cap, .int .i64 a, .int .i64 m, .int .i64 b, FT pw]) h n fun _ h' n' => SymQ h g n ws P (X ++ Y) Q h' n'

theorem SymQ.run {h hr : H} {g n : Nat} {ws : List Int} {P Z Q : List Nat} {QQ : H → Nat → Prop} (e : ∀ h', (∃ Z', Z'.Perm Z ∧ Z'.Pairwise (RI (keyW ws)) ∧ At hr h' g (P ++ Z' ++ Q)) → QQ h' n) {h' : H} {n' : Nat} (q : SymQ hr g n ws P Z Q h' n') : QQ h' n' := by
  obtain ⟨rfl, q⟩ := q
  exact e _ q

set_option maxHeartbeats 1000000 in
theorem s_sym_step (lf g cap pw N : Nat) (ws : List Int) (hlf : 3000000 ≤ lf) (hNb : N ≤ 1000000) (l : Nat) (ih : SymSpec lf g cap pw N ws l) (d n : Nat) (h : H) (P X Y Q : List Nat) (hl : X.length + Y.length ≤ l + 1) (hN : (P ++ X ++ Y ++ Q).length = N) (hX2 : 2 ≤ X.length) (hY2 : 2 ≤ Y.length) (hE : EnvT h n g pw ws) (hg : g < n) (hh : h.get g = some ⟨3, true, nats (P ++ X ++ Y ++ Q)⟩) (hin : ∀ z ∈ X ++ Y, z < ws.length) (hx : X.Pairwise (RI (keyW ws))) (hy : Y.Pairwise (RI (keyW ws))) (hxy : ∀ x ∈ X, ∀ y ∈ Y, x < y) :
    Run (fun z => z = g) n (evCall2 Tryd.prog gt lf (d + l + 4 + 1) 76 #[.slice (some ⟨g, 0, none⟩) N cap, .int .i64 (P.length : Nat), .int .i64 ((P.length + X.length : Nat) : Int), .int .i64 ((P.length + X.length + Y.length : Nat) : Int), FT pw]) h n fun _ h' n' => SymQ h g n ws P (X ++ Y) Q h' n' := by
  have lN := hN
  simp only [List.length_append] at lN
  rw [sh_slices_symMergeCmpFunc_int]
  refine Run.inside_ ?_
  unfold b_slices_symMergeCmpFunc_int
  obtain ⟨hm, hhm⟩ : ∃ hm, (P.length + (P.length + X.length + Y.length)) / 2 = P.length + hm := ⟨(X.length + Y.length) / 2, by omega⟩
  have hm1 : 1 ≤ hm := by omega
  have hm2 : hm < X.length + Y.length := by omega
  have w1 : (((P.length + X.length : Nat) : Int) - ((P.length : Nat) : Int) == 1) = false := by rw [beq_eq_false_iff_ne]; omega
  have w2 : (((P.length + X.length + Y.length : Nat) : Int) - ((P.length + X.length : Nat) : Int) == 1) = false := by rw [beq_eq_false_iff_ne]; omega
  have w3 : (((P.length : Nat) : Int) + ((P.length + X.length + Y.length : Nat) : Int)) / 2 = ((P.length + hm : Nat) : Int) := by omega
  have w4 : IntKind.i64.wrap (((P.length + hm : Nat) : Int) + ((P.length + X.length : Nat) : Int)) = ((P.length + hm + P.length + X.length : Nat) : Int) := by rw [wrap_id (by omega) (by omega)]; omega
  -- what stands behind the search
  have fin : ∀ s y151, s ≤ X.length → s ≤ hm → hm - s ≤ Y.length → (s = 0 ∨ hm - s = Y.length ∨ RI (keyW ws) (X.getD (s - 1) 0) (Y.getD (hm - s) 0)) → (s = X.length ∨ s = hm ∨ RI (keyW ws) (Y.getD (hm - 1 - s) 0) (X.getD s 0)) → ∀ y21 y22 y28 y80 y140,
      Run (fun z => z = g) n (kcC_slices_symMergeCmpFunc_int lf (d + l + 4) (Ex.exit 8) [(0, .slice (some ⟨g, 0, none⟩) N cap), (1, .int .i64 (P.length : Nat)), (2, .int .i64 ((P.length + X.length : Nat) : Int)), (3, .int .i64 ((P.length + X.length + Y.length : Nat) : Int)), (4, FT pw), (18, .int .i64 ((P.length + hm : Nat) : Int)), (19, .int .i64 ((P.length + hm + P.length + X.length : Nat) : Int)), (20, .int .i64 ((P.length + s : Nat) : Int)), (21, y21), (22, y22), (28, y28), (80, y80), (140, y140), (151, y151)]) h n fun _ h' n' => SymQ h g n ws P (X ++ Y) Q h' n' := by
    intro s y151 hsX hsh hsY h1 h2 y21 y22 y28 y80 y140
    have hc := sym_split hx hy hm s hsX hsh hsY h1 h2
    obtain ⟨X1, hX1⟩ : ∃ X1, X.take s = X1 := ⟨_, rfl⟩
    obtain ⟨X2, hX2'⟩ : ∃ X2, X.drop s = X2 := ⟨_, rfl⟩
    obtain ⟨Y1, hY1⟩ : ∃ Y1, Y.take (hm - s) = Y1 := ⟨_, rfl⟩
    obtain ⟨Y2, hY2'⟩ : ∃ Y2, Y.drop (hm - s) = Y2 := ⟨_, rfl⟩
    have sj := fun Z1 Z2 p1 p2 s1 s2 => sym_join (Z1 := Z1) (Z2 := Z2) (X := X) (Y := Y) (h := hm) (s := s) (k := keyW ws) p1 p2 s1 s2 hc
    have eX : X1 ++ X2 = X := by rw [← hX1, ← hX2']; exact List.take_append_drop _ _
    have eY : Y1 ++ Y2 = Y := by rw [← hY1, ← hY2']; exact List.take_append_drop _ _
    have lX1 : X1.length = s := by rw [← hX1, List.length_take]; omega
    have lY1 : Y1.length = hm - s := by rw [← hY1, List.length_take]; omega
    have lX2 : X2.length = X.length - s := by rw [← hX2', List.length_drop]
    have lY2 : Y2.length = Y.length - (hm - s) := by rw [← hY2', List.length_drop]
    have pX1 : X1.Pairwise (RI (keyW ws)) := by rw [← hX1]; exact hx.sublist (List.take_sublist _ _)
    have pX2 : X2.Pairwise (RI (keyW ws)) := by rw [← hX2']; exact hx.sublist (List.drop_sublist _ _)
    have pY1 : Y1.Pairwise (RI (keyW ws)) := by rw [← hY1]; exact hy.sublist (List.take_sublist _ _)
    have pY2 : Y2.Pairwise (RI (keyW ws)) := by rw [← hY2']; exact hy.sublist (List.drop_sublist _ _)
    simp only [hX1, hX2', hY1, hY2'] at sj
    have mX1 : ∀ z ∈ X1, z ∈ X := fun z hz => by rw [← eX]; simp [hz]
    have mX2 : ∀ z ∈ X2, z ∈ X := fun z hz => by rw [← eX]; simp [hz]
    have mY1 : ∀ z ∈ Y1, z ∈ Y := fun z hz => by rw [← eY]; simp [hz]
    have mY2 : ∀ z ∈ Y2, z ∈ Y := fun z hz => by rw [← eY]; simp [hz]
    rw [kcCa_slices_symMergeCmpFunc_int]
    have w5 : IntKind.i64.wrap (((P.length + hm + P.length + X.length : Nat) : Int) - ((P.length + s : Nat) : Int)) = ((P.length + X.length + (hm - s) : Nat) : Int) := by rw [wrap_id (by omega) (by omega)]; omega
    -- the third part
    have t3 : ∀ hr Z, Z.Perm (X1 ++ Y1) → Z.Pairwise (RI (keyW ws)) → At h hr g (P ++ Z ++ (X2 ++ Y2) ++ Q) → Run (fun z => z = g) n (
        optK (bin2 Tryd.prog .lss 3 (.int .i64 ((P.length + hm : Nat) : Int)) (.int .i64 ((P.length + X.length + (hm - s) : Nat) : Int))) fun v208 =>
        ifV v208 (
          optK (bin2 Tryd.prog .lss 3 (.int .i64 ((P.length + X.length + (hm - s) : Nat) : Int)) (.int .i64 ((P.length + X.length + Y.length : Nat) : Int))) fun v212 =>
          ifV v212 (
            (inside (evCall2 Tryd.prog gt lf (d + l + 4) 76 #[.slice (some ⟨g, 0, none⟩) N cap, .int .i64 ((P.length + hm : Nat) : Int), .int .i64 ((P.length + X.length + (hm - s) : Nat) : Int), .int .i64 ((P.length + X.length + Y.length : Nat) : Int), FT pw])).bind fun v219 =>
            outK []) (
            outK [])) (
          outK [])) hr n fun _ h' n' => SymQ h g n ws P (X ++ Y) Q h' n' := by
      intro hr Z pZ sZ hA
      have lZ := pZ.length_eq
      simp only [List.length_append] at lZ
      have done : ∀ h' Z2, Z2.Perm (X2 ++ Y2) → Z2.Pairwise (RI (keyW ws)) → At h h' g (P ++ Z ++ Z2 ++ Q) → SymQ h g n ws P (X ++ Y) Q h' n := fun h' Z2 p2 s2 hA2 => by
        obtain ⟨q1, q2⟩ := sj Z Z2 pZ p2 sZ s2
        exact ⟨rfl, Z ++ Z2, q1, q2, by rw [← List.append_assoc]; exact hA2⟩
      by_cases c1 : X2 = [] ∨ Y2 = []
      · -- nothing is to be merged
        have hs2 : (X2 ++ Y2).Pairwise (RI (keyW ws)) := by
          rcases c1 with c1 | c1
          · rw [c1]; exact pY2
          · rw [c1, List.append_nil]; exact pX2
        have D := done hr _ (List.Perm.refl _) hs2 hA
        by_cases c2 : ((P.length + hm : Nat) : Int) < ((P.length + X.length + (hm - s) : Nat) : Int)
        · by_cases c3 : ((P.length + X.length + (hm - s) : Nat) : Int) < ((P.length + X.length + Y.length : Nat) : Int)
          · exfalso
            rcases c1 with c1 | c1 <;> (have q := congrArg List.length c1; simp only [List.length_nil] at q; omega)
          · try simp (disch := first | omega | assumption | exact one_int _ _ | exact one_slice _ _ _ | exact one_ptr _ | exact one_bool _ | exact one_string _) only [RXA, RXB, Nat.reduceAdd, Nat.reduceLT, wrap_id, wrap_succ, wrap_pred, FX1, c2, c3]
            exact D
        · try simp (disch := first | omega | assumption | exact one_int _ _ | exact one_slice _ _ _ | exact one_ptr _ | exact one_bool _ | exact one_string _) only [RXA, RXB, Nat.reduceAdd, Nat.reduceLT, wrap_id, wrap_succ, wrap_pred, FX1, c2]
          exact D
      · have hx2 : 1 ≤ X2.length := by cases X2 with | nil => exact absurd (.inl rfl) c1 | cons a l => simp
        have hy2 : 1 ≤ Y2.length := by cases Y2 with | nil => exact absurd (.inr rfl) c1 | cons a l => simp
        have c2 : ((P.length + hm : Nat) : Int) < ((P.length + X.length + (hm - s) : Nat) : Int) := by omega
        have c3 : ((P.length + X.length + (hm - s) : Nat) : Int) < ((P.length + X.length + Y.length : Nat) : Int) := by omega
        try simp (disch := first | omega | assumption | exact one_int _ _ | exact one_slice _ _ _ | exact one_ptr _ | exact one_bool _ | exact one_string _) only [RXA, RXB, Nat.reduceAdd, Nat.reduceLT, wrap_id, wrap_succ, wrap_pred, FX1, c2, c3]
        have hA' : hr.get g = some ⟨3, true, nats (P ++ Z ++ X2 ++ Y2 ++ Q)⟩ := by rw [hA.1]; simp
        refine run_call okd (ih d n hr (P ++ Z) X2 Y2 Q _ _ _ (by omega) (by simp; omega) (by simp; omega) (by simp; omega) (by simp; omega) hx2 hy2 (hE.keeps hA.2) hg hA' (fun z hz => hin z (by rcases List.mem_append.1 hz with q | q; exact List.mem_append_left _ (mX2 z q); exact List.mem_append_right _ (mY2 z q))) pX2 pY2 (fun x hx y hy => hxy x (mX2 x hx) y (mY2 y hy))) (Nat.le_refl n) (fun b _ hb => .inr hb) fun v h1 n1 _ _ hq => ?_
        try simp (disch := first | omega | assumption | exact one_int _ _ | exact one_slice _ _ _ | exact one_ptr _ | exact one_bool _ | exact one_string _) only [RXA, RXB, Nat.reduceAdd, Nat.reduceLT, wrap_id, wrap_succ, wrap_pred, FX1]
        obtain ⟨rfl, Z2, p2, s2, hA2⟩ := hq
        exact done h1 Z2 p2 s2 (hA.trans hA2)
    -- the second part
    have t2 : ∀ hr, At h hr g (P ++ (X1 ++ Y1) ++ (X2 ++ Y2) ++ Q) → Run (fun z => z = g) n (
        optK (bin2 Tryd.prog .lss 3 (.int .i64 (P.length : Nat)) (.int .i64 ((P.length + s : Nat) : Int))) fun v194 =>
        ifV v194 (
          optK (bin2 Tryd.prog .lss 3 (.int .i64 ((P.length + s : Nat) : Int)) (.int .i64 ((P.length + hm : Nat) : Int))) fun v198 =>
          ifV v198 (
            (inside (evCall2 Tryd.prog gt lf (d + l + 4) 76 #[.slice (some ⟨g, 0, none⟩) N cap, .int .i64 (P.length : Nat), .int .i64 ((P.length + s : Nat) : Int), .int .i64 ((P.length + hm : Nat) : Int), FT pw])).bind fun v205 =>
            optK (bin2 Tryd.prog .lss 3 (.int .i64 ((P.length + hm : Nat) : Int)) (.int .i64 ((P.length + X.length + (hm - s) : Nat) : Int))) fun v208 =>
            ifV v208 (
              optK (bin2 Tryd.prog .lss 3 (.int .i64 ((P.length + X.length + (hm - s) : Nat) : Int)) (.int .i64 ((P.length + X.length + Y.length : Nat) : Int))) fun v212 =>
              ifV v212 (
                (inside (evCall2 Tryd.prog gt lf (d + l + 4) 76 #[.slice (some ⟨g, 0, none⟩) N cap, .int .i64 ((P.length + hm : Nat) : Int), .int .i64 ((P.length + X.length + (hm - s) : Nat) : Int), .int .i64 ((P.length + X.length + Y.length : Nat) : Int), FT pw])).bind fun v219 =>
                outK []) (
                outK [])) (
              outK [])) (
            optK (bin2 Tryd.prog .lss 3 (.int .i64 ((P.length + hm : Nat) : Int)) (.int .i64 ((P.length + X.length + (hm - s) : Nat) : Int))) fun v208 =>
            ifV v208 (
              optK (bin2 Tryd.prog .lss 3 (.int .i64 ((P.length + X.length + (hm - s) : Nat) : Int)) (.int .i64 ((P.length + X.length + Y.length : Nat) : Int))) fun v212 =>
              ifV v212 (
                (inside (evCall2 Tryd.prog gt lf (d + l + 4) 76 #[.slice (some ⟨g, 0, none⟩) N cap, .int .i64 ((P.length + hm : Nat) : Int), .int .i64 ((P.length + X.length + (hm - s) : Nat) : Int), .int .i64 ((P.length + X.length + Y.length : Nat) : Int), FT pw])).bind fun v219 =>
                outK []) (
                outK [])) (
              outK []))) (
          optK (bin2 Tryd.prog .lss 3 (.int .i64 ((P.length + hm : Nat) : Int)) (.int .i64 ((P.length + X.length + (hm - s) : Nat) : Int))) fun v208 =>
          ifV v208 (
            optK (bin2 Tryd.prog .lss 3 (.int .i64 ((P.length + X.length + (hm - s) : Nat) : Int)) (.int .i64 ((P.length + X.length + Y.length : Nat) : Int))) fun v212 =>
            ifV v212 (
              (inside (evCall2 Tryd.prog gt lf (d + l + 4) 76 #[.slice (some ⟨g, 0, none⟩) N cap, .int .i64 ((P.length + hm : Nat) : Int), .int .i64 ((P.length + X.length + (hm - s) : Nat) : Int), .int .i64 ((P.length + X.length + Y.length : Nat) : Int), FT pw])).bind fun v219 =>
              outK []) (
              outK [])) (
            outK []))) hr n fun _ h' n' => SymQ h g n ws P (X ++ Y) Q h' n' := by
      intro hr hA
      by_cases c1 : X1 = [] ∨ Y1 = []
      · have hs2 : (X1 ++ Y1).Pairwise (RI (keyW ws)) := by
          rcases c1 with c1 | c1
          · rw [c1]; exact pY1
          · rw [c1, List.append_nil]; exact pX1
        have D := t3 hr _ (List.Perm.refl _) hs2 hA
        by_cases c2 : ((P.length : Nat) : Int) < ((P.length + s : Nat) : Int)
        · by_cases c3 : ((P.length + s : Nat) : Int) < ((P.length + hm : Nat) : Int)
          · exfalso
            rcases c1 with c1 | c1 <;> (have q := congrArg List.length c1; simp only [List.length_nil] at q; omega)
          · simp only [blss3, optK_some_eq, decide_eq_true c2, decide_eq_false c3, ifV_true, ifV_false]
            simpa only [blss3, optK_some_eq] using D
        · simp only [blss3, optK_some_eq, decide_eq_false c2, ifV_false]
          simpa only [blss3, optK_some_eq] using D
      · have hx2 : 1 ≤ X1.length := by cases X1 with | nil => exact absurd (.inl rfl) c1 | cons a l => simp
        have hy2 : 1 ≤ Y1.length := by cases Y1 with | nil => exact absurd (.inr rfl) c1 | cons a l => simp
        have c2 : ((P.length : Nat) : Int) < ((P.length + s : Nat) : Int) := by omega
        have c3 : ((P.length + s : Nat) : Int) < ((P.length + hm : Nat) : Int) := by omega
        simp only [blss3, optK_some_eq, decide_eq_true c2, decide_eq_true c3, ifV_true]
        have hA' : hr.get g = some ⟨3, true, nats (P ++ X1 ++ Y1 ++ (X2 ++ Y2 ++ Q))⟩ := by rw [hA.1]; simp
        refine run_call okd (ih d n hr P X1 Y1 (X2 ++ Y2 ++ Q) _ _ _ (by omega) (by simp; omega) rfl (by omega) (by omega) hx2 hy2 (hE.keeps hA.2) hg hA' (fun z hz => hin z (by rcases List.mem_append.1 hz with q | q; exact List.mem_append_left _ (mX1 z q); exact List.mem_append_right _ (mY1 z q))) pX1 pY1 (fun x hx y hy => hxy x (mX1 x hx) y (mY1 y hy))) (Nat.le_refl n) (fun b _ hb => .inr hb) fun v h1 n1 _ _ hq => ?_
        obtain ⟨rfl, Z2, p2, s2, hA2⟩ := hq
        simpa only [blss3, optK_some_eq] using t3 h1 Z2 p2 s2 (by have := hA.trans hA2; rwa [show P ++ Z2 ++ (X2 ++ Y2) ++ Q = P ++ Z2 ++ (X2 ++ Y2 ++ Q) by simp])
    simp only [blss3, bsub3, w5, optK_some_eq] at t2 ⊢
    by_cases c1 : X2 = [] ∨ Y1 = []
    · have hA0 : At h h g (P ++ (X1 ++ Y1) ++ (X2 ++ Y2) ++ Q) := by
        refine ⟨?_, fun b hb => rfl⟩
        rw [hh, ← eX, ← eY]
        rcases c1 with c1 | c1 <;> (rw [c1]; simp)
      have D := t2 h hA0
      by_cases c2 : ((P.length + s : Nat) : Int) < ((P.length + X.length : Nat) : Int)
      · by_cases c3 : ((P.length + X.length : Nat) : Int) < ((P.length + X.length + (hm - s) : Nat) : Int)
        · exfalso
          rcases c1 with c1 | c1 <;> (have q := congrArg List.length c1; simp only [List.length_nil] at q; omega)
        · simp only [decide_eq_true c2, decide_eq_false c3, ifV_true, ifV_false]
          exact D
      · simp only [decide_eq_false c2, ifV_false]
        exact D
    · have hx2 : 1 ≤ X2.length := by cases X2 with | nil => exact absurd (.inl rfl) c1 | cons a l => simp
      have hy2 : 1 ≤ Y1.length := by cases Y1 with | nil => exact absurd (.inr rfl) c1 | cons a l => simp
      have c2 : ((P.length + s : Nat) : Int) < ((P.length + X.length : Nat) : Int) := by omega
      have c3 : ((P.length + X.length : Nat) : Int) < ((P.length + X.length + (hm - s) : Nat) : Int) := by omega
      simp only [decide_eq_true c2, decide_eq_true c3, ifV_true]
      have hh' : h.get g = some ⟨3, true, nats (P ++ X1 ++ X2 ++ Y1 ++ (Y2 ++ Q))⟩ := by rw [hh, ← eX, ← eY]; simp
      refine run_call okd (s_rot lf (d + l + 2) g n cap h (P ++ X1) X2 Y1 (Y2 ++ Q) N _ _ _ _ hlf (by simp; omega) hNb hx2 hy2 hg (by simp; omega) (by simp; omega) (by simp; omega) hh') (Nat.le_refl n) (fun b _ hb => .inr hb) fun v h1 n1 _ _ hq => ?_
      obtain ⟨rfl, hA⟩ := hq
      exact t2 h1 (by rwa [show P ++ (X1 ++ Y1) ++ (X2 ++ Y2) ++ Q = P ++ X1 ++ Y1 ++ X2 ++ (Y2 ++ Q) by simp])
  have run := symC (W := fun z => z = g) lf (d + l + 1) g n cap pw ws h P X Y Q hm N hN hNb hE hg hh (fun z hz => hin z (by simp [hz])) (fun z hz => hin z (by simp [hz])) hxy (by omega) (Nat.le_refl n) (R := fun _ h' n' => SymQ h g n ws P (X ++ Y) Q h' n') (kcC_slices_symMergeCmpFunc_int lf (d + l + 4)) (.int .i64 (P.length : Nat)) (.int .i64 ((P.length + X.length : Nat) : Int)) (.int .i64 ((P.length + X.length + Y.length : Nat) : Int)) (.int .i64 ((P.length + hm : Nat) : Int)) (.int .i64 ((P.length + hm + P.length + X.length : Nat) : Int)) (.bool false) (.bool false)
  by_cases c0 : hm < X.length
  · have c1 : ((P.length + hm : Nat) : Int) < ((P.length + X.length : Nat) : Int) := by omega
    have w6 : IntKind.i64.wrap (((P.length + hm + P.length + X.length : Nat) : Int) - ((P.length + X.length + Y.length : Nat) : Int)) = ((P.length + (hm - Y.length) : Nat) : Int) := by rw [wrap_id (by omega) (by omega)]; omega
    try simp (disch := first | omega | assumption | exact one_int _ _ | exact one_slice _ _ _ | exact one_ptr _ | exact one_bool _ | exact one_string _) only [RXA, RXB, Nat.reduceAdd, Nat.reduceLT, wrap_id, wrap_succ, wrap_pred, FX1, w1, w2, w3, w4, wrap_u64, half1, half2, c1, w6]
    exact run (.bool true) _ rfl (fun s y151 a1 a2 a3 a4 a5 => fin s y151 a1 a2 a3 a4 a5 _ _ _ _ _) (X.length + Y.length) (hm - Y.length) hm lf (by omega) (by omega) (by omega) (by omega) (by omega) (by omega) (by omega) (by omega)
  · have c1 : ¬ ((P.length + hm : Nat) : Int) < ((P.length + X.length : Nat) : Int) := by omega
    try simp (disch := first | omega | assumption | exact one_int _ _ | exact one_slice _ _ _ | exact one_ptr _ | exact one_bool _ | exact one_string _) only [RXA, RXB, Nat.reduceAdd, Nat.reduceLT, wrap_id, wrap_succ, wrap_pred, FX1, w1, w2, w3, w4, wrap_u64, half1, half2, c1]
    exact run (.bool false) _ rfl (fun s y151 a1 a2 a3 a4 a5 => fin s y151 a1 a2 a3 a4 a5 _ _ _ _ _) (X.length + Y.length) 0 X.length lf (by omega) (by omega) (by omega) (by omega) (by omega) (by omega) (by omega) (by omega)

theorem s_sym (lf g cap pw N : Nat) (ws : List Int) (hlf : 3000000 ≤ lf) (hNb : N ≤ 1000000) : ∀ l, SymSpec lf g cap pw N ws l := by
  intro l
  induction l with
  | zero => intro d n h P X Y Q a m b hl hN ha hm hb hX hY; omega
  | succ l ih =>
    intro d n h P X Y Q a m b hl hN ha hm hb hX hY hE hg hh hin hx hy hxy
    by_cases h1 : X.length = 1
    · obtain ⟨x, rfl⟩ := List.length_eq_one_iff.1 h1
      have e : P ++ [x] ++ Y ++ Q = P ++ x :: Y ++ Q := by simp
      exact s_sym_one lf (d + l + 1) g n cap pw ws h P Y Q x N a m b hlf (by rw [← e]; exact hN) hNb ha hm hb hE hg (by rw [← e]; exact hh) (fun z hz => hin z (by simpa using hz)) hy (fun y hy => hxy x (by simp) y hy)
    · by_cases h2 : Y.length = 1
      · obtain ⟨y, rfl⟩ := List.length_eq_one_iff.1 h2
        have e : P ++ X ++ [y] ++ Q = P ++ X ++ y :: Q := by simp
        exact s_sym_last lf (d + l + 1) g n cap pw ws h P X Q y N a m b hlf (by rw [← e]; exact hN) hNb (by omega) ha hm hb hE hg (by rw [← e]; exact hh) (hin y (by simp)) (fun z hz => hin z (by simp [hz])) hx (fun x hx => hxy x hx y (by simp))
      · subst ha hm hb
        exact s_sym_step lf g cap pw N ws hlf hNb l ih d n h P X Y Q hl hN (by omega) (by omega) hE hg hh hin hx hy hxy

end Go.Proofs.YtdagfcflbphoiaaDoor
/- The library's stable sort, by the second form: the whole. -/
namespace Go.Proofs.YtdagfcflbphoiaaDoor
set_option linter.unusedVariables false
set_option linter.unusedSimpArgs false
open Go.RowKit Ev Hu

section
variable (lf g cap pw N : Nat) (ws : List Int) (hlf : 3000000 ≤ lf) (hNb : N ≤ 1000000) (d n : Nat) (h : H) (xs : List Nat) (hN : xs.length = N) (hE : EnvT h n g pw ws) (hg : g < n) (hin : ∀ z ∈ xs, z < ws.length)
variable {W : Nat → Prop} {n0 : Nat} (hn0 : n0 ≤ n) (hW : n0 ≤ g ∨ W g) {R : Value → H → Nat → Prop} (k : Ex → Fr → M Value)
/-- an insertion of a stretch that may be empty -/
theorem s_ins' (pre seg post : List Nat) (a b : Int) (hN' : (pre ++ seg ++ post).length = N) (ha : a = (pre.length : Nat)) (hb : b = ((pre.length + seg.length : Nat) : Int)) (hin' : ∀ z ∈ seg, z < ws.length) (hst : seg.Pairwise (fun a b => a < b)) (hh : h.get g = some ⟨3, true, nats (pre ++ seg ++ post)⟩) (hlf : 3000000 ≤ lf) (hNb : N ≤ 1000000) (hE : EnvT h n g pw ws) (hg : g < n) :
    Run (fun x => x = g) n (evCall2 Tryd.prog gt lf (d + 4) 75 #[.slice (some ⟨g, 0, none⟩) N cap, .int .i64 a, .int .i64 b, FT pw]) h n fun v h' n' => n' = n ∧ ∃ D, D.Perm seg ∧ D.Pairwise (RI (keyW ws)) ∧ At h h' g (pre ++ D ++ post) := by
  by_cases h1 : 1 ≤ seg.length
  · exact s_ins lf d g n cap pw ws h pre seg post N (by omega) hN' hNb h1 hE hg hh hin' hst a b ha hb
  · have h0 : seg = [] := List.eq_nil_of_length_eq_zero (by omega)
    subst h0
    subst ha hb
    have hpl : pre.length ≤ N := by rw [← hN']; simp
    rw [sh_slices_insertionSortCmpFunc_int]
    refine Run.inside_ ?_
    unfold b_slices_insertionSortCmpFunc_int FT
    have aux : ∀ fu, 0 < fu → Run (fun x => x = g) n (lpA_slices_insertionSortCmpFunc_int lf (d + 3) fu (kcA_slices_insertionSortCmpFunc_int lf (d + 3)) (.slice (some ⟨g, 0, none⟩) N cap) (.int .i64 (pre.length : Nat)) (.int .i64 (pre.length : Nat)) (.func (.func 70) #[] #[.pointer (some ⟨pw, 0, none⟩)]) (.int .i64 ((pre.length : Nat) + 1 : Int))) h n fun v h' n' => n' = n ∧ ∃ D, D.Perm [] ∧ D.Pairwise (RI (keyW ws)) ∧ At h h' g (pre ++ D ++ post) := by
      intro fu hfu
      obtain ⟨f, rfl⟩ : ∃ f, fu = f + 1 := ⟨fu - 1, by omega⟩
      have e2 : ¬ ((pre.length : Nat) : Int) + 1 < ((pre.length : Nat) : Int) := by omega
      rw [succA_slices_insertionSortCmpFunc_int]
      try simp (disch := first | omega | assumption | exact one_int _ _ | exact one_slice _ _ _ | exact one_ptr _ | exact one_bool _ | exact one_string _) only [RXA, RXB, Nat.reduceAdd, Nat.reduceLT, wrap_id, wrap_succ, wrap_pred, FX1, e2]
      rw [kcAa_slices_insertionSortCmpFunc_int]
      try simp (disch := first | omega | assumption | exact one_int _ _ | exact one_slice _ _ _ | exact one_ptr _ | exact one_bool _ | exact one_string _) only [RXA, RXB, Nat.reduceAdd, Nat.reduceLT, wrap_id, wrap_succ, wrap_pred, FX1]
      exact ⟨[], List.Perm.refl _, List.Pairwise.nil, hh, fun b hb => rfl⟩
    try simp (disch := first | omega | assumption | exact one_int _ _ | exact one_slice _ _ _ | exact one_ptr _ | exact one_bool _ | exact one_string _) only [RXA, RXB, Nat.reduceAdd, Nat.reduceLT, wrap_id, wrap_succ, wrap_pred, FX1]
    exact aux lf (by omega)

include hlf hNb hN hE hg hin hn0 hW
/-- runs of twenty -/
theorem stA (hK : ∀ hr t U V (a8 : Int) y13, V.length < 20 → St1 (keyW ws) xs t U V → a8 = ((U.length + 20 : Nat) : Int) → At h hr g (U ++ V) → Run W n0 (k (Ex.exit 0) [(0, .slice (some ⟨g, 0, none⟩) N cap), (1, .int .i64 (N : Nat)), (2, FT pw), (6, .int .i64 20), (7, .int .i64 (U.length : Nat)), (8, .int .i64 a8), (13, y13)]) hr n R) :
    ∀ (m : Nat) (U V : List Nat) (t fu : Nat) (hr : H) (a8 : Int), V.length ≤ m → m < fu → St1 (keyW ws) xs t U V → a8 = ((U.length + 20 : Nat) : Int) → At h hr g (U ++ V) →
      Run W n0 (lpA_slices_stableCmpFunc_int lf (d + 4) fu k (.slice (some ⟨g, 0, none⟩) N cap) (.int .i64 (N : Nat)) (FT pw) (.int .i64 20) (.int .i64 (U.length : Nat)) (.int .i64 a8)) hr n R := by
  intro m
  induction m with
  | zero =>
    intro U V t fu hr a8 hV hfu hS ha hA
    obtain ⟨fu, rfl⟩ : ∃ f, fu = f + 1 := ⟨fu - 1, by omega⟩
    have lU := hS.2.2.2.2.length_eq
    simp only [List.length_append] at lU
    rw [succA_slices_stableCmpFunc_int]
    have e1 : ¬ a8 ≤ ((N : Nat) : Int) := by omega
    try simp (disch := first | omega | assumption | exact one_int _ _ | exact one_slice _ _ _ | exact one_ptr _ | exact one_bool _ | exact one_string _) only [RXA, RXB, Nat.reduceAdd, Nat.reduceLT, wrap_id, wrap_succ, wrap_pred, FX1, e1]
    exact hK hr t U V a8 _ (by omega) hS ha hA
  | succ m ih =>
    intro U V t fu hr a8 hV hfu hS ha hA
    obtain ⟨fu, rfl⟩ : ∃ f, fu = f + 1 := ⟨fu - 1, by omega⟩
    have lU := hS.2.2.2.2.length_eq
    simp only [List.length_append] at lU
    rw [succA_slices_stableCmpFunc_int]
    by_cases h20 : 20 ≤ V.length
    · have e1 : a8 ≤ ((N : Nat) : Int) := by omega
      try simp (disch := first | omega | assumption | exact one_int _ _ | exact one_slice _ _ _ | exact one_ptr _ | exact one_bool _ | exact one_string _) only [RXA, RXB, Nat.reduceAdd, Nat.reduceLT, wrap_id, wrap_succ, wrap_pred, FX1, e1]
      have eV : U ++ V.take 20 ++ V.drop 20 = U ++ V := by rw [List.append_assoc, List.take_append_drop]
      have l20 : (V.take 20).length = 20 := by rw [List.length_take]; omega
      refine run_call okd (s_ins' lf g cap pw N ws d n hr U (V.take 20) (V.drop 20) _ _ (by rw [eV, List.length_append]; omega) rfl (by rw [l20]; exact ha) (fun z hz => hin z (hS.2.2.2.2.mem_iff.1 (List.mem_append_right _ (List.mem_of_mem_take hz)))) (hS.2.2.1.sublist (List.take_sublist _ _)) (by rw [eV]; exact hA.1) hlf hNb (hE.keeps hA.2) hg) hn0 (fun b _ hb => hb ▸ hW) fun v h1 n1 _ _ hq => ?_
      obtain ⟨rfl, D, p, s, hA1⟩ := hq
      have w1 : IntKind.i64.wrap (a8 + 20) = a8 + 20 := wrap_id (by omega) (by omega)
      try simp (disch := first | omega | assumption | exact one_int _ _ | exact one_slice _ _ _ | exact one_ptr _ | exact one_bool _ | exact one_string _) only [RXA, RXB, Nat.reduceAdd, Nat.reduceLT, wrap_id, wrap_succ, wrap_pred, FX1, w1]
      have lD := p.length_eq
      have e2 : a8 = (((U ++ D).length : Nat) : Int) := by rw [List.length_append]; omega
      rw [e2]
      exact ih (U ++ D) (V.drop 20) (t + 1) fu h1 _ (by rw [List.length_drop]; omega) (by omega) (hS.next h20 p s) (by omega) (hA.trans hA1)
    · have e1 : ¬ a8 ≤ ((N : Nat) : Int) := by omega
      try simp (disch := first | omega | assumption | exact one_int _ _ | exact one_slice _ _ _ | exact one_ptr _ | exact one_bool _ | exact one_string _) only [RXA, RXB, Nat.reduceAdd, Nat.reduceLT, wrap_id, wrap_succ, wrap_pred, FX1, e1]
      exact hK hr t U V a8 _ (by omega) hS ha hA
/-- blocks of C, two by two -/
theorem stC (C : Nat) (hC1 : 20 ≤ C) (hC2 : C ≤ 2000000) (x13 x30 : Value)
    (hK : ∀ hr t U V (a8 : Int) y35, V.length < 2 * C → St3 (keyW ws) xs C t U V → At h hr g (U ++ V) → Run W n0 (k (Ex.exit 4) [(0, .slice (some ⟨g, 0, none⟩) N cap), (1, .int .i64 (N : Nat)), (2, FT pw), (6, .int .i64 (C : Nat)), (7, .int .i64 (U.length : Nat)), (8, .int .i64 a8), (13, x13), (30, x30), (35, y35)]) hr n R) :
    ∀ (m : Nat) (U V : List Nat) (t fu : Nat) (hr : H) (a8 : Int), V.length ≤ m → m < fu → St3 (keyW ws) xs C t U V → a8 = ((U.length + 2 * C : Nat) : Int) → At h hr g (U ++ V) →
      Run W n0 (lpC_slices_stableCmpFunc_int lf (d + N + 4) fu k (.slice (some ⟨g, 0, none⟩) N cap) (.int .i64 (N : Nat)) (FT pw) (.int .i64 (C : Nat)) (.int .i64 (U.length : Nat)) (.int .i64 a8) x13 x30) hr n R := by
  intro m
  induction m with
  | zero =>
    intro U V t fu hr a8 hV hfu hS ha hA
    obtain ⟨fu, rfl⟩ : ∃ f, fu = f + 1 := ⟨fu - 1, by omega⟩
    have lU := hS.2.2.2.2.length_eq
    simp only [List.length_append] at lU
    rw [succC_slices_stableCmpFunc_int]
    have e1 : ¬ a8 ≤ ((N : Nat) : Int) := by omega
    try simp (disch := first | omega | assumption | exact one_int _ _ | exact one_slice _ _ _ | exact one_ptr _ | exact one_bool _ | exact one_string _) only [RXA, RXB, Nat.reduceAdd, Nat.reduceLT, wrap_id, wrap_succ, wrap_pred, FX1, e1]
    exact hK hr t U V a8 _ (by omega) hS hA
  | succ m ih =>
    intro U V t fu hr a8 hV hfu hS ha hA
    obtain ⟨fu, rfl⟩ : ∃ f, fu = f + 1 := ⟨fu - 1, by omega⟩
    have lU := hS.2.2.2.2.length_eq
    simp only [List.length_append] at lU
    rw [succC_slices_stableCmpFunc_int]
    by_cases h2C : 2 * C ≤ V.length
    · have e1 : a8 ≤ ((N : Nat) : Int) := by omega
      have w1 : IntKind.i64.wrap (((U.length : Nat) : Int) + ((C : Nat) : Int)) = ((U.length + C : Nat) : Int) := by rw [wrap_id (by omega) (by omega)]; omega
      have w2 : IntKind.i64.wrap (2 * ((C : Nat) : Int)) = ((2 * C : Nat) : Int) := by rw [wrap_id (by omega) (by omega)]; omega
      have w3 : IntKind.i64.wrap (a8 + ((2 * C : Nat) : Int)) = a8 + ((2 * C : Nat) : Int) := wrap_id (by omega) (by omega)
      try simp (disch := first | omega | assumption | exact one_int _ _ | exact one_slice _ _ _ | exact one_ptr _ | exact one_bool _ | exact one_string _) only [RXA, RXB, Nat.reduceAdd, Nat.reduceLT, wrap_id, wrap_succ, wrap_pred, FX1, e1, w1, w2, w3]
      have eV : U ++ V.take C ++ (V.drop C).take C ++ V.drop (2 * C) = U ++ V := by rw [List.append_assoc U, two_takes, List.append_assoc, List.take_append_drop]
      have lC : (V.take C).length = C := by rw [List.length_take]; omega
      have lY : ((V.drop C).take C).length = C := by rw [List.length_take, List.length_drop]; omega
      have hmem : ∀ z ∈ V.take C ++ (V.drop C).take C, z < ws.length := fun z hz => hin z (hS.2.2.2.2.mem_iff.1 (List.mem_append_right _ (by
        rcases List.mem_append.1 hz with q | q
        · exact List.mem_of_mem_take q
        · exact List.mem_of_mem_drop (List.mem_of_mem_take q))))
      have pY : ((V.drop C).take C).Pairwise (RI (keyW ws)) := by have := (hS.2.2.1 1).1; rwa [Nat.one_mul] at this
      refine run_call okd (s_sym lf g cap pw N ws hlf hNb N d n hr U (V.take C) ((V.drop C).take C) (V.drop (2 * C)) _ _ _ (by omega) (by rw [eV, List.length_append]; omega) rfl (by omega) (by omega) (by omega) (by omega) (hE.keeps hA.2) hg (by rw [eV]; exact hA.1) hmem hS.2.2.1.first pY (fun x hx y hy => hS.2.2.1.cross x hx y (List.mem_of_mem_take hy))) hn0 (fun b _ hb => hb ▸ hW) fun v h1 n1 _ _ hq => ?_
      obtain ⟨rfl, Z, p, s, hA1⟩ := hq
      try simp (disch := first | omega | assumption | exact one_int _ _ | exact one_slice _ _ _ | exact one_ptr _ | exact one_bool _ | exact one_string _) only [RXA, RXB, Nat.reduceAdd, Nat.reduceLT, wrap_id, wrap_succ, wrap_pred, FX1, w2, w3]
      have lZ := p.length_eq
      rw [List.length_append] at lZ
      have e2 : a8 = (((U ++ Z).length : Nat) : Int) := by rw [List.length_append]; omega
      rw [e2]
      exact ih (U ++ Z) (V.drop (2 * C)) (t + 1) fu h1 _ (by rw [List.length_drop]; omega) (by omega) (hS.next h2C p s) (by omega) (hA.trans hA1)
    · have e1 : ¬ a8 ≤ ((N : Nat) : Int) := by omega
      try simp (disch := first | omega | assumption | exact one_int _ _ | exact one_slice _ _ _ | exact one_ptr _ | exact one_bool _ | exact one_string _) only [RXA, RXB, Nat.reduceAdd, Nat.reduceLT, wrap_id, wrap_succ, wrap_pred, FX1, e1]
      exact hK hr t U V a8 _ (by omega) hS hA
/-- doubled -/
theorem stB (x13 : Value) (hK : ∀ hr D y6 y7 y8 y30, D.Perm xs → D.Pairwise (RI (keyW ws)) → At h hr g D → Run W n0 (k (Ex.exit 2) [(0, .slice (some ⟨g, 0, none⟩) N cap), (1, .int .i64 (N : Nat)), (2, FT pw), (6, y6), (7, y7), (8, y8), (13, x13), (30, y30)]) hr n R) :
    ∀ (m C fu : Nat) (D : List Nat) (hr : H) (x7 x8 : Value), N - C ≤ m → m < fu → 20 ≤ C → C ≤ 2000000 → BS (keyW ws) C D → D.Perm xs → At h hr g D →
      Run W n0 (lpB_slices_stableCmpFunc_int lf (d + N + 4) fu k (.slice (some ⟨g, 0, none⟩) N cap) (.int .i64 (N : Nat)) (FT pw) (.int .i64 (C : Nat)) x7 x8 x13) hr n R := by
  intro m
  induction m with
  | zero =>
    intro C fu D hr x7 x8 hm hfu h1 h2 hB hp hA
    obtain ⟨fu, rfl⟩ : ∃ f, fu = f + 1 := ⟨fu - 1, by omega⟩
    rw [succB_slices_stableCmpFunc_int]
    have e1 : ¬ ((C : Nat) : Int) < ((N : Nat) : Int) := by omega
    try simp (disch := first | omega | assumption | exact one_int _ _ | exact one_slice _ _ _ | exact one_ptr _ | exact one_bool _ | exact one_string _) only [RXA, RXB, Nat.reduceAdd, Nat.reduceLT, wrap_id, wrap_succ, wrap_pred, FX1, e1]
    exact hK hr D _ _ _ _ hp (hB.all (by rw [hp.length_eq, hN]; omega)) hA
  | succ m ih =>
    intro C fu D hr x7 x8 hm hfu h1 h2 hB hp hA
    obtain ⟨fu, rfl⟩ : ∃ f, fu = f + 1 := ⟨fu - 1, by omega⟩
    rw [succB_slices_stableCmpFunc_int]
    by_cases hlt : C < N
    · have e1 : ((C : Nat) : Int) < ((N : Nat) : Int) := by omega
      have w2 : IntKind.i64.wrap (2 * ((C : Nat) : Int)) = ((2 * C : Nat) : Int) := by rw [wrap_id (by omega) (by omega)]; omega
      have w3 : IntKind.i64.wrap (((C : Nat) : Int) * 2) = ((2 * C : Nat) : Int) := by rw [wrap_id (by omega) (by omega)]; omega
      have lD := hp.length_eq
      try simp (disch := first | omega | assumption | exact one_int _ _ | exact one_slice _ _ _ | exact one_ptr _ | exact one_bool _ | exact one_string _) only [RXA, RXB, Nat.reduceAdd, Nat.reduceLT, wrap_id, wrap_succ, wrap_pred, FX1, e1, w2]
      refine stC lf g cap pw N ws hlf hNb d n h xs hN hE hg hin hn0 hW _ C h1 h2 _ _ (fun hr2 t U V a8 y35 hV hS hA2 => ?_) D.length [] D 0 lf hr _ (Nat.le_refl _) (by omega) (St3.start hB hp) (by simp) hA
      rw [kcCa_slices_stableCmpFunc_int]
      have lU := hS.2.2.2.2.length_eq
      simp only [List.length_append] at lU
      have w1 : IntKind.i64.wrap (((U.length : Nat) : Int) + ((C : Nat) : Int)) = ((U.length + C : Nat) : Int) := by rw [wrap_id (by omega) (by omega)]; omega
      by_cases hM : C < V.length
      · have e2 : ((U.length + C : Nat) : Int) < ((N : Nat) : Int) := by omega
        try simp (disch := first | omega | assumption | exact one_int _ _ | exact one_slice _ _ _ | exact one_ptr _ | exact one_bool _ | exact one_string _) only [RXA, RXB, Nat.reduceAdd, Nat.reduceLT, wrap_id, wrap_succ, wrap_pred, FX1, w1, e2, w3]
        have eV : U ++ V.take C ++ V.drop C ++ [] = U ++ V := by rw [List.append_nil, List.append_assoc, List.take_append_drop]
        have lC : (V.take C).length = C := by rw [List.length_take]; omega
        have lY : (V.drop C).length = V.length - C := List.length_drop
        have hmem : ∀ z ∈ V.take C ++ V.drop C, z < ws.length := fun z hz => hin z (hS.2.2.2.2.mem_iff.1 (List.mem_append_right _ (by rwa [List.take_append_drop] at hz)))
        have pY : (V.drop C).Pairwise (RI (keyW ws)) := by
          have := (hS.2.2.1 1).1
          rw [Nat.one_mul, List.take_of_length_le (by omega)] at this
          exact this
        refine run_call okd (s_sym lf g cap pw N ws hlf hNb N d n hr2 U (V.take C) (V.drop C) [] _ _ _ (by omega) (by rw [eV, List.length_append]; omega) rfl (by omega) (by omega) (by omega) (by omega) (hE.keeps hA2.2) hg (by rw [eV]; exact hA2.1) hmem hS.2.2.1.first pY (fun x hx y hy => hS.2.2.1.cross x hx y hy)) hn0 (fun b _ hb => hb ▸ hW) fun v h1 n1 _ _ hq => ?_
        obtain ⟨rfl, Z, p, s, hA1⟩ := hq
        try simp (disch := first | omega | assumption | exact one_int _ _ | exact one_slice _ _ _ | exact one_ptr _ | exact one_bool _ | exact one_string _) only [RXA, RXB, Nat.reduceAdd, Nat.reduceLT, wrap_id, wrap_succ, wrap_pred, FX1, w3]
        rw [List.append_nil] at hA1
        obtain ⟨q1, q2⟩ := hS.last hV p s
        exact ih (2 * C) fu (U ++ Z) h1 _ _ (by omega) (by omega) (by omega) (by omega) q1 q2 (hA2.trans hA1)
      · have e2 : ¬ ((U.length + C : Nat) : Int) < ((N : Nat) : Int) := by omega
        try simp (disch := first | omega | assumption | exact one_int _ _ | exact one_slice _ _ _ | exact one_ptr _ | exact one_bool _ | exact one_string _) only [RXA, RXB, Nat.reduceAdd, Nat.reduceLT, wrap_id, wrap_succ, wrap_pred, FX1, w1, e2, w3]
        obtain ⟨q1, q2⟩ := hS.none (by omega)
        exact ih (2 * C) fu (U ++ V) hr2 _ _ (by omega) (by omega) (by omega) (by omega) q1 q2 hA2
    · have e1 : ¬ ((C : Nat) : Int) < ((N : Nat) : Int) := by omega
      try simp (disch := first | omega | assumption | exact one_int _ _ | exact one_slice _ _ _ | exact one_ptr _ | exact one_bool _ | exact one_string _) only [RXA, RXB, Nat.reduceAdd, Nat.reduceLT, wrap_id, wrap_succ, wrap_pred, FX1, e1]
      exact hK hr D _ _ _ _ hp (hB.all (by rw [hp.length_eq, hN]; omega)) hA
end

theorem s_SortStable (lf g cap pw N : Nat) (ws : List Int) (hlf : 3000000 ≤ lf) (hNb : N ≤ 1000000) (d n : Nat) (h : H) (xs : List Nat) (hN : xs.length = N) (hE : EnvT h n g pw ws) (hg : g < n) (hin : ∀ z ∈ xs, z < ws.length) (hst : xs.Pairwise (fun a b => a < b)) (hh : h.get g = some ⟨3, true, nats xs⟩) :
    Run (fun x => x = g) n (evCall2 Tryd.prog gt lf (d + N + 6) 69 #[.slice (some ⟨g, 0, none⟩) N cap, FT pw]) h n fun v h' n' => n' = n ∧ ∃ D, D.Perm xs ∧ D.Pairwise (RI (keyW ws)) ∧ At h h' g D := by
  rw [sh_slices_SortStableFunc_int_int]
  refine Run.inside_ ?_
  unfold b_slices_SortStableFunc_int_int
  try simp (disch := first | omega | assumption | exact one_int _ _ | exact one_slice _ _ _ | exact one_ptr _ | exact one_bool _ | exact one_string _) only [RXA, RXB, Nat.reduceAdd, Nat.reduceLT, wrap_id, wrap_succ, wrap_pred, FX1]
  have main : Run (fun x => x = g) n (evCall2 Tryd.prog gt lf (d + N + 5) 73 #[.slice (some ⟨g, 0, none⟩) N cap, .int .i64 (N : Nat), FT pw]) h n fun v h' n' => n' = n ∧ ∃ D, D.Perm xs ∧ D.Pairwise (RI (keyW ws)) ∧ At h h' g D := by
    rw [sh_slices_stableCmpFunc_int]
    refine Run.inside_ ?_
    unfold b_slices_stableCmpFunc_int
    have := stA (W := fun x => x = g) (R := fun v h' n' => n' = n ∧ ∃ D, D.Perm xs ∧ D.Pairwise (RI (keyW ws)) ∧ At h h' g D) lf g cap pw N ws hlf hNb (d + N) n h xs hN hE hg hin (Nat.le_refl n) (.inr rfl) (kcA_slices_stableCmpFunc_int lf (d + N + 4)) (fun hr t U V a8 y13 hV hS ha8 hA => by
      rw [kcAa_slices_stableCmpFunc_int]
      have lU := hS.2.2.2.2.length_eq
      simp only [List.length_append] at lU
      refine run_call okd (s_ins' lf g cap pw N ws (d + N) n hr U V [] _ _ (by rw [List.append_nil, List.length_append]; omega) rfl (by omega) (fun z hz => hin z (hS.2.2.2.2.mem_iff.1 (List.mem_append_right _ hz))) hS.2.2.1 (by rw [List.append_nil]; exact hA.1) hlf hNb (hE.keeps hA.2) hg) (Nat.le_refl n) (fun b _ hb => .inr hb) fun v h1 n1 _ _ hq => ?_
      obtain ⟨rfl, D, p, s, hA1⟩ := hq
      rw [List.append_nil] at hA1
      obtain ⟨q1, q2⟩ := hS.last (by omega) p s
      have := stB (W := fun x => x = g) (n0 := n1) (R := fun v h' n' => n' = n1 ∧ ∃ D, D.Perm xs ∧ D.Pairwise (RI (keyW ws)) ∧ At h h' g D) lf g cap pw N ws hlf hNb d n1 h xs hN hE hg hin (Nat.le_refl n1) (.inr rfl) (kcB_slices_stableCmpFunc_int lf (d + N + 4)) y13 (fun hr2 D2 y6 y7 y8 y30 p2 s2 hA2 => by
        rw [kcBa_slices_stableCmpFunc_int]
        try simp (disch := first | omega | assumption | exact one_int _ _ | exact one_slice _ _ _ | exact one_ptr _ | exact one_bool _ | exact one_string _) only [RXA, RXB, Nat.reduceAdd, Nat.reduceLT, wrap_id, wrap_succ, wrap_pred, FX1]
        exact ⟨D2, p2, s2, hA2⟩) N 20 lf (U ++ D) h1 (.int .i64 (U.length : Nat)) (.int .i64 a8) (by omega) (by omega) (by omega) (by omega) q1 q2 (hA.trans hA1)
      exact this) N [] xs 0 lf h 20 (by omega) (by omega) (St1.start _ hst) (by simp) ⟨by simpa using hh, fun b hb => rfl⟩
    exact this
  refine run_call okd main (Nat.le_refl n) (fun b _ hb => .inr hb) fun v h1 n1 _ _ hq => ?_
  try simp (disch := first | omega | assumption | exact one_int _ _ | exact one_slice _ _ _ | exact one_ptr _ | exact one_bool _ | exact one_string _) only [RXA, RXB, Nat.reduceAdd, Nat.reduceLT, wrap_id, wrap_succ, wrap_pred, FX1]
  exact hq

end Go.Proofs.YtdagfcflbphoiaaDoor
/- Trees of weights, by the second form: cloned, made. -/
namespace Go.Proofs.YtdagfcflbphoiaaDoor
set_option linter.unusedVariables false
set_option linter.unusedSimpArgs false
open Go.RowKit Ev Hu

theorem s_Clone (lf d n : Nat) (h : H) (v : Value) (xs : List Int) (hR : Row h n 3 .i64 v xs) (h0 : 0 < xs.length) (hl : xs.length ≤ 1000000) :
    Run (fun _ => False) n (evCall2 Tryd.prog gt lf (d + 1) 55 #[v]) h n fun v' h' n' => (0 < xs.length → Own h' n n' 3 v' (intsV .i64 xs)) ∧ Row h' n' 3 .i64 v' xs ∧ ∀ b, InBlk v' b → n ≤ b := by
  rw [sh_slices_Clone_int_int]
  refine Run.inside_ ?_
  unfold b_slices_Clone_int_int
  rcases hR with ⟨a, c, rfl, _, rfl⟩ | ⟨b, off, cap, o, cs, rfl, hg, hb, hle, ht, hc⟩
  · exact absurd h0 (by simp)
  · try simp (disch := first | omega | assumption | exact one_int _ _ | exact one_slice _ _ _ | exact one_ptr _ | exact one_bool _ | exact one_string _) only [RXA, RXB, Nat.reduceAdd, Nat.reduceLT, wrap_id, wrap_succ, wrap_pred, FX1]
    refine run_lit0 c1x22 _ ?_
    have hg' : (h.set n (some ⟨3, true, []⟩)).get b = some ⟨3, o, cs⟩ := by rw [get_ne _ _ (by omega)]; exact hg
    by_cases h00 : xs.length = 0
    · have hx : xs = [] := List.length_eq_zero_iff.1 h00
      subst hx
      refine app_none (news := []) c1x22 rfl _ _ _ _ ?_
      try simp (disch := first | omega | assumption | exact one_int _ _ | exact one_slice _ _ _ | exact one_ptr _ | exact one_bool _ | exact one_string _) only [RXA, RXB, Nat.reduceAdd, Nat.reduceLT, wrap_id, wrap_succ, wrap_pred, FX1]
      refine ⟨fun q => absurd q (by simp), .inr ⟨n, 0, 0, true, [], rfl, get_eq _ _ _, by omega, by simp, by simp [intsV], by simp⟩, fun b hb => by rw [hb.inj]; exact Nat.le_refl n⟩
    · have s : Src (h.set n (some ⟨3, true, []⟩)) (n + 1) (.slice (some ⟨b, off, none⟩) xs.length cap) (intsV .i64 xs) := ⟨b, off, cap, _, by rw [intsV_len], hg', by omega, by rw [intsV_len]; exact hle, by rw [intsV_len]; exact ht⟩
      refine app_copy c1x22 s (by rw [intsV_len]; omega) (intsV_one _ _) (get_eq _ _ _) rfl (Nat.lt_succ_self n) 0 0 (by simp) rfl (by rw [intsV_len]; omega) (by unfold CAP; omega) (by rw [intsV_len]; omega) _ ?_
      try simp (disch := first | omega | assumption | exact one_int _ _ | exact one_slice _ _ _ | exact one_ptr _ | exact one_bool _ | exact one_string _) only [RXA, RXB, Nat.reduceAdd, Nat.reduceLT, wrap_id, wrap_succ, wrap_pred, FX1]
      have ho : Own ((h.set n (some ⟨3, true, []⟩)).set (n + 1) (some ⟨3, true, [] ++ intsV .i64 xs⟩)) n (n + 1 + 1) 3 (.slice (some ⟨n + 1, 0, none⟩) (intsV .i64 xs).length (CAP + (intsV .i64 xs).length)) (intsV .i64 xs) := .inr ⟨n + 1, rfl, by rw [get_eq]; rfl, by omega, by omega⟩
      exact ⟨fun _ => ho, ho.row, fun b hb => by rw [hb.inj]; omega⟩

/-- while the trees are made -/
structure TrI (h1 hr : H) (n1 nr g : Nat) (wv lv iv : Value) (N i : Nat) : Prop where
  hg : hr.get g = some ⟨72, true, [wv, iv, lv, .int .i64 (N : Nat)]⟩
  keep : ∀ b, b < n1 → b ≠ g → hr.get b = h1.get b
  ol : Own hr n1 nr 3 lv (nats (List.range i))
  oi : Own hr n1 nr 3 iv (ints (List.replicate i (-1)))
  dis : ∀ b, InBlk lv b → ¬ InBlk iv b
  le : n1 ≤ nr
theorem trA (lf d : Nat) (h1 : H) (n1 g : Nat) (wv : Value) (N : Nat) (x0 x1 x2 : Value) (hg : g < n1) (hN : N ≤ 1000000) {W : Nat → Prop} {n0 : Nat} (hn0 : n0 ≤ g) {R : Value → H → Nat → Prop} (k : Ex → Fr → M Value)
    (hK : ∀ hr nr lv iv y14, TrI h1 hr n1 nr g wv lv iv N N → Run W n0 (k (Ex.exit 0) [(0, x0), (1, x1), (2, x2), (3, .pointer (some ⟨g, 0, none⟩)), (12, .int .i64 (N : Nat)), (13, .int .i64 (N : Nat)), (14, y14)]) hr nr R) :
    ∀ (m i fu : Nat) (hr : H) (nr : Nat) (lv iv : Value), N - i ≤ m → m < fu → i ≤ N → TrI h1 hr n1 nr g wv lv iv N i →
      Run W n0 (lpA_lens_treesOf lf d fu k x0 x1 x2 (.pointer (some ⟨g, 0, none⟩)) (.int .i64 (N : Nat)) (.int .i64 (i : Nat))) hr nr R := by
  intro m
  induction m with
  | zero =>
    intro i fu hr nr lv iv hm hfu hi hT
    obtain ⟨fu, rfl⟩ : ∃ f, fu = f + 1 := ⟨fu - 1, by omega⟩
    obtain rfl : i = N := by omega
    rw [succA_lens_treesOf]
    try simp (disch := first | omega | assumption | exact one_int _ _ | exact one_slice _ _ _ | exact one_ptr _ | exact one_bool _ | exact one_string _) only [RXA, RXB, Nat.reduceAdd, Nat.reduceLT, wrap_id, wrap_succ, wrap_pred, FX1, Int.lt_irrefl]
    exact hK hr nr lv iv _ hT
  | succ m ih =>
    intro i fu hr nr lv iv hm hfu hi hT
    obtain ⟨fu, rfl⟩ : ∃ f, fu = f + 1 := ⟨fu - 1, by omega⟩
    rw [succA_lens_treesOf]
    by_cases hlt : i < N
    · have e1 : ((i : Nat) : Int) < ((N : Nat) : Int) := by omega
      obtain ⟨c0, hkp, hol, hoi, hdis, hle⟩ := hT
      have hgr : g < nr := by omega
      try simp (disch := first | omega | assumption | exact one_int _ _ | exact one_slice _ _ _ | exact one_ptr _ | exact one_bool _ | exact one_string _) only [RXA, RXB, Nat.reduceAdd, Nat.reduceLT, wrap_id, wrap_succ, wrap_pred, FX1, e1, c0]
      refine run_pushO c1x22 (one_int _ _) hol (by rw [nats_len]; simp; omega) (by omega) _ (fun h2 hg2 hk2 => ?_)
      have hgl : ∀ b, InBlk lv b → b ≠ g := fun b hb => by have := (hol.lt hb).1; omega
      have c2 : h2.get g = some ⟨72, true, [wv, iv, lv, .int .i64 (N : Nat)]⟩ := by rw [hk2 g (by omega) (fun hb => hgl g hb rfl)]; exact c0
      try simp (disch := first | omega | assumption | exact one_int _ _ | exact one_slice _ _ _ | exact one_ptr _ | exact one_bool _ | exact one_string _) only [RXA, RXB, Nat.reduceAdd, Nat.reduceLT, wrap_id, wrap_succ, wrap_pred, FX1, c2]
      refine ⟨.inl (by omega), ?_⟩
      have hoi2 : Own (h2.set g (some ⟨72, true, [wv, iv, .slice (some ⟨nr + 1, 0, none⟩) ((nats (List.range i)).length + 1) (CAP + ((nats (List.range i)).length + 1)), .int .i64 (N : Nat)]⟩)) n1 (nr + 2) 3 iv (ints (List.replicate i (-1))) := hoi.keep (by omega) fun b hb => by
        have := hoi.lt hb
        rw [get_ne _ _ (by omega)]
        exact hk2 b (by omega) (fun q => hdis b q hb)
      refine run_pushO c1x22 (one_int _ _) hoi2 (by rw [ints_len]; simp; omega) (by omega) _ (fun h3 hg3 hk3 => ?_)
      have hgi : ∀ b, InBlk iv b → b ≠ g := fun b hb => by have := (hoi.lt hb).1; omega
      have c3 : h3.get g = some ⟨72, true, [wv, iv, .slice (some ⟨nr + 1, 0, none⟩) ((nats (List.range i)).length + 1) (CAP + ((nats (List.range i)).length + 1)), .int .i64 (N : Nat)]⟩ := by
        rw [hk3 g (by omega) (fun hb => hgi g hb rfl), get_eq]
      try simp (disch := first | omega | assumption | exact one_int _ _ | exact one_slice _ _ _ | exact one_ptr _ | exact one_bool _ | exact one_string _) only [RXA, RXB, Nat.reduceAdd, Nat.reduceLT, wrap_id, wrap_succ, wrap_pred, FX1, c3]
      refine ⟨.inl (by omega), ?_⟩
      have w1 : ((i : Nat) : Int) + 1 = ((i + 1 : Nat) : Int) := by omega
      rw [w1]
      refine ih (i + 1) fu _ _ _ _ (by omega) (by omega) (by omega) ⟨by rw [get_eq], fun b hb hbg => ?_, ?_, ?_, fun b hb q => ?_, by omega⟩
      · rw [get_ne _ _ hbg, hk3 b (by omega) (fun q => by have := (hoi.lt q).1; omega), get_ne _ _ hbg, hk2 b (by omega) (fun q => by have := (hol.lt q).1; omega)]
        exact hkp b hb hbg
      · have : nats (List.range (i + 1)) = nats (List.range i) ++ [.int .i64 (i : Nat)] := by unfold nats; rw [List.range_succ, List.map_append]; rfl
        rw [this]
        refine Own.mk' ?_ (by omega) (by omega) (by simp)
        rw [get_ne _ _ (by omega), hk3 _ (by omega) (fun q => by have := (hoi.lt q).2; omega), get_ne _ _ (by omega)]
        exact hg2
      · have : ints (List.replicate (i + 1) (-1)) = ints (List.replicate i (-1)) ++ [.int .i64 (-1)] := by unfold ints; rw [List.replicate_succ', List.map_append]; rfl
        rw [this]
        refine Own.mk' ?_ (by omega) (by omega) (by simp)
        rw [get_ne _ _ (by omega)]
        exact hg3
      · rw [hb.inj] at q
        have := q.inj
        omega
    · obtain rfl : i = N := by omega
      try simp (disch := first | omega | assumption | exact one_int _ _ | exact one_slice _ _ _ | exact one_ptr _ | exact one_bool _ | exact one_string _) only [RXA, RXB, Nat.reduceAdd, Nat.reduceLT, wrap_id, wrap_succ, wrap_pred, FX1, Int.lt_irrefl]
      exact hK hr nr lv iv _ hT

/-- the trees of weights by themselves, in order -/
def Start (ws : List Int) (D : List Nat) : HT := { weight := ws, into := List.replicate ws.length (-1), leaves := D, joined := ws.length }
set_option maxHeartbeats 1000000 in
theorem s_treesOf (lf d n : Nat) (h : H) (v : Value) (ws : List Int) (hR : Row h n 3 .i64 v ws) (h1 : 1 ≤ ws.length) (hl : ws.length ≤ 1000000) (hlf : 3000000 ≤ lf) :
    Run (fun _ => False) n (evCall2 Tryd.prog gt lf (d + ws.length + 7) 63 #[v]) h n fun v' h' n' => ∃ g bw bi bl cl D, v' = .pointer (some ⟨g, 0, none⟩) ∧ D.Perm (List.range ws.length) ∧ D.Pairwise (RI (keyW ws)) ∧ TreesAt h' n' g (Start ws D) bw bi bl 0 cl (nats D) ∧ n ≤ g ∧ n ≤ bw ∧ n ≤ bi ∧ n ≤ bl := by
  have hR0 := hR
  obtain ⟨b, off, cap, o, cs, rfl, hg, hb, hle, ht, hc, hat⟩ := hR.some (by omega)
  rw [sh_lens_treesOf]
  refine Run.inside_ ?_
  unfold b_lens_treesOf
  refine run_box sz22 _ _ ?_
  obtain ⟨h2, hh2⟩ : ∃ h2, h.set n (some ⟨22, true, (Value.slice (some ⟨b, off, none⟩) ws.length cap).cells.toList⟩) = h2 := ⟨_, rfl⟩
  have p2 : h2.get n = some ⟨22, true, [.slice (some ⟨b, off, none⟩) ws.length cap]⟩ := by rw [← hh2, get_eq]; rfl
  have k2 : ∀ c, c < n → h2.get c = h.get c := fun c hc => by rw [← hh2, get_ne _ _ (by omega)]
  rw [hh2]
  have hR2 : Row h2 (n + 1) 3 .i64 (.slice (some ⟨b, off, none⟩) ws.length cap) ws := hR0.keep (by omega) k2
  refine timed_ld ag22 n 0 _ p2 (by omega) rfl ?_
  refine timed_call okd (s_Clone lf (d + ws.length + 5) (n + 1) h2 _ ws hR2 (by omega) hl) (by omega) (fun _ _ h => h.elim) fun v3 h3 n3 L hn3 fr3 q3 hL1 hL2 => ?_
  obtain ⟨q3, _, _⟩ := q3
  have ow3 := q3 (by omega)
  obtain ⟨bw, rfl⟩ : ∃ bw, v3 = .slice (some ⟨bw, 0, none⟩) ws.length (CAP + ws.length) := by
    rcases ow3 with ⟨_, q⟩ | ⟨bw, q, _⟩
    · have := congrArg List.length q
      rw [intsV_len] at this; simp only [List.length_nil] at this; omega
    · rw [intsV_len] at q
      exact ⟨bw, q⟩
  have hbw := ow3.lt ⟨_, _, _, rfl⟩
  have gbw : h3.get bw = some ⟨3, true, ints ws⟩ := by
    rcases ow3 with ⟨q, _⟩ | ⟨c, q, hq, _⟩
    · cases q
    · injection q with q; injection q with q; injection q with q
      rw [q]; exact hq
  have p3 : h3.get n = some ⟨22, true, [.slice (some ⟨b, off, none⟩) ws.length cap]⟩ := by rw [fr3 n (by omega) (fun q => q)]; exact p2
  refine timed_ld ag22 n 0 _ p3 (by omega) rfl ?_
  try simp (disch := first | omega | assumption | exact one_int _ _ | exact one_slice _ _ _ | exact one_ptr _ | exact one_bool _ | exact one_string _) only [RXA, RXB, Nat.reduceAdd, Nat.reduceLT, wrap_id, wrap_succ, wrap_pred, FX1]
  refine timed_box sz72 _ _ ?_
  have hcl : Tk.clash ⟨n + 1, n3, L⟩ ⟨n3, n3, [⟨false, n, some 0⟩]⟩ = false := clash_call_ld (fun e he => by
    cases hw : e.wr with
    | false => rfl
    | true => exact (hL2 e he hw).elim) (by show n < n + 1; omega)
  simp only [hcl, Bool.not_false, Bool.and_self, chk_true]
  obtain ⟨h4, hh4⟩ : ∃ h4, h3.set n3 (some ⟨72, true, (Value.agg #[.slice (some ⟨bw, 0, none⟩) ws.length (CAP + ws.length), .slice none 0 0, .slice none 0 0, .int .i64 (ws.length : Nat)]).cells.toList⟩) = h4 := ⟨_, rfl⟩
  rw [hh4]
  have g4 : h4.get n3 = some ⟨72, true, [.slice (some ⟨bw, 0, none⟩) ws.length (CAP + ws.length), .slice none 0 0, .slice none 0 0, .int .i64 (ws.length : Nat)]⟩ := by rw [← hh4, get_eq]; rfl
  have k4 : ∀ c, c < n3 → h4.get c = h3.get c := fun c hc => by rw [← hh4, get_ne _ _ (by omega)]
  have p4 : h4.get n = some ⟨22, true, [.slice (some ⟨b, off, none⟩) ws.length cap]⟩ := by rw [k4 n (by omega)]; exact p3
  try simp (disch := first | omega | assumption | exact one_int _ _ | exact one_slice _ _ _ | exact one_ptr _ | exact one_bool _ | exact one_string _) only [RXA, RXB, Nat.reduceAdd, Nat.reduceLT, wrap_id, wrap_succ, wrap_pred, FX1, p4]
  refine trA lf (d + ws.length + 6) h4 (n3 + 1) n3 (.slice (some ⟨bw, 0, none⟩) ws.length (CAP + ws.length)) ws.length _ _ _ (by omega) hl (by omega) _ (fun hr nr lv iv y14 hT => ?_) ws.length 0 lf h4 (n3 + 1) (.slice none 0 0) (.slice none 0 0) (by omega) (by omega) (Nat.zero_le _) ⟨g4, fun b _ _ => rfl, Own.nil _ _ _ _, Own.nil _ _ _ _, fun b hb => hb.not_nil.elim, Nat.le_refl _⟩
  rw [kcAa_lens_treesOf]
  obtain ⟨c0, hkp, hol, hoi, hdis, hle2⟩ := hT
  obtain ⟨bl, rfl, gl, hl1, hl2⟩ : ∃ bl, lv = .slice (some ⟨bl, 0, none⟩) ws.length (CAP + ws.length) ∧ hr.get bl = some ⟨3, true, nats (List.range ws.length)⟩ ∧ n3 + 1 ≤ bl ∧ bl < nr := by
    rcases hol with ⟨_, q⟩ | ⟨bl, q, hq, a, c⟩
    · have := congrArg List.length q
      rw [nats_len, List.length_range] at this; simp only [List.length_nil] at this; omega
    · rw [nats_len, List.length_range] at q
      exact ⟨bl, q, hq, a, c⟩
  obtain ⟨bi, rfl, gi, hi1, hi2⟩ : ∃ bi, iv = .slice (some ⟨bi, 0, none⟩) ws.length (CAP + ws.length) ∧ hr.get bi = some ⟨3, true, ints (List.replicate ws.length (-1))⟩ ∧ n3 + 1 ≤ bi ∧ bi < nr := by
    rcases hoi with ⟨_, q⟩ | ⟨bl, q, hq, a, c⟩
    · have := congrArg List.length q
      rw [ints_len, List.length_replicate] at this; simp only [List.length_nil] at this; omega
    · rw [ints_len, List.length_replicate] at q
      exact ⟨bl, q, hq, a, c⟩
  have hbli : bl ≠ bi := fun e => hdis bl ⟨_, _, _, rfl⟩ ⟨0, _, _, by rw [e]⟩
  have gnr : n3 < nr := by omega
  try simp (disch := first | omega | assumption | exact one_int _ _ | exact one_slice _ _ _ | exact one_ptr _ | exact one_bool _ | exact one_string _) only [RXA, RXB, Nat.reduceAdd, Nat.reduceLT, wrap_id, wrap_succ, wrap_pred, FX1, c0]
  have pr : hr.get n = some ⟨22, true, [.slice (some ⟨b, off, none⟩) ws.length cap]⟩ := by rw [hkp n (by omega) (by omega)]; exact p4
  have br : hr.get b = some ⟨3, o, cs⟩ := by rw [hkp b (by omega) (by omega), k4 b (by omega), fr3 b (by omega) (fun q => q), k2 b hb]; exact hg
  have wr : hr.get bw = some ⟨3, true, ints ws⟩ := by rw [hkp bw (by omega) (by omega), k4 bw (by omega)]; exact gbw
  have env : EnvT hr nr bl n ws := ⟨⟨b, off, cap, _, _, _, _, cs, pr, br, by omega, by omega, hat⟩, by omega, by omega⟩
  refine run_call okd (s_SortStable lf bl (CAP + ws.length) n ws.length ws hlf hl d nr hr (List.range ws.length) (by simp) env hl2 (fun z hz => List.mem_range.1 hz) List.pairwise_lt_range gl) (by omega) (fun c _ hc => .inl (by omega)) fun v5 h5 n5 _ _ hq => ?_
  obtain ⟨rfl, D, hp, hs, hA⟩ := hq
  try simp (disch := first | omega | assumption | exact one_int _ _ | exact one_slice _ _ _ | exact one_ptr _ | exact one_bool _ | exact one_string _) only [RXA, RXB, Nat.reduceAdd, Nat.reduceLT, wrap_id, wrap_succ, wrap_pred, FX1]
  refine ⟨n3, bw, bi, bl, CAP + ws.length, D, rfl, hp, hs, ⟨?_, ?_, ?_, hA.1, ?_, ?_, ?_, by omega⟩, by omega, by omega, by omega, by omega⟩
  · rw [hA.2 n3 (by omega), c0]
    have := hp.length_eq
    simp at this
    simp [Start, this]
  · rw [hA.2 bw (by omega)]; exact wr
  · rw [hA.2 bi (fun e => hbli e.symm)]; exact gi
  · rw [nats_len]; exact Nat.le_of_eq (Nat.zero_add _)
  · rw [List.drop_zero]
    show (nats D).take D.length = nats D
    rw [List.take_of_length_le (by rw [nats_len]; exact Nat.le_refl _)]
  · have := hp.length_eq
    simp at this
    show D.length ≤ _
    omega

end Go.Proofs.YtdagfcflbphoiaaDoor
/- Depths of weights, by the second form. -/
namespace Go.Proofs.YtdagfcflbphoiaaDoor
set_option linter.unusedVariables false
set_option linter.unusedSimpArgs false
open Go.RowKit Ev Hu

def fillD (into : List Int) : Nat → List Int → List Int
  | 0, out => out
  | i + 1, out => fillD into i (out.set i (out.getD (into.getD i 0).toNat 0 + 1))
def treeOf (ws : List Int) (D : List Nat) : HT := runH (ws.length - 1) (Start ws D)
def depthsP (ws : List Int) (D : List Nat) : List Int := (fillD (treeOf ws D).into (2 * ws.length - 2) (List.replicate (2 * ws.length - 1) 0)).take ws.length

theorem fillD_len (into : List Int) : ∀ (i : Nat) (out : List Int), (fillD into i out).length = out.length
  | 0, out => rfl
  | i + 1, out => by unfold fillD; rw [fillD_len into i]; simp
theorem depthsP_len (ws : List Int) (D : List Nat) (h : 1 ≤ ws.length) : (depthsP ws D).length = ws.length := by
  unfold depthsP
  rw [List.length_take, fillD_len, List.length_replicate]
  omega

theorem start_ok {ws : List Int} {D : List Nat} {S : Int} (hp : D.Perm (List.range ws.length)) (hw : ∀ x ∈ ws, 0 ≤ x) (hS : sumI ws = S) : OkH ws.length 0 [] S (Start ws D) := by
  have hlen := hp.length_eq
  rw [List.length_range] at hlen
  have hmem : ∀ i ∈ D, i < ws.length := fun i hi => List.mem_range.1 (hp.mem_iff.1 hi)
  have sle := sumI_le ws hw
  rw [hS] at sle
  have sumP : ∀ {a b : List Int}, a.Perm b → sumI a = sumI b := by
    intro a b h
    induction h with
    | nil => rfl
    | cons x _ ih => simp only [sumI, ih]
    | swap x y l => simp only [sumI]; omega
    | trans _ _ ih1 ih2 => exact ih1.trans ih2
  refine ⟨rfl, by simp [Start], hmem, fun i hi => by simp at hi, Nat.le_refl _, Nat.le_refl _, by simp [Start, hlen], fun i hi => ?_, ?_, fun i hi h2 => ?_⟩
  · have : ws.getD i 0 ∈ ws := by rw [List.getD_eq_getElem?_getD, List.getElem?_eq_getElem (by omega)]; exact List.getElem_mem _
    exact ⟨hw _ this, sle.2 _ this⟩
  · unfold waitH
    simp only [Start, Nat.add_zero, Nat.sub_self, List.range'_zero, List.append_nil, List.nil_append]
    rw [sumP (hp.map _), ← hS]
    congr 1
    apply List.ext_getElem
    · simp
    · intro i h1 h2
      simp [wAt, h2]
  · exact absurd (hp.mem_iff.2 (List.mem_range.2 (by omega))) h2
theorem step_ok {n k : Nat} {S : Int} {t : HT} (h : OkH n k [] S t) (hk : k + 2 ≤ n) : OkH n k [Hu.leastOf t] S (taken t) ∧ Hu.leastOf t < n + k ∧ OkH n k [Hu.leastOf t, Hu.leastOf (taken t)] S (taken (taken t)) ∧ Hu.leastOf (taken t) < n + k ∧ OkH n (k + 1) [] S (stepH t) ∧ (stepH t).joined ≤ n + k := by
  have hl := h.left
  simp only [List.length_nil] at hl
  obtain ⟨h1, a1⟩ := h.take (by omega)
  have hl1 := h1.left
  simp only [List.nil_append, List.length_cons, List.length_nil] at hl1
  obtain ⟨h2, a2⟩ := h1.take (by omega)
  exact ⟨h1, a1, h2, a2, h2.join, h2.jh⟩
theorem least_pre {n k : Nat} {P : List Nat} {S : Int} {t : HT} (h : OkH n k P S t) (h1 : 1 ≤ t.leaves.length + (n + k - t.joined)) : (isLeaf t = true → 0 < t.leaves.length) ∧ (0 < t.leaves.length → t.leaves.getD 0 0 < t.weight.length) ∧ t.joined ≤ t.weight.length := by
  refine ⟨fun hl => ?_, fun h0 => ?_, by rw [h.wl]; exact h.jh⟩
  · obtain ⟨r, e, _⟩ := isLeaf_true h h1 hl
    rw [e]; simp
  · have := h.leaf (t.leaves.getD 0 0) (by rw [List.getD_eq_getElem?_getD, List.getElem?_eq_getElem h0]; exact List.getElem_mem _)
    rw [h.wl]; omega

set_option maxHeartbeats 2000000 in
/-- rounds of joining -/
theorem dpA (lf d n : Nat) (N : Nat) (S : Int) (t0 : HT) (g : Nat) (x0 x2 : Value) (hN2 : 2 ≤ N) (hNb : N ≤ 1000) (hS : S ≤ 1152921504606846976) {W : Nat → Prop} {n0 : Nat} {R : Value → H → Nat → Prop} (k : Ex → Fr → M Value) (lo : Nat) (hlo : n0 ≤ lo) (hg : lo ≤ g)
    (hK : ∀ hr nr bw bi bl off cl cs y13, n ≤ nr → TreesAt hr nr g (runH (N - 1) t0) bw bi bl off cl cs → OkH N (N - 1) [] S (runH (N - 1) t0) → (runH (N - 1) t0).joined < N + (N - 1) → Run W n0 (k (Ex.exit 0) [(0, x0), (2, x2), (3, .pointer (some ⟨g, 0, none⟩)), (11, .int .i64 ((N - 1 : Nat) : Int)), (12, .int .i64 ((N - 1 : Nat) : Int)), (13, y13)]) hr nr R) :
    ∀ (m kk fu : Nat) (hr : H) (nr bw bi bl off cl : Nat) (cs : List Value), N - 1 - kk = m → m < fu → kk ≤ N - 1 → n ≤ nr → lo ≤ nr → lo ≤ bw → lo ≤ bi → TreesAt hr nr g (runH kk t0) bw bi bl off cl cs → OkH N kk [] S (runH kk t0) → (kk = 0 ∨ (runH kk t0).joined < N + kk) →
      Run W n0 (lpA_lens_depths lf (d + 1) fu k x0 x2 (.pointer (some ⟨g, 0, none⟩)) (.int .i64 ((N - 1 : Nat) : Int)) (.int .i64 (kk : Nat))) hr nr R := by
  intro m
  induction m with
  | zero =>
    intro kk fu hr nr bw bi bl off cl cs hm hfu hkk hn hl1 hl2 hl3 hT hO hj
    obtain ⟨fu, rfl⟩ : ∃ f, fu = f + 1 := ⟨fu - 1, by omega⟩
    obtain rfl : kk = N - 1 := by omega
    rw [succA_lens_depths]
    try simp (disch := first | omega | assumption | exact one_int _ _ | exact one_slice _ _ _ | exact one_ptr _ | exact one_bool _ | exact one_string _) only [RXA, RXB, Nat.reduceAdd, Nat.reduceLT, wrap_id, wrap_succ, wrap_pred, FX1, Int.lt_irrefl]
    exact hK hr nr bw bi bl off cl cs _ hn hT hO (by omega)
  | succ m ih =>
    intro kk fu hr nr bw bi bl off cl cs hm hfu hkk hn hl1 hl2 hl3 hT hO hj
    obtain ⟨fu, rfl⟩ : ∃ f, fu = f + 1 := ⟨fu - 1, by omega⟩
    rw [succA_lens_depths]
    have e1 : ((kk : Nat) : Int) < ((N - 1 : Nat) : Int) := by omega
    obtain ⟨t, ht⟩ : ∃ t, runH kk t0 = t := ⟨_, rfl⟩
    rw [ht] at hT hO hj
    obtain ⟨s1, s2, s3, s4, s5, s6⟩ := step_ok hO (by omega)
    have q1 := least_pre hO (by have := hO.left; simp only [List.length_nil] at this; omega)
    have q2 := least_pre s1 (by have := s1.left; simp only [List.length_cons, List.length_nil] at this; omega)
    have wl := hO.wl
    have hl := hO.left
    have wl1 := s1.wl
    have l1 := s1.left
    have wl2 := s3.wl
    have l2 := s3.left
    simp only [List.length_cons, List.length_nil] at l1 l2
    have e2 : ((kk : Nat) : Int) + 1 = ((kk + 1 : Nat) : Int) := by omega
    try simp (disch := first | omega | assumption | exact one_int _ _ | exact one_slice _ _ _ | exact one_ptr _ | exact one_bool _ | exact one_string _) only [RXA, RXB, Nat.reduceAdd, Nat.reduceLT, wrap_id, wrap_succ, wrap_pred, FX1, e1]
    refine run_call okd (s_least lf d g nr hr t bw bi bl off cl cs hT (by have := hO.jh; omega) (by omega) (by omega) q1.1 q1.2.1 q1.2.2) (by omega) (fun c _ hc => .inl (by omega)) fun v1 h1 n1 _ _ hq => ?_
    obtain ⟨rfl, rfl, off1, cl1, hT1⟩ := hq
    refine run_call okd (s_least lf d g n1 h1 (taken t) bw bi bl off1 cl1 cs hT1 (by have := s1.jh; omega) (by omega) (by omega) q2.1 q2.2.1 q2.2.2) (by omega) (fun c _ hc => .inl (by omega)) fun v2 h2 n2 _ _ hq => ?_
    obtain ⟨rfl, rfl, off2, cl2, hT2⟩ := hq
    refine run_call okd (s_join lf d g n2 (Hu.leastOf t) (Hu.leastOf (taken t)) h2 (taken (taken t)) bw bi bl off2 cl2 cs hT2 (by omega) (by rw [wl2, s3.il]) (by omega) (by omega) (fun x hx => ?_)) (by omega) (fun c _ hc => .inl (by omega)) fun v3 h3 n3 _ _ hq => ?_
    · obtain ⟨i, hi, e⟩ := List.mem_iff_getElem.1 hx
      have := s3.pos i (by omega)
      have e3 : wAt (taken (taken t)) i = x := by unfold wAt; rw [List.getD_eq_getElem?_getD, List.getElem?_eq_getElem hi, ← e]; rfl
      rw [e3] at this
      omega
    obtain ⟨rfl, hn3, bw', bi', hT3, hb1, hb2⟩ := hq
    try simp (disch := first | omega | assumption | exact one_int _ _ | exact one_slice _ _ _ | exact one_ptr _ | exact one_bool _ | exact one_string _) only [RXA, RXB, Nat.reduceAdd, Nat.reduceLT, wrap_id, wrap_succ, wrap_pred, FX1]
    rw [e2]
    refine ih (kk + 1) fu h3 n3 bw' bi' bl off2 cl2 cs (by omega) (by omega) (by omega) (by omega) (by omega) (by omega) (by omega) ?_ ?_ ?_
    · rw [run_succ, ht]; exact hT3
    · rw [run_succ, ht]; exact s5
    · rw [run_succ, ht]; exact .inr (by omega)

/-- the depths, from the last tree down -/
def DInv (T i : Nat) (out : List Int) : Prop := out.length = T ∧ ∀ j, j < T → 0 ≤ out.getD j 0 ∧ out.getD j 0 ≤ ((T - j : Nat) : Int)
theorem dpB (lf d n : Nat) (N T : Nat) (t : HT) (g bi ci bo co : Nat) (wv lv jv : Value) (x0 x2 x11 x12 x13 : Value) (hT1 : 1 ≤ T) (hTb : T ≤ 100000) (il : t.into.length = T) (hbo : bo < n) (hgn : g < n) (hin' : bi < n) (hbn : bo ≠ g ∧ bo ≠ bi) (hin : ∀ i, i < T - 1 → (i : Int) < t.into.getD i 0 ∧ t.into.getD i 0 < (T : Int)) {W : Nat → Prop} {n0 : Nat} (hn0 : n0 ≤ bo) {R : Value → H → Nat → Prop} (k : Ex → Fr → M Value) (res : List Int)
    (hK : ∀ hr y6 y32, hr.get bo = some ⟨3, true, ints res⟩ → Run W n0 (k (Ex.exit 2) [(0, x0), (2, x2), (3, .pointer (some ⟨g, 0, none⟩)), (5, .slice (some ⟨bo, 0, none⟩) T co), (6, y6), (11, x11), (12, x12), (13, x13), (32, y32)]) hr n R) :
    ∀ (i fu : Nat) (hr : H) (out : List Int), i < fu → i ≤ T - 1 → hr.get g = some ⟨72, true, [wv, .slice (some ⟨bi, 0, none⟩) T ci, lv, jv]⟩ → hr.get bi = some ⟨3, true, ints t.into⟩ → hr.get bo = some ⟨3, true, ints out⟩ → DInv T i out → fillD t.into i out = res →
      Run W n0 (lpB_lens_depths lf d fu k x0 x2 (.pointer (some ⟨g, 0, none⟩)) (.slice (some ⟨bo, 0, none⟩) T co) (.int .i64 ((i : Int) - 1)) x11 x12 x13) hr n R := by
  intro i
  induction i with
  | zero =>
    intro fu hr out hfu hi hg hbi ho hD hres
    obtain ⟨fu, rfl⟩ : ∃ f, fu = f + 1 := ⟨fu - 1, by omega⟩
    rw [succB_lens_depths]
    have e1 : ¬ (0 : Int) ≤ ((0 : Nat) : Int) - 1 := by omega
    try simp (disch := first | omega | assumption | exact one_int _ _ | exact one_slice _ _ _ | exact one_ptr _ | exact one_bool _ | exact one_string _) only [RXA, RXB, Nat.reduceAdd, Nat.reduceLT, wrap_id, wrap_succ, wrap_pred, FX1, e1]
    unfold fillD at hres
    subst hres
    exact hK hr _ _ ho
  | succ i ih =>
    intro fu hr out hfu hi hg hbi ho hD hres
    obtain ⟨fu, rfl⟩ : ∃ f, fu = f + 1 := ⟨fu - 1, by omega⟩
    obtain ⟨q1, q2⟩ := hin i (by omega)
    obtain ⟨J, hJ⟩ : ∃ J : Nat, t.into.getD i 0 = (J : Nat) := ⟨(t.into.getD i 0).toNat, by omega⟩
    have g1 : (ints t.into)[i]? = some (.int .i64 ((J : Nat) : Int)) := by rw [ints_at (by omega), hJ]
    have hJT : J < T := by omega
    have hJi : i < J := by omega
    have g2 : (ints out)[J]? = some (.int .i64 (out.getD J 0)) := ints_at (by rw [hD.1]; omega)
    have oJ := hD.2 J hJT
    have e0 : (((i + 1 : Nat) : Int) - 1) = ((i : Nat) : Int) := by omega
    have e1 : (0 : Int) ≤ ((i : Nat) : Int) := by omega
    have hol : out.length = T := hD.1
    have hres' : fillD t.into i (out.set i (out.getD J 0 + 1)) = res := by
      rw [← hres]
      show _ = fillD t.into i (out.set i (out.getD (t.into.getD i 0).toNat 0 + 1))
      rw [hJ]
      rfl
    rw [succB_lens_depths, e0]
    try simp (disch := first | omega | assumption | exact one_int _ _ | exact one_slice _ _ _ | exact one_ptr _ | exact one_bool _ | exact one_string _) only [RXA, RXB, Nat.reduceAdd, Nat.reduceLT, wrap_id, wrap_succ, wrap_pred, FX1, e1, hg, hbi, ho, g1, g2, ints_set, ints_len, hol]
    refine ⟨by omega, .inl hn0, ?_⟩
    refine ih fu _ (out.set i (out.getD J 0 + 1)) (by omega) (by omega) (by rw [get_ne _ _ (by omega)]; exact hg) (by rw [get_ne _ _ (by omega)]; exact hbi) (get_eq _ _ _) ?_ hres'
    · refine ⟨by rw [List.length_set]; exact hol, fun j hj => ?_⟩
      rw [getD_setI]
      have := hD.2 j hj
      split
      · rename_i h
        obtain ⟨rfl, _⟩ := h
        omega
      · exact this

set_option maxHeartbeats 2000000 in
theorem s_depths (lf d n : Nat) (h : H) (v : Value) (ws : List Int) (hR : Row h n 3 .i64 v ws) (h2 : 2 ≤ ws.length) (hl : ws.length ≤ 1000) (hlf : 3000000 ≤ lf) (hw : ∀ x ∈ ws, 0 ≤ x) (hS : sumI ws ≤ 1152921504606846976) :
    Run (fun _ => False) n (evCall2 Tryd.prog gt lf (d + ws.length + 8) 53 #[v]) h n fun v' h' n' => ∃ D, D.Perm (List.range ws.length) ∧ D.Pairwise (RI (keyW ws)) ∧ Row h' n' 3 .i64 v' (depthsP ws D) ∧ ∀ b, InBlk v' b → n ≤ b := by
  rw [sh_lens_depths]
  refine Run.inside_ ?_
  unfold b_lens_depths
  refine run_call okd (s_treesOf lf d n h v ws hR (by omega) (by omega) hlf) (Nat.le_refl n) (fun _ _ h => h.elim) fun v1 h1 n1 hn1 fr1 hq => ?_
  obtain ⟨g, bw, bi, bl, cl, D, rfl, hp, hs, hT, hg0, hw0, hi0, hl0⟩ := hq
  obtain ⟨a, c, rfl⟩ := hR.len
  have w1 : IntKind.i64.wrap (((ws.length : Nat) : Int) - 1) = ((ws.length - 1 : Nat) : Int) := by rw [wrap_id (by omega) (by omega)]; omega
  try simp (disch := first | omega | assumption | exact one_int _ _ | exact one_slice _ _ _ | exact one_ptr _ | exact one_bool _ | exact one_string _) only [RXA, RXB, Nat.reduceAdd, Nat.reduceLT, wrap_id, wrap_succ, wrap_pred, FX1, w1]
  refine dpA lf (d + ws.length + 6) n1 ws.length (sumI ws) (Start ws D) g _ _ h2 hl hS _ n (Nat.le_refl n) hg0 (fun hr nr bw' bi' bl' off cl' cs y13 hnr hT' hO hj => ?_) (ws.length - 1) 0 lf h1 n1 bw bi bl 0 cl (nats D) (by omega) (by omega) (by omega) (Nat.le_refl _) (by omega) hw0 hi0 hT (start_ok hp hw rfl) (.inl rfl)
  rw [kcAa_lens_depths]
  have tdef : runH (ws.length - 1) (Start ws D) = treeOf ws D := rfl
  rw [tdef] at hT' hO hj
  obtain ⟨hg', hbw', hbi', hbl', _, _, _, hd'⟩ := hT'
  have hgn : g < nr := hd'.2.2.2.2.2.2.1
  have wl : (treeOf ws D).weight.length = 2 * ws.length - 1 := by rw [hO.wl]; omega
  have il : (treeOf ws D).into.length = 2 * ws.length - 1 := by rw [hO.il]; omega
  have hleft := hO.left
  simp only [List.length_nil] at hleft
  have hlv : (treeOf ws D).leaves = [] := List.eq_nil_of_length_eq_zero (by omega)
  have hjo : (treeOf ws D).joined = 2 * ws.length - 2 := by rw [hlv] at hleft; simp only [List.length_nil] at hleft; omega
  have hin : ∀ i, i < 2 * ws.length - 1 - 1 → (i : Int) < (treeOf ws D).into.getD i 0 ∧ (treeOf ws D).into.getD i 0 < ((2 * ws.length - 1 : Nat) : Int) := fun i hi => by
    have := hO.into i (by omega) (by rw [hlv]; simp) (by omega) (by simp)
    omega
  rw [wl, il] at hg'
  try simp (disch := first | omega | assumption | exact one_int _ _ | exact one_slice _ _ _ | exact one_ptr _ | exact one_bool _ | exact one_string _) only [RXA, RXB, Nat.reduceAdd, Nat.reduceLT, wrap_id, wrap_succ, wrap_pred, FX1, hg']
  refine Ev.run_make c1x22 (2 * ws.length - 1) (2 * ws.length - 1) _ (Nat.le_refl _) (by omega) ?_
  have w2 : IntKind.i64.wrap (((2 * ws.length - 1 : Nat) : Int) - 2) = ((2 * ws.length - 2 : Nat) : Int) - 1 := by rw [wrap_id (by omega) (by omega)]; omega
  try simp (disch := first | omega | assumption | exact one_int _ _ | exact one_slice _ _ _ | exact one_ptr _ | exact one_bool _ | exact one_string _) only [RXA, RXB, Nat.reduceAdd, Nat.reduceLT, wrap_id, wrap_succ, wrap_pred, FX1, w2]
  have hz : List.replicate (2 * ws.length - 1) (Value.int .i64 0) = ints (List.replicate (2 * ws.length - 1) 0) := by unfold ints; rw [List.map_replicate]
  refine dpB lf (d + ws.length + 7) (nr + 1) ws.length (2 * ws.length - 1) (treeOf ws D) g bi' (CAP + (2 * ws.length - 1)) nr (2 * ws.length - 1) _ _ _ _ _ _ _ _ (by omega) (by omega) il (by omega) (by omega) (by omega) (by omega) hin (by omega) _ (fillD (treeOf ws D).into (2 * ws.length - 2) (List.replicate (2 * ws.length - 1) 0)) (fun hr2 y6 y32 ho => ?_) (2 * ws.length - 2) lf _ (List.replicate (2 * ws.length - 1) 0) (by omega) (by omega) (by rw [get_ne _ _ (by omega)]; exact hg') (by rw [get_ne _ _ (by omega)]; exact hbi') (by rw [get_eq, hz]) ⟨by simp, fun j hj => by rw [List.getD_eq_getElem?_getD, List.getElem?_eq_getElem (by simpa using hj), List.getElem_replicate]; simp⟩ rfl
  rw [kcBa_lens_depths]
  try simp (disch := first | omega | assumption | exact one_int _ _ | exact one_slice _ _ _ | exact one_ptr _ | exact one_bool _ | exact one_string _) only [RXA, RXB, Nat.reduceAdd, Nat.reduceLT, wrap_id, wrap_succ, wrap_pred, FX1]
  have lfil : (fillD (treeOf ws D).into (2 * ws.length - 2) (List.replicate (2 * ws.length - 1) 0)).length = 2 * ws.length - 1 := by rw [fillD_len, List.length_replicate]
  refine slice_run c1x22 (l := 0) (hh := ws.length) ho rfl (by omega) 0 (2 * ws.length - 1) (2 * ws.length - 1) _ _ (bound_none _) (bound_nat _ ws.length _) (by omega) (by omega) (by omega) _ ns22 ?_
  try simp (disch := first | omega | assumption | exact one_int _ _ | exact one_slice _ _ _ | exact one_ptr _ | exact one_bool _ | exact one_string _) only [RXA, RXB, Nat.reduceAdd, Nat.reduceLT, wrap_id, wrap_succ, wrap_pred, FX1]
  refine ⟨D, hp, hs, .inr ⟨nr, 0, 2 * ws.length - 1, true, _, ?_, ho, by omega, ?_, ?_, ?_⟩, fun b hb => ?_⟩
  · rw [depthsP_len _ _ (by omega)]
    simp
  · rw [depthsP_len _ _ (by omega), ints_len, lfil]; omega
  · rw [depthsP_len _ _ (by omega), List.drop_zero]
    unfold depthsP ints intsV
    rw [List.map_take]
  · rw [depthsP_len _ _ (by omega)]; omega
  · rw [hb.inj]; omega

end Go.Proofs.YtdagfcflbphoiaaDoor
/- Small functions of layer 9, by the second form: bounds, shares, the longest, lists held against one another. -/
namespace Go.Proofs.YtdagfcflbphoiaaDoor
set_option linter.unusedVariables false
set_option linter.unusedSimpArgs false
open Go.RowKit Ev Hu

def allIn (lo hi : Int) (xs : List Int) : Bool := xs.all fun x => decide (lo ≤ x) && decide (x ≤ hi)
theorem allIn_iff {lo hi : Int} {xs : List Int} : allIn lo hi xs = true ↔ ∀ x ∈ xs, lo ≤ x ∧ x ≤ hi := by unfold allIn; simp
theorem drop_next {α : Type} (d : α) {xs : List α} {i : Nat} (h : i < xs.length) : xs.drop i = xs.getD i d :: xs.drop (i + 1) := by
  rw [List.drop_eq_getElem_cons h, List.getD_eq_getElem?_getD, List.getElem?_eq_getElem h]
  rfl
theorem allIn_next {lo hi : Int} {xs : List Int} {i : Nat} (h : i < xs.length) : allIn lo hi (xs.drop i) = (decide (lo ≤ xs.getD i 0) && decide (xs.getD i 0 ≤ hi) && allIn lo hi (xs.drop (i + 1))) := by
  rw [drop_next 0 h]
  unfold allIn
  simp

theorem mayL (lf d n : Nat) (h : H) (v : Value) (xs : List Int) (hR : Row h n 3 .i64 v xs) (hl : xs.length ≤ 1000000000) (lo hi : Int) (x6 : Value) {W : Nat → Prop} {n0 : Nat} :
    ∀ (m i fu : Nat), xs.length - i = m → m < fu → i ≤ xs.length →
      Run W n0 (lpA_balerref09_May lf d fu (kcA_balerref09_May lf d) v (.int .i64 lo) (.int .i64 hi) x6 v (.int .i64 (xs.length : Nat)) (.int .i64 (i : Nat))) h n (fun v' h' n' => v' = .bool (allIn lo hi (xs.drop i)) ∧ h' = h ∧ n' = n) := by
  intro m
  induction m with
  | zero =>
    intro i fu hm hfu hii
    obtain ⟨fu, rfl⟩ : ∃ f, fu = f + 1 := ⟨fu - 1, by omega⟩
    obtain rfl : i = xs.length := by omega
    rw [succA_balerref09_May]
    try simp (disch := first | omega | assumption | exact one_int _ _ | exact one_slice _ _ _ | exact one_ptr _ | exact one_bool _ | exact one_string _) only [RXA, RXB, Nat.reduceAdd, Nat.reduceLT, wrap_id, wrap_succ, wrap_pred, FX1, Int.lt_irrefl]
    rw [kcAb_balerref09_May]
    try simp (disch := first | omega | assumption | exact one_int _ _ | exact one_slice _ _ _ | exact one_ptr _ | exact one_bool _ | exact one_string _) only [RXA, RXB, Nat.reduceAdd, Nat.reduceLT, wrap_id, wrap_succ, wrap_pred, FX1]
    simp [allIn]
  | succ m ih =>
    intro i fu hm hfu hii
    obtain ⟨fu, rfl⟩ : ∃ f, fu = f + 1 := ⟨fu - 1, by omega⟩
    obtain ⟨b, off, cap, o, cs, rfl, hg, hb, _, _, _, hat⟩ := hR.some (by omega)
    have e1 : ((i : Nat) : Int) < ((xs.length : Nat) : Int) := by omega
    have c1 := hat i (by omega)
    have w1 : ((i : Nat) : Int) + 1 = ((i + 1 : Nat) : Int) := by omega
    rw [succA_balerref09_May, allIn_next (by omega)]
    by_cases h1 : xs.getD i 0 < lo
    · try simp (disch := first | omega | assumption | exact one_int _ _ | exact one_slice _ _ _ | exact one_ptr _ | exact one_bool _ | exact one_string _) only [RXA, RXB, Nat.reduceAdd, Nat.reduceLT, wrap_id, wrap_succ, wrap_pred, FX1, e1, hg, c1, h1]
      rw [kcAa_balerref09_May]
      try simp (disch := first | omega | assumption | exact one_int _ _ | exact one_slice _ _ _ | exact one_ptr _ | exact one_bool _ | exact one_string _) only [RXA, RXB, Nat.reduceAdd, Nat.reduceLT, wrap_id, wrap_succ, wrap_pred, FX1]
      rw [decide_eq_false (Int.not_le.2 h1)]
      simp
    · by_cases h2 : hi < xs.getD i 0
      · try simp (disch := first | omega | assumption | exact one_int _ _ | exact one_slice _ _ _ | exact one_ptr _ | exact one_bool _ | exact one_string _) only [RXA, RXB, Nat.reduceAdd, Nat.reduceLT, wrap_id, wrap_succ, wrap_pred, FX1, e1, hg, c1, h1, h2]
        rw [kcAa_balerref09_May]
        try simp (disch := first | omega | assumption | exact one_int _ _ | exact one_slice _ _ _ | exact one_ptr _ | exact one_bool _ | exact one_string _) only [RXA, RXB, Nat.reduceAdd, Nat.reduceLT, wrap_id, wrap_succ, wrap_pred, FX1]
        rw [decide_eq_false (Int.not_le.2 h2)]
        simp
      · try simp (disch := first | omega | assumption | exact one_int _ _ | exact one_slice _ _ _ | exact one_ptr _ | exact one_bool _ | exact one_string _) only [RXA, RXB, Nat.reduceAdd, Nat.reduceLT, wrap_id, wrap_succ, wrap_pred, FX1, e1, hg, c1, h1, h2]
        rw [w1]
        have := ih (i + 1) fu (by omega) (by omega) (by omega)
        rw [decide_eq_true (Int.not_lt.1 h1), decide_eq_true (Int.not_lt.1 h2)]
        exact this
theorem s_May (lf d n : Nat) (h : H) (v : Value) (xs : List Int) (hR : Row h n 3 .i64 v xs) (lo hi : Int) (hl : xs.length ≤ 1000000) (hlf : 3000000 ≤ lf) :
    Run (fun _ => False) n (evCall2 Tryd.prog gt lf (d + 1) 20 #[v, .int .i64 lo, .int .i64 hi]) h n fun v' h' n' => v' = .bool (allIn lo hi xs) ∧ h' = h ∧ n' = n := by
  rw [sh_balerref09_May]
  refine Run.inside_ ?_
  unfold b_balerref09_May
  have hR0 := hR
  obtain ⟨a, c, rfl⟩ := hR.len
  try simp (disch := first | omega | assumption | exact one_int _ _ | exact one_slice _ _ _ | exact one_ptr _ | exact one_bool _ | exact one_string _) only [RXA, RXB, Nat.reduceAdd, Nat.reduceLT, wrap_id, wrap_succ, wrap_pred, FX1]
  exact mayL lf d n h _ xs hR0 (by omega) lo hi _ xs.length 0 lf (by omega) (by omega) (by omega)

theorem callB {β : Type} {rec : FuncId → Array Value → M Value} (p q a : Value) (k : Value → M β) : callV Tryd.prog rec (.func (.func 62) #[] #[p, q]) [a] k = (inside (rec 62 #[a, p, q])).bind k := by
  unfold callV
  show optK (some _) _ = _
  rw [optK_some_eq]
  simp only [show hasBody Tryd.prog 62 = true by kernel_rfl]
  rfl
theorem s_out (lf d n : Nat) (h : H) (x lo hi : Int) (p q : Nat) (hp : p < n) (hq : q < n) {e1 e2 : TypeId} {o1 o2 : Bool} (gp : h.get p = some ⟨e1, o1, [.int .i64 lo]⟩) (gq : h.get q = some ⟨e2, o2, [.int .i64 hi]⟩) :
    Run (fun _ => False) n (evCall2 Tryd.prog gt lf (d + 1) 62 #[.int .i64 x, .pointer (some ⟨p, 0, none⟩), .pointer (some ⟨q, 0, none⟩)]) h n fun v' h' n' => v' = .bool (!(decide (lo ≤ x) && decide (x ≤ hi))) ∧ h' = h ∧ n' = n := by
  rw [sh_lens_between_1]
  refine Run.inside_ ?_
  unfold b_lens_between_1
  have c0 : ∀ z : Value, [z][0]? = some z := fun _ => rfl
  by_cases h1 : x < lo
  · try simp (disch := first | omega | assumption | exact one_int _ _ | exact one_slice _ _ _ | exact one_ptr _ | exact one_bool _ | exact one_string _) only [RXA, RXB, Nat.reduceAdd, Nat.reduceLT, wrap_id, wrap_succ, wrap_pred, FX1, gp, gq, c0, h1]
    rw [decide_eq_false (Int.not_le.2 h1)]
    simp
  · try simp (disch := first | omega | assumption | exact one_int _ _ | exact one_slice _ _ _ | exact one_ptr _ | exact one_bool _ | exact one_string _) only [RXA, RXB, Nat.reduceAdd, Nat.reduceLT, wrap_id, wrap_succ, wrap_pred, FX1, gp, gq, c0, h1]
    by_cases h2 : hi < x
    · simp [h2, Int.not_le.2 h2]
    · simp [h2, Int.not_lt.1 h1, Int.not_lt.1 h2]
theorem ixL (lf d n : Nat) (h : H) (v : Value) (xs : List Int) (hR : Row h n 3 .i64 v xs) (hl : xs.length ≤ 1000000000) (lo hi : Int) (p q : Nat) (hp : p < n) (hq : q < n) {e1 e2 : TypeId} {o1 o2 : Bool} (gp : h.get p = some ⟨e1, o1, [.int .i64 lo]⟩) (gq : h.get q = some ⟨e2, o2, [.int .i64 hi]⟩) (x4 : Value) {W : Nat → Prop} {n0 : Nat} (hn0 : n0 ≤ n) :
    ∀ (m i fu : Nat), xs.length - i = m → m < fu → i ≤ xs.length →
      Run W n0 (lpA_slices_IndexFunc_int_int lf (d + 1) fu (kcA_slices_IndexFunc_int_int lf (d + 1)) v (.func (.func 62) #[] #[.pointer (some ⟨p, 0, none⟩), .pointer (some ⟨q, 0, none⟩)]) x4 (.int .i64 (xs.length : Nat)) (.int .i64 (i : Nat))) h n (fun v' h' n' => (∃ r : Int, v' = .int .i64 r ∧ decide (0 ≤ r) = !allIn lo hi (xs.drop i)) ∧ h' = h ∧ n' = n) := by
  intro m
  induction m with
  | zero =>
    intro i fu hm hfu hii
    obtain ⟨fu, rfl⟩ : ∃ f, fu = f + 1 := ⟨fu - 1, by omega⟩
    obtain rfl : i = xs.length := by omega
    rw [succA_slices_IndexFunc_int_int]
    try simp (disch := first | omega | assumption | exact one_int _ _ | exact one_slice _ _ _ | exact one_ptr _ | exact one_bool _ | exact one_string _) only [RXA, RXB, Nat.reduceAdd, Nat.reduceLT, wrap_id, wrap_succ, wrap_pred, FX1, Int.lt_irrefl]
    rw [kcAb_slices_IndexFunc_int_int]
    try simp (disch := first | omega | assumption | exact one_int _ _ | exact one_slice _ _ _ | exact one_ptr _ | exact one_bool _ | exact one_string _) only [RXA, RXB, Nat.reduceAdd, Nat.reduceLT, wrap_id, wrap_succ, wrap_pred, FX1]
    exact ⟨-1, rfl, by simp [allIn]⟩
  | succ m ih =>
    intro i fu hm hfu hii
    obtain ⟨fu, rfl⟩ : ∃ f, fu = f + 1 := ⟨fu - 1, by omega⟩
    obtain ⟨b, off, cap, o, cs, rfl, hg, hb, _, _, _, hat⟩ := hR.some (by omega)
    have e1 : ((i : Nat) : Int) < ((xs.length : Nat) : Int) := by omega
    have c1 := hat i (by omega)
    have w1 : ((i : Nat) : Int) + 1 = ((i + 1 : Nat) : Int) := by omega
    rw [succA_slices_IndexFunc_int_int]
    try simp (disch := first | omega | assumption | exact one_int _ _ | exact one_slice _ _ _ | exact one_ptr _ | exact one_bool _ | exact one_string _) only [RXA, RXB, Nat.reduceAdd, Nat.reduceLT, wrap_id, wrap_succ, wrap_pred, FX1, e1, hg, c1, callB]
    refine run_same (s_out lf d n h (xs.getD i 0) lo _ p q hp hq gp gq) hn0 (fun _ _ h => h.elim) ?_
    rw [allIn_next (by omega)]
    by_cases h1 : (decide (lo ≤ xs.getD i 0) && decide (xs.getD i 0 ≤ hi)) = true
    · rw [h1]
      try simp (disch := first | omega | assumption | exact one_int _ _ | exact one_slice _ _ _ | exact one_ptr _ | exact one_bool _ | exact one_string _) only [RXA, RXB, Nat.reduceAdd, Nat.reduceLT, wrap_id, wrap_succ, wrap_pred, FX1]
      rw [w1]
      exact ih (i + 1) fu (by omega) (by omega) (by omega)
    · rw [Bool.eq_false_iff.2 h1]
      try simp (disch := first | omega | assumption | exact one_int _ _ | exact one_slice _ _ _ | exact one_ptr _ | exact one_bool _ | exact one_string _) only [RXA, RXB, Nat.reduceAdd, Nat.reduceLT, wrap_id, wrap_succ, wrap_pred, FX1]
      rw [kcAa_slices_IndexFunc_int_int]
      try simp (disch := first | omega | assumption | exact one_int _ _ | exact one_slice _ _ _ | exact one_ptr _ | exact one_bool _ | exact one_string _) only [RXA, RXB, Nat.reduceAdd, Nat.reduceLT, wrap_id, wrap_succ, wrap_pred, FX1]
      exact ⟨(i : Nat), rfl, by simp⟩
theorem s_between (lf d n : Nat) (h : H) (v : Value) (xs : List Int) (hR : Row h n 3 .i64 v xs) (lo hi : Int) (hl : xs.length ≤ 1000000) (hlf : 3000000 ≤ lf) :
    Run (fun _ => False) n (evCall2 Tryd.prog gt lf (d + 4) 52 #[v, .int .i64 lo, .int .i64 hi]) h n fun v' h' n' => v' = .bool (allIn lo hi xs) := by
  rw [sh_lens_between]
  refine Run.inside_ ?_
  unfold b_lens_between
  refine run_box sz3 _ _ ?_
  refine run_box sz3 _ _ ?_
  obtain ⟨h2, hh2⟩ : ∃ h2, (h.set n (some ⟨3, true, (Value.int .i64 lo).cells.toList⟩)).set (n + 1) (some ⟨3, true, (Value.int .i64 hi).cells.toList⟩) = h2 := ⟨_, rfl⟩
  have g1 : h2.get n = some ⟨3, true, [.int .i64 lo]⟩ := by rw [← hh2, get_ne _ _ (by omega), get_eq]; rfl
  have g2 : h2.get (n + 1) = some ⟨3, true, [.int .i64 hi]⟩ := by rw [← hh2, get_eq]; rfl
  have hk : ∀ b, b < n → h2.get b = h.get b := fun b hb => by rw [← hh2, get_ne _ _ (by omega), get_ne _ _ (by omega)]
  rw [hh2]
  have hR2 : Row h2 (n + 2) 3 .i64 v xs := hR.keep (by omega) hk
  obtain ⟨a, c, rfl⟩ := hR.len
  have s1 : Run (fun _ => False) (n + 2) (evCall2 Tryd.prog gt lf (d + 2) 68 #[.slice a xs.length c, .func (.func 62) #[] #[.pointer (some ⟨n, 0, none⟩), .pointer (some ⟨n + 1, 0, none⟩)]]) h2 (n + 2) fun v' h' n' => (∃ r : Int, v' = .int .i64 r ∧ decide (0 ≤ r) = !allIn lo hi xs) ∧ h' = h2 ∧ n' = n + 2 := by
    rw [sh_slices_IndexFunc_int_int]
    refine Run.inside_ ?_
    unfold b_slices_IndexFunc_int_int
    try simp (disch := first | omega | assumption | exact one_int _ _ | exact one_slice _ _ _ | exact one_ptr _ | exact one_bool _ | exact one_string _) only [RXA, RXB, Nat.reduceAdd, Nat.reduceLT, wrap_id, wrap_succ, wrap_pred, FX1]
    exact ixL lf d (n + 2) h2 _ xs hR2 (by omega) lo hi n (n + 1) (by omega) (by omega) g1 g2 _ (Nat.le_refl _) xs.length 0 lf (by omega) (by omega) (by omega)
  have s2 : Run (fun _ => False) (n + 2) (evCall2 Tryd.prog gt lf (d + 3) 59 #[.slice a xs.length c, .func (.func 62) #[] #[.pointer (some ⟨n, 0, none⟩), .pointer (some ⟨n + 1, 0, none⟩)]]) h2 (n + 2) fun v' h' n' => v' = .bool (!allIn lo hi xs) ∧ h' = h2 ∧ n' = n + 2 := by
    rw [sh_slices_ContainsFunc_int_int]
    refine Run.inside_ ?_
    unfold b_slices_ContainsFunc_int_int
    refine run_call okd s1 (Nat.le_refl _) (fun _ _ h => h.elim) fun v' h' n' _ _ hq => ?_
    obtain ⟨⟨r, rfl, hr⟩, rfl, rfl⟩ := hq
    try simp (disch := first | omega | assumption | exact one_int _ _ | exact one_slice _ _ _ | exact one_ptr _ | exact one_bool _ | exact one_string _) only [RXA, RXB, Nat.reduceAdd, Nat.reduceLT, wrap_id, wrap_succ, wrap_pred, FX1]
    rw [hr]
  refine run_same s2 (by omega) (fun _ _ h => h.elim) ?_
  rw [u_not, optK_some_eq, Bool.not_not]
  try simp (disch := first | omega | assumption | exact one_int _ _ | exact one_slice _ _ _ | exact one_ptr _ | exact one_bool _ | exact one_string _) only [RXA, RXB, Nat.reduceAdd, Nat.reduceLT, wrap_id, wrap_succ, wrap_pred, FX1]

theorem run_bool {β : Type} {W : Nat → Prop} {n0 : Nat} {h : H} {n : Nat} {Q : β → H → Nat → Prop} {lf d : Nat} {f : FuncId} {args : Array Value} {b : Bool} (s : Run (fun _ => False) n (evCall2 Tryd.prog gt lf d f args) h n fun v' _ _ => v' = .bool b) (hn : n0 ≤ n) {k : Value → M β}
    (x : ∀ h1 n1, n ≤ n1 → (∀ c, c < n → h1.get c = h.get c) → Run W n0 (k (.bool b)) h1 n1 Q) : Run W n0 ((inside (evCall2 Tryd.prog gt lf d f args)).bind k) h n Q := by
  refine run_call okd s hn (fun _ _ h => h.elim) fun v1 h1 n1 hn1 fr hq => ?_
  subst hq
  exact x h1 n1 hn1 fun c hc => fr c hc id

def lngL : List Int → Int → Int
  | [], a => a
  | x :: l, a => lngL l (if a < x then x else a)
theorem lngL_le (B : Int) : ∀ (l : List Int) (a : Int), lngL l a ≤ B ↔ (a ≤ B ∧ ∀ x ∈ l, x ≤ B)
  | [], a => by simp [lngL]
  | x :: l, a => by
    unfold lngL
    rw [lngL_le B l]
    simp only [List.mem_cons, forall_eq_or_imp]
    by_cases h : a < x
    · rw [if_pos h]; constructor
      · rintro ⟨p, q⟩; exact ⟨by omega, p, q⟩
      · rintro ⟨p, q, r⟩; exact ⟨q, r⟩
    · rw [if_neg h]; constructor
      · rintro ⟨p, q⟩; exact ⟨p, by omega, q⟩
      · rintro ⟨p, q, r⟩; exact ⟨p, r⟩
theorem lngM (lf d n : Nat) (h : H) (v : Value) (xs : List Int) (hR : Row h n 3 .i64 v xs) (hl : xs.length ≤ 1000000) (x2 : Value) {W : Nat → Prop} {n0 : Nat} :
    ∀ (m i fu : Nat) (a : Int), xs.length - i = m → m < fu → i ≤ xs.length →
      Run W n0 (lpA_lens_Longest lf d fu (kcA_lens_Longest lf d) v x2 (.int .i64 a) v (.int .i64 (xs.length : Nat)) (.int .i64 (i : Nat))) h n (fun v' h' n' => v' = .int .i64 (lngL (xs.drop i) a) ∧ h' = h ∧ n' = n) := by
  intro m
  induction m with
  | zero =>
    intro i fu a hm hfu hi
    obtain ⟨fu, rfl⟩ : ∃ f, fu = f + 1 := ⟨fu - 1, by omega⟩
    obtain rfl : i = xs.length := by omega
    rw [succA_lens_Longest]
    try simp (disch := first | omega | assumption | exact one_int _ _ | exact one_slice _ _ _ | exact one_ptr _ | exact one_bool _ | exact one_string _) only [RXA, RXB, Nat.reduceAdd, Nat.reduceLT, wrap_id, wrap_succ, wrap_pred, FX1, Int.lt_irrefl]
    rw [kcAa_lens_Longest, List.drop_length]
    try simp (disch := first | omega | assumption | exact one_int _ _ | exact one_slice _ _ _ | exact one_ptr _ | exact one_bool _ | exact one_string _) only [RXA, RXB, Nat.reduceAdd, Nat.reduceLT, wrap_id, wrap_succ, wrap_pred, FX1]
    simp [lngL]
  | succ m ih =>
    intro i fu a hm hfu hi
    obtain ⟨fu, rfl⟩ : ∃ f, fu = f + 1 := ⟨fu - 1, by omega⟩
    obtain ⟨b, off, cap, o, cs, rfl, hg, hb, _, _, _, hat⟩ := hR.some (by omega)
    have e1 : ((i : Nat) : Int) < ((xs.length : Nat) : Int) := by omega
    have c1 := hat i (by omega)
    have w1 : ((i : Nat) : Int) + 1 = ((i + 1 : Nat) : Int) := by omega
    rw [succA_lens_Longest, drop_next 0 (show i < xs.length by omega)]
    try simp (disch := first | omega | assumption | exact one_int _ _ | exact one_slice _ _ _ | exact one_ptr _ | exact one_bool _ | exact one_string _) only [RXA, RXB, Nat.reduceAdd, Nat.reduceLT, wrap_id, wrap_succ, wrap_pred, FX1, e1, hg, c1]
    rw [w1]
    exact ih (i + 1) fu _ (by omega) (by omega) (by omega)
theorem s_Longest (lf d n : Nat) (h : H) (v : Value) (xs : List Int) (hR : Row h n 3 .i64 v xs) (hl : xs.length ≤ 1000000) (hlf : 3000000 ≤ lf) :
    Run (fun _ => False) n (evCall2 Tryd.prog gt lf (d + 1) 54 #[v]) h n fun v' h' n' => v' = .int .i64 (lngL xs 0) ∧ h' = h ∧ n' = n := by
  rw [sh_lens_Longest]
  refine Run.inside_ ?_
  unfold b_lens_Longest
  have hR0 := hR
  obtain ⟨a, c, rfl⟩ := hR.len
  try simp (disch := first | omega | assumption | exact one_int _ _ | exact one_slice _ _ _ | exact one_ptr _ | exact one_bool _ | exact one_string _) only [RXA, RXB, Nat.reduceAdd, Nat.reduceLT, wrap_id, wrap_succ, wrap_pred, FX1]
  exact lngM lf d n h _ xs hR0 hl _ xs.length 0 lf 0 (by omega) (by omega) (by omega)

end Go.Proofs.YtdagfcflbphoiaaDoor
/- Plain facts of layers 8 and 12: counts, groups, costs, picks, tables at first. No program in sight. -/
namespace Go.Proofs.YtdagfcflbphoiaaDoor.Tb
set_option linter.unusedVariables false
set_option linter.unusedSimpArgs false

def capI (x : Int) : Int := if 1099511627776 < x then 1099511627776 else x
theorem capI_cap {a y : Int} (hy : 0 ≤ y) : capI (capI a + y) = capI (a + y) := by
  unfold capI
  repeat' split
  all_goals omega
theorem capI_le (x : Int) : capI x ≤ 1099511627776 := by unfold capI; split <;> omega
theorem capI_ge {x : Int} (h : 0 ≤ x) : 0 ≤ capI x := by unfold capI; split <;> omega
theorem capI_id {x : Int} (h : x ≤ 1099511627776) : capI x = x := by unfold capI; rw [if_neg (by omega)]

def sumI : List Int → Int
  | [] => 0
  | x :: l => x + sumI l
theorem sumI_app : ∀ a b : List Int, sumI (a ++ b) = sumI a + sumI b
  | [], b => by simp [sumI]
  | x :: a, b => by simp only [List.cons_append, sumI, sumI_app a b]; omega
theorem sumI_ge : ∀ {l : List Int}, (∀ x ∈ l, 0 ≤ x) → 0 ≤ sumI l
  | [], _ => Int.le_refl 0
  | x :: l, h => by
    have := sumI_ge (l := l) fun y hy => h y (List.mem_cons_of_mem _ hy)
    have := h x List.mem_cons_self
    simp only [sumI]; omega
theorem sumI_le (B : Int) : ∀ {l : List Int}, (∀ x ∈ l, x ≤ B) → sumI l ≤ l.length * B
  | [], _ => by simp [sumI]
  | x :: l, h => by
    have := sumI_le B (l := l) fun y hy => h y (List.mem_cons_of_mem _ hy)
    have := h x List.mem_cons_self
    simp only [sumI, List.length_cons, Int.natCast_add, Int.add_mul]
    omega
theorem sumI_next {l : List Int} {i : Nat} (h : i < l.length) : sumI (l.take (i + 1)) = sumI (l.take i) + l.getD i 0 := by
  rw [List.take_succ_eq_append_getElem h, sumI_app, List.getD_eq_getElem?_getD, List.getElem?_eq_getElem h]
  simp [sumI]

def look (ls : List Int) (x : Int) : Int := ls.getD x.toNat 0
def costS (l ls : List Int) : Int := sumI (l.map (look ls))
def costL (l ls : List Int) : Int := capI (costS l ls)
theorem look_ge {ls : List Int} (h : ∀ x ∈ ls, 0 ≤ x) (x : Int) : 0 ≤ look ls x := by
  unfold look
  rw [List.getD_eq_getElem?_getD]
  by_cases hx : x.toNat < ls.length
  · rw [List.getElem?_eq_getElem hx]; exact h _ (List.getElem_mem hx)
  · rw [List.getElem?_eq_none (by omega)]; exact Int.le_refl 0
theorem costS_ge {l ls : List Int} (h : ∀ x ∈ ls, 0 ≤ x) : 0 ≤ costS l ls := sumI_ge fun x hx => by
  obtain ⟨y, _, rfl⟩ := List.mem_map.1 hx
  exact look_ge h y
theorem costL_ge {l ls : List Int} (h : ∀ x ∈ ls, 0 ≤ x) : 0 ≤ costL l ls := capI_ge (costS_ge h)
theorem costL_le (l ls : List Int) : costL l ls ≤ 1099511627776 := capI_le _
theorem cost_next {l ls : List Int} {i : Nat} (h : i < l.length) : costS (l.take (i + 1)) ls = costS (l.take i) ls + look ls (l.getD i 0) := by
  unfold costS
  rw [List.take_succ_eq_append_getElem h, List.map_append, sumI_app, List.getD_eq_getElem?_getD, List.getElem?_eq_getElem h]
  simp [sumI]
theorem capNext {l ls : List Int} (hp : ∀ x ∈ ls, 0 ≤ x) {i : Nat} (h : i < l.length) : capI (costL (l.take i) ls + look ls (l.getD i 0)) = costL (l.take (i + 1)) ls := by
  unfold costL
  rw [capI_cap (look_ge hp _), cost_next h]

def cntv (l : List Int) (v : Nat) : Nat := l.countP fun x => x == (v : Int)
def countsL (l : List Int) (size : Nat) : List Int := (List.range size).map fun v => (cntv l v : Int)
theorem countsL_len (l : List Int) (size : Nat) : (countsL l size).length = size := by unfold countsL; simp
theorem countsL_at {l : List Int} {size v : Nat} (h : v < size) : (countsL l size).getD v 0 = (cntv l v : Int) := by
  unfold countsL
  rw [List.getD_eq_getElem?_getD, List.getElem?_map, List.getElem?_range h]
  rfl
theorem cntv_le (l : List Int) (v : Nat) : cntv l v ≤ l.length := List.countP_le_length
theorem cntv_app (a b : List Int) (v : Nat) : cntv (a ++ b) v = cntv a v + cntv b v := List.countP_append
theorem cntv_next {l : List Int} {i : Nat} (h : i < l.length) (v : Nat) : cntv (l.take (i + 1)) v = cntv (l.take i) v + (if l.getD i 0 = (v : Int) then 1 else 0) := by
  rw [List.take_succ_eq_append_getElem h, cntv_app, List.getD_eq_getElem?_getD, List.getElem?_eq_getElem h]
  unfold cntv
  simp only [List.countP_cons, List.countP_nil, Option.getD_some, beq_iff_eq, Nat.zero_add]
theorem countsL_mem {l : List Int} {size : Nat} {x : Int} (h : x ∈ countsL l size) : 0 ≤ x ∧ x ≤ l.length := by
  unfold countsL at h
  obtain ⟨v, _, rfl⟩ := List.mem_map.1 h
  have := cntv_le l v
  omega
theorem countsL_nil (size : Nat) : countsL [] size = List.replicate size 0 := by
  apply List.ext_getElem
  · simp [countsL_len]
  · intro i h1 h2
    simp [countsL, cntv]
/-- a symbol more -/
theorem countsL_set {l : List Int} {size i v : Nat} (h : i < l.length) (hv : l.getD i 0 = (v : Int)) (hs : v < size) : (countsL (l.take i) size).set v ((cntv (l.take i) v : Int) + 1) = countsL (l.take (i + 1)) size := by
  apply List.ext_getElem
  · simp [countsL_len]
  · intro j h1 h2
    have e : ∀ (m : List Int) (h : j < (countsL m size).length), (countsL m size)[j] = (cntv m j : Int) := fun m h => by simp [countsL]
    rw [List.getElem_set, e, e, cntv_next h, hv]
    by_cases c : v = j
    · subst c; simp
    · rw [if_neg c, if_neg (by omega)]; simp
theorem sum_ind (f : Nat → Int) (x : Nat) : ∀ n : Nat, sumI ((List.range n).map fun v => if x = v then f v else 0) = if x < n then f x else 0
  | 0 => by simp [sumI]
  | n + 1 => by
    rw [List.range_succ, List.map_append, sumI_app, sum_ind f x n]
    simp only [List.map_cons, List.map_nil, sumI]
    by_cases h : x = n
    · subst h; rw [if_neg (by omega), if_pos rfl, if_pos (by omega)]; omega
    · rw [if_neg h]
      by_cases h2 : x < n
      · rw [if_pos h2, if_pos (by omega)]; omega
      · rw [if_neg h2, if_neg (by omega)]; omega
theorem sum_add (f g : Nat → Int) : ∀ l : List Nat, sumI (l.map fun v => f v + g v) = sumI (l.map f) + sumI (l.map g)
  | [] => rfl
  | x :: l => by simp only [List.map_cons, sumI, sum_add f g l]; omega
/-- weighed by symbols, or one by one -/
theorem cost_counts {ls : List Int} : ∀ {l : List Int}, (∀ x ∈ l, 0 ≤ x ∧ x < ls.length) → sumI ((List.range ls.length).map fun v => (cntv l v : Int) * ls.getD v 0) = costS l ls
  | [], _ => by
    have : ∀ m : List Nat, sumI (m.map fun v => (cntv [] v : Int) * ls.getD v 0) = 0 := by
      intro m
      induction m with
      | nil => rfl
      | cons a m ih => simp only [List.map_cons, sumI, ih]; simp [cntv]
    rw [this]
    rfl
  | x :: l, h => by
    have hx := h x List.mem_cons_self
    have ih := cost_counts (l := l) fun y hy => h y (List.mem_cons_of_mem _ hy)
    have e : (fun v : Nat => (cntv (x :: l) v : Int) * ls.getD v 0) = fun v => (cntv l v : Int) * ls.getD v 0 + (if x.toNat = v then ls.getD v 0 else 0) := by
      funext v
      unfold cntv
      rw [List.countP_cons]
      by_cases c : x.toNat = v
      · have : (x == (v : Int)) = true := by rw [beq_iff_eq]; omega
        rw [if_pos c, this, if_pos rfl]
        simp only [Int.natCast_add, Int.add_mul, Int.natCast_one, Int.one_mul]
      · have : (x == (v : Int)) = false := by rw [beq_eq_false_iff_ne]; omega
        rw [if_neg c, this]
        simp
    rw [e, sum_add, ih, sum_ind (fun v => ls.getD v 0), if_pos (by omega)]
    unfold costS
    simp only [List.map_cons, sumI, look]
    omega
/-- so far as the first symbols -/
def costU (l ls : List Int) (i : Nat) : Int := sumI ((List.range i).map fun v => (cntv l v : Int) * ls.getD v 0)
theorem costU_next (l ls : List Int) (i : Nat) : costU l ls (i + 1) = costU l ls i + (cntv l i : Int) * ls.getD i 0 := by
  unfold costU
  rw [List.range_succ, List.map_append, sumI_app]
  simp [sumI]
theorem getD_ge {ls : List Int} (h : ∀ x ∈ ls, 0 ≤ x) (i : Nat) : 0 ≤ ls.getD i 0 := by
  have := look_ge h (i : Int)
  simpa [look] using this

def grpN (n : Nat) : Nat := (n + 49) / 50
def grp (l : List Int) (i : Nat) : List Int := (l.drop (50 * i)).take 50
def groupsL (l : List Int) : List (List Int) := (List.range (grpN l.length)).map (grp l)
theorem groupsL_len (l : List Int) : (groupsL l).length = grpN l.length := by unfold groupsL; simp
theorem grp_mem {l : List Int} {i : Nat} {x : Int} (h : x ∈ grp l i) : x ∈ l := List.mem_of_mem_drop (List.mem_of_mem_take h)
theorem grp_len (l : List Int) (i : Nat) : (grp l i).length = min 50 (l.length - 50 * i) := by unfold grp; simp
theorem grp_pos {l : List Int} {i : Nat} (h : i < grpN l.length) : 0 < (grp l i).length := by rw [grp_len]; unfold grpN at h; omega
theorem groups_mem {l g : List Int} (h : g ∈ groupsL l) : (∀ x ∈ g, x ∈ l) ∧ 0 < g.length ∧ g.length ≤ 50 := by
  unfold groupsL at h
  obtain ⟨i, hi, rfl⟩ := List.mem_map.1 h
  have := grp_pos (List.mem_range.1 hi)
  exact ⟨fun x hx => grp_mem hx, this, by rw [grp_len]; omega⟩

def pickF (g : List Int) : List (List Int) → Nat → Nat → Int → Nat
  | [], _, b, _ => b
  | t :: T, p, b, m => if costL g t < m then pickF g T (p + 1) p (costL g t) else pickF g T (p + 1) b m
def pickL (g : List Int) (T : List (List Int)) : Nat := pickF g T 0 0 1099511627776
theorem pickL_cons (g t : List Int) (T : List (List Int)) : pickL g (t :: T) = pickF g T 1 0 (costL g t) := by
  unfold pickL
  simp only [pickF]
  have := costL_le g t
  split
  · rfl
  · rw [show (1099511627776 : Int) = costL g t by omega]
theorem pickF_lt (g : List Int) (N : Nat) : ∀ (T : List (List Int)) (p b : Nat) (m : Int), p + T.length ≤ N → b < N → pickF g T p b m < N
  | [], _, _, _, _, hb => hb
  | t :: T, p, b, m, h, hb => by
    simp only [List.length_cons] at h
    simp only [pickF]
    split
    · exact pickF_lt g N T (p + 1) p _ (by omega) (by omega)
    · exact pickF_lt g N T (p + 1) b _ (by omega) hb
theorem pickL_lt (g : List Int) {T : List (List Int)} (h : 0 < T.length) : pickL g T < T.length := pickF_lt g T.length T 0 0 _ (by omega) h

def picksL (gs T : List (List Int)) : List Nat := gs.map fun g => pickL g T
def allP (p : Nat) : List (List Int) → List Nat → List Int
  | g :: gs, q :: qs => (if q = p then g else []) ++ allP p gs qs
  | _, _ => []
theorem allP_app (p : Nat) : ∀ (gs : List (List Int)) (qs : List Nat) (g : List Int) (q : Nat), gs.length = qs.length → allP p (gs ++ [g]) (qs ++ [q]) = allP p gs qs ++ (if q = p then g else [])
  | [], [], g, q, _ => by simp [allP]
  | [], _ :: _, _, _, h => by simp at h
  | _ :: _, [], _, _, h => by simp at h
  | a :: gs, b :: qs, g, q, h => by
    simp only [List.cons_append, allP, List.append_assoc]
    rw [allP_app p gs qs g q (by simpa using h)]
theorem allP_len (p : Nat) : ∀ (gs : List (List Int)) (qs : List Nat), (∀ g ∈ gs, g.length ≤ 50) → (allP p gs qs).length ≤ 50 * gs.length
  | [], _, _ => by simp [allP]
  | _ :: _, [], _ => by simp [allP]
  | a :: gs, b :: qs, h => by
    have := allP_len p gs qs fun g hg => h g (List.mem_cons_of_mem _ hg)
    have := h a List.mem_cons_self
    simp only [allP, List.length_append, List.length_cons]
    split <;> simp <;> omega
def tabC (gs T : List (List Int)) (size p : Nat) : List Int := countsL (allP p gs (picksL gs T)) size
def addL (a b : List Int) : List Int := (List.range a.length).map fun i => capI (a.getD i 0 + b.getD i 0)
theorem addL_counts (a b : List Int) (size : Nat) (h : a.length + b.length ≤ 1099511627776) : addL (countsL a size) (countsL b size) = countsL (a ++ b) size := by
  apply List.ext_getElem
  · simp [addL, countsL_len]
  · intro i h1 h2
    have hs : i < size := by rw [countsL_len] at h2; exact h2
    have : (addL (countsL a size) (countsL b size))[i] = capI ((countsL a size).getD i 0 + (countsL b size).getD i 0) := by simp [addL]
    rw [this, countsL_at hs, countsL_at hs, show (countsL (a ++ b) size)[i] = ((cntv (a ++ b) i : Nat) : Int) by simp [countsL], cntv_app]
    have h3 := cntv_le a i
    have h4 := cntv_le b i
    rw [capI_id (by omega)]
    omega

def numL (n : Int) : Nat := if n < 200 then 2 else if n < 600 then 3 else if n < 1200 then 4 else if n < 2400 then 5 else 6
theorem numL_ge (n : Int) : 2 ≤ numL n ∧ numL n ≤ 6 := by unfold numL; repeat' split
                                                          all_goals omega
def belowL (counts : List Int) (n : Int) (v : Nat) : Int := if n - 1 < sumI (counts.take v) then n - 1 else sumI (counts.take v)
theorem belowL_next {counts : List Int} (h0 : ∀ x ∈ counts, 0 ≤ x) {n : Int} {v : Nat} (h : v < counts.length) : (if n - 1 < belowL counts n v + counts.getD v 0 then n - 1 else belowL counts n v + counts.getD v 0) = belowL counts n (v + 1) := by
  have := getD_ge h0 v
  unfold belowL
  rw [sumI_next h]
  repeat' split
  all_goals omega
theorem belowL_ge {counts : List Int} (h0 : ∀ x ∈ counts, 0 ≤ x) {n : Int} (hn : 1 ≤ n) (v : Nat) : 0 ≤ belowL counts n v ∧ belowL counts n v ≤ n - 1 := by
  have := sumI_ge (l := counts.take v) fun x hx => h0 x (List.mem_of_mem_take hx)
  unfold belowL
  split <;> omega
def mineL (counts : List Int) (n : Int) (v : Nat) : Nat := (belowL counts n v * (numL n : Int) / n).toNat
theorem mineL_eq {counts : List Int} (h0 : ∀ x ∈ counts, 0 ≤ x) {n : Int} (hn : 1 ≤ n) (v : Nat) : (belowL counts n v * (numL n : Int)).tdiv n = (mineL counts n v : Int) := by
  have h1 := (belowL_ge h0 hn v).1
  have h2 : 0 ≤ belowL counts n v * (numL n : Int) := Int.mul_nonneg h1 (by omega)
  rw [Int.tdiv_eq_ediv_of_nonneg h2]
  unfold mineL
  have := Int.ediv_nonneg h2 (show 0 ≤ n by omega)
  omega
def firstT (counts : List Int) (n : Int) (p : Nat) : List Int := (List.range counts.length).map fun v => if mineL counts n v = p then 0 else 15
def firstL (counts : List Int) (n : Int) : List (List Int) := (List.range (numL n)).map (firstT counts n)
theorem firstL_len (counts : List Int) (n : Int) : (firstL counts n).length = numL n := by unfold firstL; simp
theorem firstT_len (counts : List Int) (n : Int) (p : Nat) : (firstT counts n p).length = counts.length := by unfold firstT; simp
theorem firstT_mem {counts : List Int} {n : Int} {p : Nat} {x : Int} (h : x ∈ firstT counts n p) : 0 ≤ x ∧ x ≤ 15 := by
  unfold firstT at h
  obtain ⟨v, _, rfl⟩ := List.mem_map.1 h
  split <;> omega

end Go.Proofs.YtdagfcflbphoiaaDoor.Tb

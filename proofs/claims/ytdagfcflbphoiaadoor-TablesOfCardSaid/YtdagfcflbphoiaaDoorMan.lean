/- Layer 12 by the second form: the reference's choice. -/
import Derived.Test.YtdagfcflbphoiaaDoorMam
namespace Go.Proofs.YtdagfcflbphoiaaDoor
set_option linter.unusedVariables false
set_option linter.unusedSimpArgs false
open Go.RowKit Ev Tb

theorem allP_next {p : Nat} {gs T : List (List Int)} {i : Nat} (hi : i < gs.length) : allP p (gs.take (i + 1)) ((picksL gs T).take (i + 1)) = allP p (gs.take i) ((picksL gs T).take i) ++ (if pickL (gs.getD i []) T = p then gs.getD i [] else []) := by
  have pn2 : (picksL gs T).take (i + 1) = (picksL gs T).take i ++ [pickL (gs.getD i []) T] := by
    rw [List.take_succ_eq_append_getElem (by rw [picksL_len]; exact hi)]
    congr 2
    unfold picksL
    simp only [List.getElem_map]
    rw [List.getD_eq_getElem?_getD, List.getElem?_eq_getElem hi]
    rfl
  have gn2 : gs.take (i + 1) = gs.take i ++ [gs.getD i []] := by
    rw [List.take_succ_eq_append_getElem hi, List.getD_eq_getElem?_getD, List.getElem?_eq_getElem hi]
    rfl
  rw [pn2, gn2, allP_app p _ _ _ _ (by rw [List.length_take, List.length_take, picksL_len])]
theorem picksI_next {gs T : List (List Int)} {i : Nat} (hi : i < gs.length) : intsV .i64 ((picksI gs T).take (i + 1)) = intsV .i64 ((picksI gs T).take i) ++ [.int .i64 (pickL (gs.getD i []) T : Int)] := by
  have : (picksI gs T).take (i + 1) = (picksI gs T).take i ++ [(pickL (gs.getD i []) T : Int)] := by
    rw [List.take_succ_eq_append_getElem (by rw [picksI_len]; exact hi)]
    congr 2
    unfold picksI picksL
    simp only [List.getElem_map]
    rw [List.getD_eq_getElem?_getD, List.getElem?_eq_getElem hi]
    rfl
  rw [this]
  unfold intsV
  rw [List.map_append]
  rfl
theorem picksI_at {gs T : List (List Int)} {i : Nat} (hi : i < gs.length) : (picksI gs T).getD i 0 = (pickL (gs.getD i []) T : Int) := by
  have h1 : i < (picksI gs T).length := by rw [picksI_len]; exact hi
  have : (picksI gs T)[i] = (pickL gs[i] T : Int) := by unfold picksI picksL; simp
  rw [List.getD_eq_getElem?_getD, List.getElem?_eq_getElem h1, Option.getD_some, this, List.getD_eq_getElem?_getD, List.getElem?_eq_getElem hi]
  rfl
section
variable (lf d n : Nat) (h : H) (hlf : 3000000 ≤ lf)
include hlf
set_option maxHeartbeats 2000000 in
theorem r_TablesOf (v : Value) (xs : List Int) (s : Nat) (hR : Row h n 3 .i64 v xs) (h0 : 0 < xs.length) (hl : xs.length ≤ 1000000) (h3 : 3 ≤ s) (h258 : s ≤ 258) (hin : inB s xs = true) (hd : 600 ≤ d) :
    Run (fun _ => False) n (evCall2 Tryd.prog gt lf d 27 #[v, .int .i64 (s : Int)]) h n fun v' h' n' => ∃ x y, v' = .agg #[x, y] ∧ RR h' n' 22 3 x (tabIt xs s 4) ∧ Row h' n' 3 .i64 y (picksI (groupsL xs) (tabIt xs s 3)) := by
  obtain ⟨d, rfl⟩ : ∃ e, d = e + 8 := ⟨d - 8, by omega⟩
  rw [sh_balerref12_Of]
  refine Run.inside_ ?_
  unfold b_balerref12_Of
  have hR0 := hR
  obtain ⟨a, c, rfl⟩ := hR.len
  refine run_alloc zr47 _ ?_
  obtain ⟨ha, hha⟩ : ∃ ha, h.set n (some ⟨47, true, (Value.agg #[Value.slice none 0 0, Value.slice none 0 0]).cells.toList⟩) = ha := ⟨_, rfl⟩
  have ka : ∀ b, b < n → ha.get b = h.get b := fun b hb => by rw [← hha]; exact get_ne _ _ (by omega)
  have ga : ha.get n = some ⟨47, true, [.slice none 0 0, .slice none 0 0]⟩ := by rw [← hha, get_eq]; rfl
  rw [hha]
  have hRa := hR0.keep (Nat.le_succ n) ka
  refine run_call okd (r_Counts lf (d + 5) (n + 1) ha hlf _ xs hRa hl s (by omega)) (Nat.le_succ n) (fun _ _ h => h.elim) fun u h1 n1 hn1 fr1 hu => ?_
  have cm : ∀ x ∈ countsL xs s, 0 ≤ x ∧ x ≤ 1099511627776 := fun x hx => by have := countsL_mem hx; omega
  try simp (disch := first | omega | assumption | exact one_int _ _ | exact one_slice _ _ _ | exact one_ptr _ | exact one_bool _ | exact one_string _) only [RXA, RXB, Nat.reduceAdd, Nat.reduceLT, wrap_id, wrap_succ, wrap_pred, FX1]
  refine run_call okd (r_First lf (d + 5) n1 h1 hlf u (countsL xs s) (xs.length : Int) hu (by rw [countsL_len]; exact h258) cm (by omega) (by omega)) (by omega) (fun _ _ h => h.elim) fun vf h2 n2 hn2 fr2 hf => ?_
  have k2 : ∀ b, b < n + 1 → h2.get b = ha.get b := fun b hb => (fr2 b (by omega) id).trans (fr1 b hb id)
  have hf0 := hf
  obtain ⟨af, cf, rfl⟩ := hf.len
  try simp (disch := first | omega | assumption | exact one_int _ _ | exact one_slice _ _ _ | exact one_ptr _ | exact one_bool _ | exact one_string _) only [RXA, RXB, Nat.reduceAdd, Nat.reduceLT, wrap_id, wrap_succ, wrap_pred, FX1]
  refine run_alloc zr47 _ ?_
  refine run_sta (cs := [.slice none 0 0, .slice none 0 0]) sz47 (vs := [.slice af (firstL (countsL xs s) (xs.length : Int)).length cf, .slice none 0 0]) rfl rfl rfl (get_eq _ _ _) (Nat.lt_succ_self n2) (Nat.le_refl _) (.inl (by omega)) _ fun h3' hg3 k3 => ?_
  have k3' : ∀ b, b < n2 → h3'.get b = h2.get b := fun b hb => by rw [k3 b (by omega), get_ne _ _ (by omega)]
  have hR3 : Row h3' (n2 + 1) 3 .i64 (.slice a xs.length c) xs := hRa.keep (by omega) fun b hb => by rw [k3' b (by omega)]; exact k2 b hb
  refine run_call okd (r_Groups lf (d + 6) (n2 + 1) h3' hlf _ xs hR3 hl) (by omega) (fun _ _ h => h.elim) fun vg h4 n4 hn4 fr4 hg4 => ?_
  have hgr := groups_good hl hin
  have ht := tabIt_good hl hin h3 h258
  have ht2 := tabIt_len xs s
  have hn6 := numL_ge (xs.length : Int)
  have gn4 : h4.get n = some ⟨47, true, [.slice none 0 0, .slice none 0 0]⟩ := by rw [fr4 n (by omega) id, k3' n (by omega), k2 n (by omega)]; exact ga
  have hb4 : h4.get n2 = some ⟨47, true, [.slice af (firstL (countsL xs s) (xs.length : Int)).length cf, .slice none 0 0]⟩ := (fr4 n2 (by omega) id).trans hg3
  have hf4 : RR h4 n4 22 3 (.slice af (firstL (countsL xs s) (xs.length : Int)).length cf) (tabIt xs s 0) := (hf0.keep (Nat.le_succ n2) k3').keep hn4 fun b hb => fr4 b hb id
  obtain ⟨gs, hgs⟩ : ∃ gs, groupsL xs = gs := ⟨_, rfl⟩
  have tabIt_succ : ∀ k, tabIt xs s (k + 1) = tabsL gs (tabIt xs s k) s := fun k => by rw [← hgs]; rfl
  have gl5 : gs.length ≤ 20000 := by rw [← hgs, groupsL_len]; unfold grpN; omega
  rw [hgs] at hgr hg4 ⊢
  have hg40 := hg4
  obtain ⟨ag, cg, rfl⟩ := hg4.len
  refine run_for 4 (fun fu i (_ : Unit) => lpA_balerref12_Of lf (d + 7) fu (kcA_balerref12_Of lf (d + 7)) (.slice a xs.length c) (.int .i64 (s : Nat)) (.pointer (some ⟨n, 0, none⟩)) (.pointer (some ⟨n2, 0, none⟩)) (.slice ag gs.length cg) (.int .i64 (i : Nat)))
    (fun i _ h' n' => n4 ≤ n' ∧ (∀ b, b < n4 → b ≠ n2 → h'.get b = h4.get b) ∧ ∃ x y, h'.get n2 = some ⟨47, true, [x, y]⟩ ∧ RR h' n' 22 3 x (tabIt xs s i) ∧ one y = true ∧ (0 < i → Row h' n' 3 .i64 y (picksI gs (tabIt xs s (i - 1))))) ?_ ?_ lf 0 () _ _ (Nat.zero_le _) (by omega) ⟨Nat.le_refl n4, fun _ _ _ => rfl, _, _, hb4, hf4, rfl, fun q => absurd q (Nat.lt_irrefl 0)⟩
  · rintro fu _ h' n' ⟨hn', hk', x, y, hg', hx, hy1, hy⟩
    have z4 : ¬ (((4 : Nat) : Int) < 4) := by omega
    rw [succA_balerref12_Of]
    try simp (disch := first | omega | assumption | exact one_int _ _ | exact one_slice _ _ _ | exact one_ptr _ | exact one_bool _ | exact one_string _) only [RXA, RXB, Nat.reduceAdd, Nat.reduceLT, wrap_id, wrap_succ, wrap_pred, FX1, z4]
    rw [kcAa_balerref12_Of]
    refine run_lda aga47 sz47 _ _ _ hg' (by omega) (by simp) ?_
    have ga' : h'.get n = some ⟨47, true, [.slice none 0 0, .slice none 0 0]⟩ := by rw [hk' n (by omega) (by omega)]; exact gn4
    have hy2 := hy (by omega)
    have hx1 : one x = true := by obtain ⟨_, _, rfl⟩ := hx.len; rfl
    refine run_sta sz47 (vs := [x, y]) rfl rfl (by simp [hx1, hy1]) ga' (by omega) (Nat.le_refl _) (.inl (Nat.le_refl _)) _ fun h5 hg5 k5 => ?_
    refine run_lda0 aga47 sz47 _ _ _ hg5 (by omega) (by simp) ?_
    try simp (disch := first | omega | assumption | exact one_int _ _ | exact one_slice _ _ _ | exact one_ptr _ | exact one_bool _ | exact one_string _) only [RXA, RXB, Nat.reduceAdd, Nat.reduceLT, wrap_id, wrap_succ, wrap_pred, FX1]
    refine ⟨x, y, rfl, hx.keepE (Nat.le_refl _) fun b B _ hB he => other_elem ga' k5 hB fun q => ?_, hy2.keepE (Nat.le_refl _) fun b B _ hB he => other_elem ga' k5 hB fun q => ?_⟩
    · rcases he with he | he
      · exact absurd (show (22 : Nat) = 47 from he.symm.trans q) (by decide)
      · exact absurd (show (3 : Nat) = 47 from he.symm.trans q) (by decide)
    · exact absurd (show (3 : Nat) = 47 from he.symm.trans q) (by decide)
  · rintro fu i _ h5 n5 hi ⟨hn5, hk5, x, y, hg5, hx, hy1, hy⟩ next
    have e1 : ((i : Nat) : Int) < 4 := by omega
    obtain ⟨T, hT⟩ : ∃ T, tabIt xs s i = T := ⟨_, rfl⟩
    have hTg := ht i
    have hTl := ht2 i
    rw [hT] at hTg hTl hx
    have hgx : RR h5 n5 22 3 (.slice ag gs.length cg) gs := hg40.keepE hn5 fun b B hb hB he => hk5 b hb fun q => by
      subst q
      rw [hb4] at hB; cases hB
      rcases he with he | he
      · exact absurd (show (47 : Nat) = 22 from he) (by decide)
      · exact absurd (show (47 : Nat) = 3 from he) (by decide)
    have lt2 : n2 < n5 := by omega
    rw [succA_balerref12_Of]
    try simp (disch := first | omega | assumption | exact one_int _ _ | exact one_slice _ _ _ | exact one_ptr _ | exact one_bool _ | exact one_string _) only [RXA, RXB, Nat.reduceAdd, Nat.reduceLT, wrap_id, wrap_succ, wrap_pred, FX1, e1]
    refine run_for gs.length (fun f2 j (w : Value) => lpB_balerref12_Of lf (d + 7) f2 (kcB_balerref12_Of lf (d + 7) fu (kcA_balerref12_Of lf (d + 7))) (.slice a xs.length c) (.int .i64 (s : Nat)) (.pointer (some ⟨n, 0, none⟩)) (.pointer (some ⟨n2, 0, none⟩)) (.slice ag gs.length cg) w (.int .i64 (i : Nat)) _ (.slice ag gs.length cg) (.int .i64 (gs.length : Nat)) (.int .i64 (j : Nat)))
      (fun j w h' n' => n5 ≤ n' ∧ (∀ b, b < n5 → h'.get b = h5.get b) ∧ Own h' n5 n' 3 w (intsV .i64 ((picksI gs T).take j))) ?_ ?_ lf 0 _ _ _ (Nat.zero_le _) (by omega) ⟨Nat.le_refl _, fun _ _ => rfl, Own.nil _ _ _ _⟩
    rotate_left
    · rintro f2 j w h' n' hj ⟨hn', hk', hO'⟩ next2
      have e2 : ((j : Nat) : Int) < ((gs.length : Nat) : Int) := by omega
      obtain ⟨b, off, cap, o, cs, hv, hgg, hb, hat⟩ := (hgx.keep hn' hk').at (by omega)
      cases hv
      obtain ⟨q, hq, hrq⟩ := hat j hj
      have hg5' : h'.get n2 = some ⟨47, true, [x, y]⟩ := (hk' n2 lt2).trans hg5
      have lt3 : n2 < n' := by omega
      have gm : gs.getD j [] ∈ gs := by rw [List.getD_eq_getElem?_getD, List.getElem?_eq_getElem hj]; exact List.getElem_mem hj
      obtain ⟨g1, g2⟩ := hgr.1 _ gm
      rw [succB_balerref12_Of]
      try simp (disch := first | omega | assumption | exact one_int _ _ | exact one_slice _ _ _ | exact one_ptr _ | exact one_bool _ | exact one_string _) only [RXA, RXB, Nat.reduceAdd, Nat.reduceLT, wrap_id, wrap_succ, wrap_pred, FX1, e2, hgg, hq, hg5']
      refine run_same (r_pick lf (d + 4) n' h' hlf q x _ T hrq (hx.keep hn' hk') (by omega) (by omega) (by omega) fun t ht' => ?_) (by omega) (fun _ _ h => h.elim) ?_
      · obtain ⟨t1, t2⟩ := hTg t ht'
        exact ⟨by omega, fun y hy => by have := t2 y hy; omega, by rw [t1]; exact g2⟩
      · refine run_pushO c1x22 (one_int _ _) hO' (by rw [intsV_len, List.length_take, picksI_len]; omega) (by omega) _ fun h2 hg2 hk2 => ?_
        rw [← picksI_next hj] at hg2
        try simp (disch := first | omega | assumption | exact one_int _ _ | exact one_slice _ _ _ | exact one_ptr _ | exact one_bool _ | exact one_string _) only [RXA, RXB, Nat.reduceAdd, Nat.reduceLT, wrap_id, wrap_succ, wrap_pred, FX1]
        exact next2 _ h2 (n' + 2) ⟨by omega, fun b hb => by rw [hk2 b (by omega) fun q => by have := (hO'.lt q).1; omega]; exact hk' b hb, Own.mk' hg2 (by omega) (by omega) (by rw [intsV_len, intsV_len, List.length_take, List.length_take, picksI_len]; omega)⟩
    · rintro f2 w h6 n6 ⟨hn6', hk6, hO6⟩
      rw [List.take_of_length_le (by rw [picksI_len]; exact Nat.le_refl _)] at hO6
      have hg6 : h6.get n2 = some ⟨47, true, [x, y]⟩ := (hk6 n2 lt2).trans hg5
      have hx6 := hx.keep hn6' hk6
      have hgx6 := hgx.keep hn6' hk6
      have hw6 := hO6.row
      have hw60 := hw6
      obtain ⟨ax, cx, hxl⟩ := hx.len
      obtain ⟨aw, cw, rfl⟩ := hw6.len
      have lt6 : n2 < n6 := by omega
      rw [succB_balerref12_Of]
      try simp (disch := first | omega | assumption | exact one_int _ _ | exact one_slice _ _ _ | exact one_ptr _ | exact one_bool _ | exact one_string _) only [RXA, RXB, Nat.reduceAdd, Nat.reduceLT, wrap_id, wrap_succ, wrap_pred, FX1, Int.lt_irrefl]
      rw [kcBa_balerref12_Of]
      try simp (disch := first | omega | assumption | exact one_int _ _ | exact one_slice _ _ _ | exact one_ptr _ | exact one_bool _ | exact one_string _) only [RXA, RXB, Nat.reduceAdd, Nat.reduceLT, wrap_id, wrap_succ, wrap_pred, FX1, hg6, hxl]
      refine run_for T.length (fun f3 p (q : Value) => lpC_balerref12_Of lf (d + 7) f3 (kcC_balerref12_Of lf (d + 7) fu (kcA_balerref12_Of lf (d + 7))) (.slice a xs.length c) (.int .i64 (s : Nat)) (.pointer (some ⟨n, 0, none⟩)) (.pointer (some ⟨n2, 0, none⟩)) (.slice ag gs.length cg) (.slice aw (picksI gs T).length cw) q (.int .i64 (i : Nat)) _ _ _ _ _ (.int .i64 (T.length : Nat)) (.int .i64 (p : Nat)))
        (fun p q h' n' => n6 ≤ n' ∧ (∀ b, b < n6 → h'.get b = h6.get b) ∧ OwnRR h' n6 n' n' 22 3 q ((List.range p).map fun p => tbl (tabC gs T s p))) ?_ ?_ lf 0 _ _ _ (Nat.zero_le _) (by omega) ⟨Nat.le_refl _, fun _ _ => rfl, OwnRR.nil _ _ _ _ _ _⟩
      · rintro f3 q h7 n7 ⟨hn7, hk7, hO7⟩
        have hg7 : h7.get n2 = some ⟨47, true, [x, y]⟩ := (hk7 n2 lt6).trans hg6
        have hr7 := hO7.rr
        have hr70 := hr7
        obtain ⟨aq, cq, rfl⟩ := hr7.len
        rw [succC_balerref12_Of]
        try simp (disch := first | omega | assumption | exact one_int _ _ | exact one_slice _ _ _ | exact one_ptr _ | exact one_bool _ | exact one_string _) only [RXA, RXB, Nat.reduceAdd, Nat.reduceLT, wrap_id, wrap_succ, wrap_pred, FX1, Int.lt_irrefl]
        rw [kcCa_balerref12_Of]
        try simp (disch := first | omega | assumption | exact one_int _ _ | exact one_slice _ _ _ | exact one_ptr _ | exact one_bool _ | exact one_string _) only [RXA, RXB, Nat.reduceAdd, Nat.reduceLT, wrap_id, wrap_succ, wrap_pred, FX1]
        refine run_sta sz47 (vs := [.slice aq ((List.range T.length).map fun p => tbl (tabC gs T s p)).length cq, .slice aw (picksI gs T).length cw]) rfl rfl rfl hg7 (by omega) (Nat.le_refl _) (.inl (by omega)) _ fun h8 hg8 k8 => ?_
        try simp (disch := first | omega | assumption | exact one_int _ _ | exact one_slice _ _ _ | exact one_ptr _ | exact one_bool _ | exact one_string _) only [RXA, RXB, Nat.reduceAdd, Nat.reduceLT, wrap_id, wrap_succ, wrap_pred, FX1]
        refine next () h8 n7 ⟨by omega, fun b hb hne => by rw [k8 b hne, hk7 b (by omega), hk6 b (by omega)]; exact hk5 b hb hne, _, _, hg8, ?_, rfl, fun _ => ?_⟩
        · have := hr70.keepE (h' := h8) (Nat.le_refl _) fun b B _ hB he => other_elem hg7 k8 hB fun q => ?_
          · rw [tabIt_succ, hT]
            exact this
          · rcases he with he | he
            · exact absurd (show (22 : Nat) = 47 from he.symm.trans q) (by decide)
            · exact absurd (show (3 : Nat) = 47 from he.symm.trans q) (by decide)
        · have := (hw60.keep hn7 hk7).keepE (h' := h8) (Nat.le_refl _) fun b B _ hB he => other_elem hg7 k8 hB fun q => absurd (show (3 : Nat) = 47 from he.symm.trans q) (by decide)
          rw [show i + 1 - 1 = i by omega, hT]
          exact this
      · rintro f3 p q h7 n7 hp ⟨hn7, hk7, hO7⟩ next3
        have e3 : ((p : Nat) : Int) < ((T.length : Nat) : Int) := by omega
        rw [succC_balerref12_Of]
        try simp (disch := first | omega | assumption | exact one_int _ _ | exact one_slice _ _ _ | exact one_ptr _ | exact one_bool _ | exact one_string _) only [RXA, RXB, Nat.reduceAdd, Nat.reduceLT, wrap_id, wrap_succ, wrap_pred, FX1, e3]
        refine run_for gs.length (fun f4 j (w2 : Value) => lpD_balerref12_Of lf (d + 7) f4 (kcD_balerref12_Of lf (d + 7) f3 (kcC_balerref12_Of lf (d + 7) fu (kcA_balerref12_Of lf (d + 7)))) (.slice a xs.length c) (.int .i64 (s : Nat)) (.pointer (some ⟨n, 0, none⟩)) (.pointer (some ⟨n2, 0, none⟩)) (.slice ag gs.length cg) (.slice aw (picksI gs T).length cw) q (.int .i64 (p : Nat)) w2 (.int .i64 (i : Nat)) _ _ _ _ _ (.int .i64 (T.length : Nat)) (.int .i64 (p : Nat)) _ (.slice ag gs.length cg) (.int .i64 (gs.length : Nat)) (.int .i64 (j : Nat)))
          (fun j w2 h' n' => n7 ≤ n' ∧ (∀ b, b < n7 → h'.get b = h7.get b) ∧ Own h' n7 n' 3 w2 (intsV .i64 (allP p (gs.take j) ((picksL gs T).take j)))) ?_ ?_ lf 0 _ _ _ (Nat.zero_le _) (by omega) ⟨Nat.le_refl _, fun _ _ => rfl, Own.nil _ _ _ _⟩
        · rintro f4 w2 h8 n8 ⟨hn8, hk8, hO8⟩
          rw [succD_balerref12_Of]
          try simp (disch := first | omega | assumption | exact one_int _ _ | exact one_slice _ _ _ | exact one_ptr _ | exact one_bool _ | exact one_string _) only [RXA, RXB, Nat.reduceAdd, Nat.reduceLT, wrap_id, wrap_succ, wrap_pred, FX1, Int.lt_irrefl]
          rw [kcDa_balerref12_Of]
          rw [List.take_length, List.take_of_length_le (by rw [picksL_len]; exact Nat.le_refl _)] at hO8
          have al := allP_len p gs (picksL gs T) fun g hg => (hgr.1 g hg).1
          refine run_call okd (r_Counts lf (d + 5) n8 h8 hlf _ _ hO8.row (by omega) s (by omega)) (by omega) (fun _ _ h => h.elim) fun u9 h9 n9 hn9 fr9 hu9 => ?_
          refine run_call okd (r_tbl lf (d + 6) n9 h9 hlf u9 (tabC gs T s p) hu9 (by show 3 ≤ (countsL _ _).length; rw [countsL_len]; exact h3) (by show (countsL _ _).length ≤ 258; rw [countsL_len]; exact h258) (tabC_in gs T s p hgr (fun _ h => h) (Nat.le_refl _)) (by omega)) (by omega) (fun _ _ h => h.elim) fun u10 h10 n10 hn10 fr10 hu10 => ?_
          have hO10 := (hO7.keep (show n7 ≤ n10 by omega) fun b hb _ => by rw [fr10 b (by omega) id, fr9 b (by omega) id]; exact hk8 b hb).up (show n7 ≤ n10 by omega)
          refine run_pushRR c1x23 (by decide) hO10 hu10 (Nat.le_refl _) (by simp; omega) (by omega) (by omega) _ fun v2 h11 o11 k11 _ => ?_
          try simp (disch := first | omega | assumption | exact one_int _ _ | exact one_slice _ _ _ | exact one_ptr _ | exact one_bool _ | exact one_string _) only [RXA, RXB, Nat.reduceAdd, Nat.reduceLT, wrap_id, wrap_succ, wrap_pred, FX1]
          refine next3 v2 h11 (n10 + 2) ⟨by omega, fun b hb => ?_, ?_⟩
          · rw [k11 b (by omega) fun q => by have := (hO10.lt q).1; omega, fr10 b (by omega) id, fr9 b (by omega) id, hk8 b (by omega)]
            exact hk7 b hb
          · rw [List.range_succ, List.map_append]
            exact o11.up (by omega)
        · rintro f4 j w2 h8 n8 hj ⟨hn8, hk8, hO8⟩ next4
          have e4 : ((j : Nat) : Int) < ((gs.length : Nat) : Int) := by omega
          have k68 : ∀ b, b < n6 → h8.get b = h6.get b := fun b hb => (hk8 b (by omega)).trans (hk7 b hb)
          obtain ⟨b, off, cap, o, cs, hv, hgg, hb, hat⟩ := (hgx6.keep (show n6 ≤ n8 by omega) k68).at (by omega)
          cases hv
          obtain ⟨g, hq, hrq⟩ := hat j hj
          have hw8 := hw60.keep (show n6 ≤ n8 by omega) k68
          obtain ⟨b2, off2, cap2, o2, cs2, hv2, hgw, hb2, _, _, _, hat2⟩ := hw8.some (by rw [picksI_len]; omega)
          cases hv2
          have e5 : ((j : Nat) : Int) < (((picksI gs T).length : Nat) : Int) := by rw [picksI_len]; omega
          have c5 := hat2 j (by rw [picksI_len]; exact hj)
          rw [picksI_at hj] at c5
          have an := allP_next (p := p) (T := T) hj
          have al := allP_len p (gs.take j) ((picksL gs T).take j) fun g hg => (hgr.1 g (List.mem_of_mem_take hg)).1
          rw [List.length_take] at al
          have gm : gs.getD j [] ∈ gs := by rw [List.getD_eq_getElem?_getD, List.getElem?_eq_getElem hj]; exact List.getElem_mem hj
          obtain ⟨g1, g2⟩ := hgr.1 _ gm
          rw [succD_balerref12_Of]
          by_cases m : pickL (gs.getD j []) T = p
          · have n1 : ((pickL (gs.getD j []) T : Int) == (p : Int)) = true := by rw [m]; simp
            rw [if_pos m] at an
            try simp (disch := first | omega | assumption | exact one_int _ _ | exact one_slice _ _ _ | exact one_ptr _ | exact one_bool _ | exact one_string _) only [RXA, RXB, Nat.reduceAdd, Nat.reduceLT, wrap_id, wrap_succ, wrap_pred, FX1, e4, hgg, hq, e5, hgw, c5, n1]
            refine run_appO c1x22 hO8 hrq (by rw [intsV_len]; omega) (by omega) (by omega) _ fun w3 h9 n9 hn9 o9 _ k9 => ?_
            try simp (disch := first | omega | assumption | exact one_int _ _ | exact one_slice _ _ _ | exact one_ptr _ | exact one_bool _ | exact one_string _) only [RXA, RXB, Nat.reduceAdd, Nat.reduceLT, wrap_id, wrap_succ, wrap_pred, FX1]
            refine next4 w3 h9 n9 ⟨by omega, fun b hb => by rw [k9 b (by omega) fun q => by have := (hO8.lt q).1; omega]; exact hk8 b hb, ?_⟩
            rw [an]
            have : intsV .i64 (allP p (gs.take j) ((picksL gs T).take j) ++ gs.getD j []) = intsV .i64 (allP p (gs.take j) ((picksL gs T).take j)) ++ intsV .i64 (gs.getD j []) := by unfold intsV; rw [List.map_append]
            rw [this]
            exact o9
          · have n1 : ((pickL (gs.getD j []) T : Int) == (p : Int)) = false := beq_eq_false_iff_ne.2 fun e => m (by omega)
            rw [if_neg m, List.append_nil] at an
            try simp (disch := first | omega | assumption | exact one_int _ _ | exact one_slice _ _ _ | exact one_ptr _ | exact one_bool _ | exact one_string _) only [RXA, RXB, Nat.reduceAdd, Nat.reduceLT, wrap_id, wrap_succ, wrap_pred, FX1, e4, hgg, hq, e5, hgw, c5, n1]
            refine next4 w2 h8 n8 ⟨hn8, hk8, ?_⟩
            rw [an]
            exact hO8
end
end Go.Proofs.YtdagfcflbphoiaaDoor
/- Layer 12 by the second form: which choices are the same. -/
namespace Go.Proofs.YtdagfcflbphoiaaDoor
set_option linter.unusedVariables false
set_option linter.unusedSimpArgs false
open Go.RowKit Ev Tb

theorem drop_same {α : Type} [DecidableEq α] (d : α) {xs ys : List α} (hl : xs.length = ys.length) {i : Nat} (hi : i < xs.length) : decide (xs.drop i = ys.drop i) = (decide (xs.getD i d = ys.getD i d) && decide (xs.drop (i + 1) = ys.drop (i + 1))) := by
  rw [drop_next d hi, drop_next d (show i < ys.length by omega)]
  by_cases h1 : xs.getD i d = ys.getD i d
  · rw [h1, decide_eq_true rfl, Bool.true_and]
    simp only [List.cons.injEq, true_and]
  · rw [decide_eq_false h1, Bool.false_and]
    exact decide_eq_false fun q => h1 (List.cons.inj q).1
theorem drop_all {α : Type} [DecidableEq α] {xs ys : List α} (hl : xs.length = ys.length) : decide (xs.drop xs.length = ys.drop xs.length) = true := by
  rw [List.drop_length, hl, List.drop_length]
  exact decide_eq_true rfl
section
variable (lf d n : Nat) (h : H)
theorem s_Equal (v u : Value) (xs ys : List Int) (hR : Row h n 3 .i64 v xs) (hS : Row h n 3 .i64 u ys) (hl : xs.length < lf) (hm : xs.length ≤ 9223372036854775807) :
    Run (fun _ => False) n (evCall2 Tryd.prog gt lf (d + 1) 41 #[v, u]) h n fun v' h' n' => v' = .bool (decide (xs = ys)) ∧ h' = h ∧ n' = n := by
  rw [sh_slices_Equal_int_int]
  refine Run.inside_ ?_
  unfold b_slices_Equal_int_int
  have hR0 := hR
  have hS0 := hS
  obtain ⟨a, c, rfl⟩ := hR.len
  obtain ⟨a2, c2, rfl⟩ := hS.len
  by_cases hxy : xs.length = ys.length
  · have n1 : (((xs.length : Nat) : Int) != ((ys.length : Nat) : Int)) = false := by rw [hxy]; simp
    try simp (disch := first | omega | assumption | exact one_int _ _ | exact one_slice _ _ _ | exact one_ptr _ | exact one_bool _ | exact one_string _) only [RXA, RXB, Nat.reduceAdd, Nat.reduceLT, wrap_id, wrap_succ, wrap_pred, FX1, n1]
    refine run_for xs.length (fun fu i (_ : Unit) => lpA_slices_Equal_int_int lf d fu (kcA_slices_Equal_int_int lf d) (.slice a xs.length c) (.slice a2 ys.length c2) _ _ (.int .i64 (xs.length : Nat)) (.int .i64 (i : Nat))) (fun i _ h' n' => (h' = h ∧ n' = n) ∧ decide (xs = ys) = decide (xs.drop i = ys.drop i)) ?_ ?_ lf 0 () h n (Nat.zero_le _) (by omega) ⟨⟨rfl, rfl⟩, rfl⟩
    · rintro fu _ h' n' ⟨⟨rfl, rfl⟩, e⟩
      rw [succA_slices_Equal_int_int, e, drop_all hxy]
      try simp (disch := first | omega | assumption | exact one_int _ _ | exact one_slice _ _ _ | exact one_ptr _ | exact one_bool _ | exact one_string _) only [RXA, RXB, Nat.reduceAdd, Nat.reduceLT, wrap_id, wrap_succ, wrap_pred, FX1, Int.lt_irrefl]
      rw [kcAb_slices_Equal_int_int]
      try simp (disch := first | omega | assumption | exact one_int _ _ | exact one_slice _ _ _ | exact one_ptr _ | exact one_bool _ | exact one_string _) only [RXA, RXB, Nat.reduceAdd, Nat.reduceLT, wrap_id, wrap_succ, wrap_pred, FX1]
    · rintro fu i _ h' n' hi ⟨⟨rfl, rfl⟩, e⟩ next
      obtain ⟨b, off, cap, o, cs, hv, hg, hb, _, _, _, hat⟩ := hR0.some (by omega)
      cases hv
      obtain ⟨b2, off2, cap2, o2, cs2, hv2, hg2, hb2, _, _, _, hat2⟩ := hS0.some (by omega)
      cases hv2
      have e1 : ((i : Nat) : Int) < ((xs.length : Nat) : Int) := by omega
      have e2 : ((i : Nat) : Int) < ((ys.length : Nat) : Int) := by omega
      have c1 := hat i hi
      have c2 := hat2 i (by omega)
      rw [drop_same 0 hxy hi] at e
      rw [succA_slices_Equal_int_int]
      by_cases h1 : xs.getD i 0 = ys.getD i 0
      · have n1 : (xs.getD i 0 != ys.getD i 0) = false := by rw [h1]; simp
        rw [decide_eq_true h1, Bool.true_and] at e
        try simp (disch := first | omega | assumption | exact one_int _ _ | exact one_slice _ _ _ | exact one_ptr _ | exact one_bool _ | exact one_string _) only [RXA, RXB, Nat.reduceAdd, Nat.reduceLT, wrap_id, wrap_succ, wrap_pred, FX1, e1, e2, hg, hg2, c1, c2, n1]
        exact next () _ _ ⟨⟨rfl, rfl⟩, e⟩
      · have n1 : (xs.getD i 0 != ys.getD i 0) = true := bne_iff_ne.2 h1
        rw [decide_eq_false h1, Bool.false_and] at e
        rw [e]
        try simp (disch := first | omega | assumption | exact one_int _ _ | exact one_slice _ _ _ | exact one_ptr _ | exact one_bool _ | exact one_string _) only [RXA, RXB, Nat.reduceAdd, Nat.reduceLT, wrap_id, wrap_succ, wrap_pred, FX1, e1, e2, hg, hg2, c1, c2, n1]
        rw [kcAa_slices_Equal_int_int]
        try simp (disch := first | omega | assumption | exact one_int _ _ | exact one_slice _ _ _ | exact one_ptr _ | exact one_bool _ | exact one_string _) only [RXA, RXB, Nat.reduceAdd, Nat.reduceLT, wrap_id, wrap_succ, wrap_pred, FX1]
  · have n1 : (((xs.length : Nat) : Int) != ((ys.length : Nat) : Int)) = true := by simp; omega
    rw [decide_eq_false (fun q => hxy (by rw [q]))]
    try simp (disch := first | omega | assumption | exact one_int _ _ | exact one_slice _ _ _ | exact one_ptr _ | exact one_bool _ | exact one_string _) only [RXA, RXB, Nat.reduceAdd, Nat.reduceLT, wrap_id, wrap_succ, wrap_pred, FX1, n1]
theorem r_Ints (v u : Value) (xs ys : List Int) (hR : Row h n 3 .i64 v xs) (hS : Row h n 3 .i64 u ys) (hl : xs.length < lf) (hm : xs.length ≤ 9223372036854775807) :
    Run (fun _ => False) n (evCall2 Tryd.prog gt lf (d + 1) 28 #[v, u]) h n fun v' h' n' => v' = .bool (decide (xs = ys)) ∧ h' = h ∧ n' = n := by
  rw [sh_balerplain_Ints]
  refine Run.inside_ ?_
  unfold b_balerplain_Ints
  have hR0 := hR
  have hS0 := hS
  obtain ⟨a, c, rfl⟩ := hR.len
  obtain ⟨a2, c2, rfl⟩ := hS.len
  by_cases hxy : xs.length = ys.length
  · have n1 : (((xs.length : Nat) : Int) != ((ys.length : Nat) : Int)) = false := by rw [hxy]; simp
    try simp (disch := first | omega | assumption | exact one_int _ _ | exact one_slice _ _ _ | exact one_ptr _ | exact one_bool _ | exact one_string _) only [RXA, RXB, Nat.reduceAdd, Nat.reduceLT, wrap_id, wrap_succ, wrap_pred, FX1, n1]
    refine run_for xs.length (fun fu i (_ : Unit) => lpA_balerplain_Ints lf d fu (kcA_balerplain_Ints lf d) (.slice a xs.length c) (.slice a2 ys.length c2) _ _ (.int .i64 (xs.length : Nat)) (.int .i64 (i : Nat))) (fun i _ h' n' => (h' = h ∧ n' = n) ∧ decide (xs = ys) = decide (xs.drop i = ys.drop i)) ?_ ?_ lf 0 () h n (Nat.zero_le _) (by omega) ⟨⟨rfl, rfl⟩, rfl⟩
    · rintro fu _ h' n' ⟨⟨rfl, rfl⟩, e⟩
      rw [succA_balerplain_Ints, e, drop_all hxy]
      try simp (disch := first | omega | assumption | exact one_int _ _ | exact one_slice _ _ _ | exact one_ptr _ | exact one_bool _ | exact one_string _) only [RXA, RXB, Nat.reduceAdd, Nat.reduceLT, wrap_id, wrap_succ, wrap_pred, FX1, Int.lt_irrefl]
      rw [kcAb_balerplain_Ints]
      try simp (disch := first | omega | assumption | exact one_int _ _ | exact one_slice _ _ _ | exact one_ptr _ | exact one_bool _ | exact one_string _) only [RXA, RXB, Nat.reduceAdd, Nat.reduceLT, wrap_id, wrap_succ, wrap_pred, FX1]
    · rintro fu i _ h' n' hi ⟨⟨rfl, rfl⟩, e⟩ next
      obtain ⟨b, off, cap, o, cs, hv, hg, hb, _, _, _, hat⟩ := hR0.some (by omega)
      cases hv
      obtain ⟨b2, off2, cap2, o2, cs2, hv2, hg2, hb2, _, _, _, hat2⟩ := hS0.some (by omega)
      cases hv2
      have e1 : ((i : Nat) : Int) < ((xs.length : Nat) : Int) := by omega
      have e2 : ((i : Nat) : Int) < ((ys.length : Nat) : Int) := by omega
      have c1 := hat i hi
      have c2 := hat2 i (by omega)
      rw [drop_same 0 hxy hi] at e
      rw [succA_balerplain_Ints]
      by_cases h1 : xs.getD i 0 = ys.getD i 0
      · have n1 : (xs.getD i 0 != ys.getD i 0) = false := by rw [h1]; simp
        rw [decide_eq_true h1, Bool.true_and] at e
        try simp (disch := first | omega | assumption | exact one_int _ _ | exact one_slice _ _ _ | exact one_ptr _ | exact one_bool _ | exact one_string _) only [RXA, RXB, Nat.reduceAdd, Nat.reduceLT, wrap_id, wrap_succ, wrap_pred, FX1, e1, e2, hg, hg2, c1, c2, n1]
        exact next () _ _ ⟨⟨rfl, rfl⟩, e⟩
      · have n1 : (xs.getD i 0 != ys.getD i 0) = true := bne_iff_ne.2 h1
        rw [decide_eq_false h1, Bool.false_and] at e
        rw [e]
        try simp (disch := first | omega | assumption | exact one_int _ _ | exact one_slice _ _ _ | exact one_ptr _ | exact one_bool _ | exact one_string _) only [RXA, RXB, Nat.reduceAdd, Nat.reduceLT, wrap_id, wrap_succ, wrap_pred, FX1, e1, e2, hg, hg2, c1, c2, n1]
        rw [kcAa_balerplain_Ints]
        try simp (disch := first | omega | assumption | exact one_int _ _ | exact one_slice _ _ _ | exact one_ptr _ | exact one_bool _ | exact one_string _) only [RXA, RXB, Nat.reduceAdd, Nat.reduceLT, wrap_id, wrap_succ, wrap_pred, FX1]
  · have n1 : (((xs.length : Nat) : Int) != ((ys.length : Nat) : Int)) = true := by simp; omega
    rw [decide_eq_false (fun q => hxy (by rw [q]))]
    try simp (disch := first | omega | assumption | exact one_int _ _ | exact one_slice _ _ _ | exact one_ptr _ | exact one_bool _ | exact one_string _) only [RXA, RXB, Nat.reduceAdd, Nat.reduceLT, wrap_id, wrap_succ, wrap_pred, FX1, n1]
theorem s_Same1 (v u : Value) (xs ys : List Int) (hR : Row h n 3 .i64 v xs) (hS : Row h n 3 .i64 u ys) (hl : xs.length < lf) (hm : xs.length ≤ 9223372036854775807) :
    Run (fun _ => False) n (evCall2 Tryd.prog gt lf (d + 2) 43 #[v, u]) h n fun v' h' n' => v' = .bool (decide (xs = ys)) ∧ h' = h ∧ n' = n := by
  rw [sh_tables_Same_1]
  refine Run.inside_ ?_
  unfold b_tables_Same_1
  refine run_same (s_Equal lf d n h v u xs ys hR hS hl hm) (Nat.le_refl _) (fun _ _ h => h.elim) ?_
  try simp (disch := first | omega | assumption | exact one_int _ _ | exact one_slice _ _ _ | exact one_ptr _ | exact one_bool _ | exact one_string _) only [RXA, RXB, Nat.reduceAdd, Nat.reduceLT, wrap_id, wrap_succ, wrap_pred, FX1]
theorem callS {β : Type} {rec : FuncId → Array Value → M Value} (a b : Value) (k : Value → M β) : callV Tryd.prog rec (.func (.func 43) #[] #[]) [a, b] k = (inside (rec 43 #[a, b])).bind k := by
  unfold callV
  show optK (some _) _ = _
  rw [optK_some_eq]
  simp only [show hasBody Tryd.prog 43 = true by kernel_rfl]
  rfl
theorem s_EqualFunc (v u : Value) (xss yss : List (List Int)) (hR : RR h n 22 3 v xss) (hS : RR h n 22 3 u yss) (hl : xss.length < lf) (hm : xss.length ≤ 9223372036854775807) (hi2 : ∀ xs ∈ xss, xs.length < lf ∧ xs.length ≤ 9223372036854775807) :
    Run (fun _ => False) n (evCall2 Tryd.prog gt lf (d + 3) 42 #[v, u, .func (.func 43) #[] #[]]) h n fun v' h' n' => v' = .bool (decide (xss = yss)) ∧ h' = h ∧ n' = n := by
  rw [sh_slices_EqualFunc_int_int_int_int]
  refine Run.inside_ ?_
  unfold b_slices_EqualFunc_int_int_int_int
  have hR0 := hR
  have hS0 := hS
  obtain ⟨a, c, rfl⟩ := hR.len
  obtain ⟨a2, c2, rfl⟩ := hS.len
  by_cases hxy : xss.length = yss.length
  · have n1 : (((xss.length : Nat) : Int) != ((yss.length : Nat) : Int)) = false := by rw [hxy]; simp
    try simp (disch := first | omega | assumption | exact one_int _ _ | exact one_slice _ _ _ | exact one_ptr _ | exact one_bool _ | exact one_string _) only [RXA, RXB, Nat.reduceAdd, Nat.reduceLT, wrap_id, wrap_succ, wrap_pred, FX1, n1]
    refine run_for xss.length (fun fu i (_ : Unit) => lpA_slices_EqualFunc_int_int_int_int lf (d + 2) fu (kcA_slices_EqualFunc_int_int_int_int lf (d + 2)) (.slice a xss.length c) (.slice a2 yss.length c2) (.func (.func 43) #[] #[]) _ _ (.slice a xss.length c) (.int .i64 (xss.length : Nat)) (.int .i64 (i : Nat))) (fun i _ h' n' => (h' = h ∧ n' = n) ∧ decide (xss = yss) = decide (xss.drop i = yss.drop i)) ?_ ?_ lf 0 () h n (Nat.zero_le _) (by omega) ⟨⟨rfl, rfl⟩, rfl⟩
    · rintro fu _ h' n' ⟨⟨rfl, rfl⟩, e⟩
      rw [succA_slices_EqualFunc_int_int_int_int, e, drop_all hxy]
      try simp (disch := first | omega | assumption | exact one_int _ _ | exact one_slice _ _ _ | exact one_ptr _ | exact one_bool _ | exact one_string _) only [RXA, RXB, Nat.reduceAdd, Nat.reduceLT, wrap_id, wrap_succ, wrap_pred, FX1, Int.lt_irrefl]
      rw [kcAb_slices_EqualFunc_int_int_int_int]
      try simp (disch := first | omega | assumption | exact one_int _ _ | exact one_slice _ _ _ | exact one_ptr _ | exact one_bool _ | exact one_string _) only [RXA, RXB, Nat.reduceAdd, Nat.reduceLT, wrap_id, wrap_succ, wrap_pred, FX1]
    · rintro fu i _ h' n' hi ⟨⟨rfl, rfl⟩, e⟩ next
      obtain ⟨b, off, cap, o, cs, hv, hg, hb, hat⟩ := hR0.at (by omega)
      cases hv
      obtain ⟨b2, off2, cap2, o2, cs2, hv2, hg2, hb2, hat2⟩ := hS0.at (by omega)
      cases hv2
      have e1 : ((i : Nat) : Int) < ((xss.length : Nat) : Int) := by omega
      have e2 : ((i : Nat) : Int) < ((yss.length : Nat) : Int) := by omega
      obtain ⟨p, c1, r1⟩ := hat i hi
      obtain ⟨q, c2, r2⟩ := hat2 i (by omega)
      have hm : xss.getD i [] ∈ xss := by rw [List.getD_eq_getElem?_getD, List.getElem?_eq_getElem hi]; exact List.getElem_mem hi
      obtain ⟨l1, l2⟩ := hi2 _ hm
      rw [drop_same [] hxy hi] at e
      rw [succA_slices_EqualFunc_int_int_int_int]
      try simp (disch := first | omega | assumption | exact one_int _ _ | exact one_slice _ _ _ | exact one_ptr _ | exact one_bool _ | exact one_string _) only [RXA, RXB, Nat.reduceAdd, Nat.reduceLT, wrap_id, wrap_succ, wrap_pred, FX1, e1, e2, hg, hg2, c1, c2, callS]
      refine run_same (s_Same1 lf d _ h' p q _ _ r1 r2 l1 l2) (Nat.le_refl _) (fun _ _ h => h.elim) ?_
      by_cases h1 : xss.getD i [] = yss.getD i []
      · rw [decide_eq_true h1, Bool.true_and] at e
        rw [decide_eq_true h1]
        try simp (disch := first | omega | assumption | exact one_int _ _ | exact one_slice _ _ _ | exact one_ptr _ | exact one_bool _ | exact one_string _) only [RXA, RXB, Nat.reduceAdd, Nat.reduceLT, wrap_id, wrap_succ, wrap_pred, FX1, Bool.not_true]
        exact next () _ _ ⟨⟨rfl, rfl⟩, e⟩
      · rw [decide_eq_false h1, Bool.false_and] at e
        rw [decide_eq_false h1, e]
        try simp (disch := first | omega | assumption | exact one_int _ _ | exact one_slice _ _ _ | exact one_ptr _ | exact one_bool _ | exact one_string _) only [RXA, RXB, Nat.reduceAdd, Nat.reduceLT, wrap_id, wrap_succ, wrap_pred, FX1, Bool.not_false]
        rw [kcAa_slices_EqualFunc_int_int_int_int]
        try simp (disch := first | omega | assumption | exact one_int _ _ | exact one_slice _ _ _ | exact one_ptr _ | exact one_bool _ | exact one_string _) only [RXA, RXB, Nat.reduceAdd, Nat.reduceLT, wrap_id, wrap_succ, wrap_pred, FX1]
  · have n1 : (((xss.length : Nat) : Int) != ((yss.length : Nat) : Int)) = true := by simp; omega
    rw [decide_eq_false (fun q => hxy (by rw [q]))]
    try simp (disch := first | omega | assumption | exact one_int _ _ | exact one_slice _ _ _ | exact one_ptr _ | exact one_bool _ | exact one_string _) only [RXA, RXB, Nat.reduceAdd, Nat.reduceLT, wrap_id, wrap_succ, wrap_pred, FX1, n1]
theorem r_Rows (v u : Value) (xss yss : List (List Int)) (hR : RR h n 22 3 v xss) (hS : RR h n 22 3 u yss) (hl : xss.length < lf) (hm : xss.length ≤ 9223372036854775807) (hi2 : ∀ xs ∈ xss, xs.length < lf ∧ xs.length ≤ 9223372036854775807) :
    Run (fun _ => False) n (evCall2 Tryd.prog gt lf (d + 2) 22 #[v, u]) h n fun v' h' n' => v' = .bool (decide (xss = yss)) ∧ h' = h ∧ n' = n := by
  rw [sh_balerplain_Rows]
  refine Run.inside_ ?_
  unfold b_balerplain_Rows
  have hR0 := hR
  have hS0 := hS
  obtain ⟨a, c, rfl⟩ := hR.len
  obtain ⟨a2, c2, rfl⟩ := hS.len
  by_cases hxy : xss.length = yss.length
  · have n1 : (((xss.length : Nat) : Int) != ((yss.length : Nat) : Int)) = false := by rw [hxy]; simp
    try simp (disch := first | omega | assumption | exact one_int _ _ | exact one_slice _ _ _ | exact one_ptr _ | exact one_bool _ | exact one_string _) only [RXA, RXB, Nat.reduceAdd, Nat.reduceLT, wrap_id, wrap_succ, wrap_pred, FX1, n1]
    refine run_for xss.length (fun fu i (_ : Unit) => lpA_balerplain_Rows lf (d + 1) fu (kcA_balerplain_Rows lf (d + 1)) (.slice a xss.length c) (.slice a2 yss.length c2) _ _ (.int .i64 (xss.length : Nat)) (.int .i64 (i : Nat))) (fun i _ h' n' => (h' = h ∧ n' = n) ∧ decide (xss = yss) = decide (xss.drop i = yss.drop i)) ?_ ?_ lf 0 () h n (Nat.zero_le _) (by omega) ⟨⟨rfl, rfl⟩, rfl⟩
    · rintro fu _ h' n' ⟨⟨rfl, rfl⟩, e⟩
      rw [succA_balerplain_Rows, e, drop_all hxy]
      try simp (disch := first | omega | assumption | exact one_int _ _ | exact one_slice _ _ _ | exact one_ptr _ | exact one_bool _ | exact one_string _) only [RXA, RXB, Nat.reduceAdd, Nat.reduceLT, wrap_id, wrap_succ, wrap_pred, FX1, Int.lt_irrefl]
      rw [kcAb_balerplain_Rows]
      try simp (disch := first | omega | assumption | exact one_int _ _ | exact one_slice _ _ _ | exact one_ptr _ | exact one_bool _ | exact one_string _) only [RXA, RXB, Nat.reduceAdd, Nat.reduceLT, wrap_id, wrap_succ, wrap_pred, FX1]
    · rintro fu i _ h' n' hi ⟨⟨rfl, rfl⟩, e⟩ next
      obtain ⟨b, off, cap, o, cs, hv, hg, hb, hat⟩ := hR0.at (by omega)
      cases hv
      obtain ⟨b2, off2, cap2, o2, cs2, hv2, hg2, hb2, hat2⟩ := hS0.at (by omega)
      cases hv2
      have e1 : ((i : Nat) : Int) < ((xss.length : Nat) : Int) := by omega
      have e2 : ((i : Nat) : Int) < ((yss.length : Nat) : Int) := by omega
      obtain ⟨p, c1, r1⟩ := hat i hi
      obtain ⟨q, c2, r2⟩ := hat2 i (by omega)
      have hm : xss.getD i [] ∈ xss := by rw [List.getD_eq_getElem?_getD, List.getElem?_eq_getElem hi]; exact List.getElem_mem hi
      obtain ⟨l1, l2⟩ := hi2 _ hm
      rw [drop_same [] hxy hi] at e
      rw [succA_balerplain_Rows]
      try simp (disch := first | omega | assumption | exact one_int _ _ | exact one_slice _ _ _ | exact one_ptr _ | exact one_bool _ | exact one_string _) only [RXA, RXB, Nat.reduceAdd, Nat.reduceLT, wrap_id, wrap_succ, wrap_pred, FX1, e1, e2, hg, hg2, c1, c2]
      refine run_same (r_Ints lf d _ h' p q _ _ r1 r2 l1 l2) (Nat.le_refl _) (fun _ _ h => h.elim) ?_
      by_cases h1 : xss.getD i [] = yss.getD i []
      · rw [decide_eq_true h1, Bool.true_and] at e
        rw [decide_eq_true h1]
        try simp (disch := first | omega | assumption | exact one_int _ _ | exact one_slice _ _ _ | exact one_ptr _ | exact one_bool _ | exact one_string _) only [RXA, RXB, Nat.reduceAdd, Nat.reduceLT, wrap_id, wrap_succ, wrap_pred, FX1, Bool.not_true]
        exact next () _ _ ⟨⟨rfl, rfl⟩, e⟩
      · rw [decide_eq_false h1, Bool.false_and] at e
        rw [decide_eq_false h1, e]
        try simp (disch := first | omega | assumption | exact one_int _ _ | exact one_slice _ _ _ | exact one_ptr _ | exact one_bool _ | exact one_string _) only [RXA, RXB, Nat.reduceAdd, Nat.reduceLT, wrap_id, wrap_succ, wrap_pred, FX1, Bool.not_false]
        rw [kcAa_balerplain_Rows]
        try simp (disch := first | omega | assumption | exact one_int _ _ | exact one_slice _ _ _ | exact one_ptr _ | exact one_bool _ | exact one_string _) only [RXA, RXB, Nat.reduceAdd, Nat.reduceLT, wrap_id, wrap_succ, wrap_pred, FX1]
  · have n1 : (((xss.length : Nat) : Int) != ((yss.length : Nat) : Int)) = true := by simp; omega
    rw [decide_eq_false (fun q => hxy (by rw [q]))]
    try simp (disch := first | omega | assumption | exact one_int _ _ | exact one_slice _ _ _ | exact one_ptr _ | exact one_bool _ | exact one_string _) only [RXA, RXB, Nat.reduceAdd, Nat.reduceLT, wrap_id, wrap_succ, wrap_pred, FX1, n1]
/-- a choice: its tables and its picks -/
structure Choi (h : H) (n : Nat) (v : Value) (L : List (List Int)) (K : List Int) : Prop where
  ex : ∃ x y, v = .agg #[x, y] ∧ RR h n 22 3 x L ∧ Row h n 3 .i64 y K
theorem Choi.keep {h h' : H} {n n' : Nat} {v : Value} {L : List (List Int)} {K : List Int} (x : Choi h n v L K) (hn : n ≤ n') (hk : ∀ b, b < n → h'.get b = h.get b) : Choi h' n' v L K := by
  obtain ⟨x, y, hv, h1, h2⟩ := x.ex
  exact ⟨x, y, hv, h1.keep hn hk, h2.keep hn hk⟩
def ShortL (lf : Nat) (L : List (List Int)) : Prop := (L.length < lf ∧ L.length ≤ 9223372036854775807) ∧ ∀ xs ∈ L, xs.length < lf ∧ xs.length ≤ 9223372036854775807
theorem s_Same (v u : Value) (L L2 : List (List Int)) (K K2 : List Int) (hv : Choi h n v L K) (hu : Choi h n u L2 K2) (hL : ShortL lf L) (hK : K.length < lf ∧ K.length ≤ 9223372036854775807) :
    Run (fun _ => False) n (evCall2 Tryd.prog gt lf (d + 4) 24 #[v, u]) h n fun v' h' n' => v' = .bool (decide (K = K2) && decide (L = L2)) := by
  obtain ⟨x, y, rfl, hx, hy⟩ := hv.ex
  obtain ⟨x2, y2, rfl, hx2, hy2⟩ := hu.ex
  rw [sh_tables_Same]
  refine Run.inside_ ?_
  unfold b_tables_Same
  refine run_box sz25 _ _ ?_
  refine run_box sz25 _ _ ?_
  have cl : ∀ {x y : Value} {L : List (List Int)} {K : List Int} {h : H} {n : Nat}, RR h n 22 3 x L → Row h n 3 .i64 y K → (Value.agg #[x, y]).cells.toList = [x, y] := fun hx hy => by
    obtain ⟨_, _, rfl⟩ := hx.len
    obtain ⟨_, _, rfl⟩ := hy.len
    rfl
  rw [cl hx hy, cl hx2 hy2]
  obtain ⟨h2, hh2⟩ : ∃ h2, (h.set n (some ⟨25, true, [x, y]⟩)).set (n + 1) (some ⟨25, true, [x2, y2]⟩) = h2 := ⟨_, rfl⟩
  have g1 : h2.get n = some ⟨25, true, [x, y]⟩ := by rw [← hh2, get_ne _ _ (by omega), get_eq]
  have g2 : h2.get (n + 1) = some ⟨25, true, [x2, y2]⟩ := by rw [← hh2, get_eq]
  have hk : ∀ b, b < n → h2.get b = h.get b := fun b hb => by rw [← hh2, get_ne _ _ (by omega), get_ne _ _ (by omega)]
  rw [hh2]
  have l1 : n < n + 1 + 1 := by omega
  have l2 : n + 1 < n + 1 + 1 := by omega
  try simp (disch := first | omega | assumption | exact one_int _ _ | exact one_slice _ _ _ | exact one_ptr _ | exact one_bool _ | exact one_string _) only [RXA, RXB, Nat.reduceAdd, Nat.reduceLT, wrap_id, wrap_succ, wrap_pred, FX1, g1, g2]
  refine run_same (s_Equal lf (d + 2) _ h2 y y2 K K2 (hy.keep (by omega) hk) (hy2.keep (by omega) hk) hK.1 hK.2) (by omega) (fun _ _ h => h.elim) ?_
  by_cases e : K = K2
  · rw [decide_eq_true e]
    try simp (disch := first | omega | assumption | exact one_int _ _ | exact one_slice _ _ _ | exact one_ptr _ | exact one_bool _ | exact one_string _) only [RXA, RXB, Nat.reduceAdd, Nat.reduceLT, wrap_id, wrap_succ, wrap_pred, FX1, g1, g2]
    refine run_same (s_EqualFunc lf d _ h2 x x2 L L2 (hx.keep (by omega) hk) (hx2.keep (by omega) hk) hL.1.1 hL.1.2 hL.2) (by omega) (fun _ _ h => h.elim) ?_
    try simp (disch := first | omega | assumption | exact one_int _ _ | exact one_slice _ _ _ | exact one_ptr _ | exact one_bool _ | exact one_string _) only [RXA, RXB, Nat.reduceAdd, Nat.reduceLT, wrap_id, wrap_succ, wrap_pred, FX1, Bool.true_and]
  · rw [decide_eq_false e]
    try simp (disch := first | omega | assumption | exact one_int _ _ | exact one_slice _ _ _ | exact one_ptr _ | exact one_bool _ | exact one_string _) only [RXA, RXB, Nat.reduceAdd, Nat.reduceLT, wrap_id, wrap_succ, wrap_pred, FX1, Bool.false_and]
theorem r_Same (v u : Value) (L L2 : List (List Int)) (K K2 : List Int) (hv : Choi h n v L K) (hu : Choi h n u L2 K2) (hL : ShortL lf L) (hK : K.length < lf ∧ K.length ≤ 9223372036854775807) :
    Run (fun _ => False) n (evCall2 Tryd.prog gt lf (d + 3) 25 #[v, u]) h n fun v' h' n' => v' = .bool (decide (K = K2) && decide (L = L2)) := by
  obtain ⟨x, y, rfl, hx, hy⟩ := hv.ex
  obtain ⟨x2, y2, rfl, hx2, hy2⟩ := hu.ex
  rw [sh_balerref12_Same]
  refine Run.inside_ ?_
  unfold b_balerref12_Same
  refine run_box sz47 _ _ ?_
  refine run_box sz47 _ _ ?_
  have cl : ∀ {x y : Value} {L : List (List Int)} {K : List Int} {h : H} {n : Nat}, RR h n 22 3 x L → Row h n 3 .i64 y K → (Value.agg #[x, y]).cells.toList = [x, y] := fun hx hy => by
    obtain ⟨_, _, rfl⟩ := hx.len
    obtain ⟨_, _, rfl⟩ := hy.len
    rfl
  rw [cl hx hy, cl hx2 hy2]
  obtain ⟨h2, hh2⟩ : ∃ h2, (h.set n (some ⟨47, true, [x, y]⟩)).set (n + 1) (some ⟨47, true, [x2, y2]⟩) = h2 := ⟨_, rfl⟩
  have g1 : h2.get n = some ⟨47, true, [x, y]⟩ := by rw [← hh2, get_ne _ _ (by omega), get_eq]
  have g2 : h2.get (n + 1) = some ⟨47, true, [x2, y2]⟩ := by rw [← hh2, get_eq]
  have hk : ∀ b, b < n → h2.get b = h.get b := fun b hb => by rw [← hh2, get_ne _ _ (by omega), get_ne _ _ (by omega)]
  rw [hh2]
  have l1 : n < n + 1 + 1 := by omega
  have l2 : n + 1 < n + 1 + 1 := by omega
  try simp (disch := first | omega | assumption | exact one_int _ _ | exact one_slice _ _ _ | exact one_ptr _ | exact one_bool _ | exact one_string _) only [RXA, RXB, Nat.reduceAdd, Nat.reduceLT, wrap_id, wrap_succ, wrap_pred, FX1, g1, g2]
  refine run_same (r_Ints lf (d + 1) _ h2 y y2 K K2 (hy.keep (by omega) hk) (hy2.keep (by omega) hk) hK.1 hK.2) (by omega) (fun _ _ h => h.elim) ?_
  by_cases e : K = K2
  · rw [decide_eq_true e]
    try simp (disch := first | omega | assumption | exact one_int _ _ | exact one_slice _ _ _ | exact one_ptr _ | exact one_bool _ | exact one_string _) only [RXA, RXB, Nat.reduceAdd, Nat.reduceLT, wrap_id, wrap_succ, wrap_pred, FX1, g1, g2]
    refine run_same (r_Rows lf d _ h2 x x2 L L2 (hx.keep (by omega) hk) (hx2.keep (by omega) hk) hL.1.1 hL.1.2 hL.2) (by omega) (fun _ _ h => h.elim) ?_
    try simp (disch := first | omega | assumption | exact one_int _ _ | exact one_slice _ _ _ | exact one_ptr _ | exact one_bool _ | exact one_string _) only [RXA, RXB, Nat.reduceAdd, Nat.reduceLT, wrap_id, wrap_succ, wrap_pred, FX1, Bool.true_and]
  · rw [decide_eq_false e]
    try simp (disch := first | omega | assumption | exact one_int _ _ | exact one_slice _ _ _ | exact one_ptr _ | exact one_bool _ | exact one_string _) only [RXA, RXB, Nat.reduceAdd, Nat.reduceLT, wrap_id, wrap_succ, wrap_pred, FX1, Bool.false_and]
end
end Go.Proofs.YtdagfcflbphoiaaDoor
/- Arguments opened: rows of numbers, rows of rows. No program in sight. -/
namespace Go.Proofs.YtdagfcflbphoiaaDoor.Ev
set_option linter.unusedVariables false
set_option linter.unusedSimpArgs false
open Go Go.RowKit
section
variable {P : Program} {h : H} {n f : Nat} {t e : TypeId} {v : Value}
theorem rep_cells1 (hu : P.underlying t = some (.slice e)) (hce : cellTs P 8 e = some [e]) (x : RepH1 P h n (f + 1) t v) : ∃ cs, VRow h n e v cs ∧ cs.length ≤ maxLen ∧ ∀ c ∈ cs, RepH1 P h n f e c := by
  unfold RepH1 at x
  rw [hu] at x
  rcases x with ⟨a, rfl, hne⟩ | ⟨b, len, ts, cs, rfl, ht, h0, hg, hb, hl, hm, hall⟩
  · exact ⟨[], .inl ⟨a, 0, rfl, hne, rfl⟩, Nat.zero_le _, fun c hc => by cases hc⟩
  · rw [hce] at ht
    cases ht
    have hl : cs.length = len := by simpa using hl
    refine ⟨cs, .inr ⟨b, 0, CAP + len, false, cs, by rw [hl], hg, hb, by omega, by rw [List.drop_zero, List.take_length], by omega⟩, by omega, fun c hc => ?_⟩
    obtain ⟨i, hi, rfl⟩ := List.mem_iff_getElem.1 hc
    have q := hall i (by omega)
    have e1 : (cs.drop (i * [e].length)).take [e].length = [cs[i]] := by
      simp only [List.length_cons, List.length_nil, Nat.zero_add, Nat.mul_one]
      rw [List.drop_eq_getElem_cons hi, List.take_succ_cons, List.take_zero]
    rw [e1] at q
    exact q.1
theorem VRow.row {k : IntKind} {xs : List Int} (r : VRow h n e v (intsV k xs)) : Row h n e k v xs := by
  rcases r with ⟨a, c, rfl, hne, hx⟩ | ⟨b, off, cap, o, ks, hv, hg, hb, hl, ht, hc⟩
  · exact .inl ⟨a, c, rfl, hne, by unfold intsV at hx; simpa using hx⟩
  · rw [intsV_len] at hv hl ht hc
    exact .inr ⟨b, off, cap, o, ks, hv, hg, hb, hl, ht, hc⟩
theorem list_choose {α β : Type} {R : α → β → Prop} (da : α) (d : β) : ∀ {l : List α}, (∀ a ∈ l, ∃ b, R a b) → ∃ m : List β, m.length = l.length ∧ ∀ i, i < l.length → R (l.getD i da) (m.getD i d)
  | [], _ => ⟨[], rfl, fun i hi => absurd hi (Nat.not_lt_zero i)⟩
  | a :: l, hl => by
    obtain ⟨b, hb⟩ := hl a List.mem_cons_self
    obtain ⟨m, h1, h2⟩ := list_choose da d (l := l) fun x hx => hl x (List.mem_cons_of_mem _ hx)
    refine ⟨b :: m, by simp [h1], fun i hi => ?_⟩
    cases i with
    | zero => exact hb
    | succ i => exact h2 i (by simpa using hi)
theorem rep_row {k : IntKind} (hu : P.underlying t = some (.slice e)) (hce : cellTs P 8 e = some [e]) (he : P.underlying e = some (.int k)) (x : RepH1 P h n (f + 2) t v) : ∃ xs, Row h n e k v xs ∧ xs.length ≤ maxLen ∧ ∀ y ∈ xs, (Lit.int k y).wf = true := by
  obtain ⟨cs, r, hm, hc⟩ := rep_cells1 hu hce x
  obtain ⟨xs, hl, hx⟩ := list_choose (R := fun c (y : Int) => c = .int k y ∧ (Lit.int k y).wf = true) undef 0 fun c q => rep_int he (hc c q)
  have e1 : cs = intsV k xs := by
    apply List.ext_getElem
    · rw [intsV_len, hl]
    · intro i h1 h2
      have := (hx i h1).1
      rw [List.getD_eq_getElem?_getD, List.getElem?_eq_getElem h1] at this
      have h3 := intsV_at (k := k) (xs := xs) (i := i) (by omega)
      rw [List.getElem?_eq_getElem h2] at h3
      rw [Option.some.inj h3]
      exact this
  rw [e1] at r
  refine ⟨xs, r.row, by omega, fun y hy => ?_⟩
  obtain ⟨i, hi, rfl⟩ := List.mem_iff_getElem.1 hy
  have := (hx i (by omega)).2
  rw [List.getD_eq_getElem?_getD, List.getElem?_eq_getElem hi] at this
  exact this
end
section
variable {β : Type} {W : Nat → Prop} {n0 : Nat} {h : H} {n m : Nat} {Q : β → H → Nat → Prop} {P : Program}
end
end Go.Proofs.YtdagfcflbphoiaaDoor.Ev
/- The statements TablesOf and TablesSame. -/
namespace Go.Proofs.YtdagfcflbphoiaaDoor
set_option linter.unusedVariables false
set_option linter.unusedSimpArgs false
open Go.RowKit Ev Tb

theorem the_law' {f : FuncId} {ts : List TypeId} {vs : List Value} {w : World} {lf d : Nat} (hw : Ev.GlobAt w) (ha : All2 (ArgR Tryd.prog w) ts vs) (r : ∀ n h vs0, Gd h n → All2 (ArgH Tryd.prog h n) ts vs0 → Run (fun _ => False) n (evCall2 Tryd.prog gt lf d f vs0.toArray) h n fun v _ _ => v = .bool true) :
    Calls Tryd.prog f vs.toArray w fun e w' => e = .returned (.bool true) ∧ Below w.heap.size w w' := by
  obtain ⟨m, x⟩ := laid_hG hw
  exact Ev.law_of ev_names ev_progK ev_mix known okd ha x fun n h vs0 hn hg q => r n h vs0 (Gd.of hn (by rw [hg _ (by decide +kernel)]; exact get_eq _ _ _)) q
theorem ct_ints : cellTs Tryd.prog 8 22 = some [22] := by kernel_rfl
theorem ct_int : cellTs Tryd.prog 8 3 = some [3] := by kernel_rfl
theorem ag_ints : isAggT Tryd.prog 22 = false := by kernel_rfl
theorem ag_int : isAggT Tryd.prog 3 = false := by kernel_rfl
theorem a_row {h : H} {n : Nat} {v : Value} (x : ArgH Tryd.prog h n 22 v) : ∃ xs, Row h n 3 .i64 v xs ∧ xs.length ≤ 9223372036854775807 ∧ ∀ y ∈ xs, -9223372036854775808 ≤ y ∧ y ≤ 9223372036854775807 := by
  obtain ⟨xs, h1, h2, h3⟩ := rep_row (f := 6) Tryd.underlying22 ct_int Tryd.underlying3 (argH_cell ct_ints ag_ints x)
  exact ⟨xs, h1, h2, fun y hy => wf64 (h3 y hy)⟩
theorem a_num {h : H} {n : Nat} {v : Value} (x : ArgH Tryd.prog h n 3 v) : ∃ i, v = .int .i64 i ∧ -9223372036854775808 ≤ i ∧ i ≤ 9223372036854775807 := by
  obtain ⟨i, h1, h2⟩ := rep_int (f := 7) Tryd.underlying3 (argH_cell ct_int ag_int x)
  exact ⟨i, h1, wf64 h2⟩
theorem Choi.agg {h : H} {n : Nat} {v : Value} {L : List (List Int)} {K : List Int} (x : Choi h n v L K) : ∃ a c a2 c2, v = .agg #[.slice a L.length c, .slice a2 K.length c2] ∧ RR h n 22 3 (.slice a L.length c) L ∧ Row h n 3 .i64 (.slice a2 K.length c2) K := by
  obtain ⟨x, y, rfl, h1, h2⟩ := x.ex
  have h10 := h1
  have h20 := h2
  obtain ⟨a, c, rfl⟩ := h1.len
  obtain ⟨a2, c2, rfl⟩ := h2.len
  exact ⟨a, c, a2, c2, rfl, h10, h20⟩
section
variable (lf d n : Nat) (h : H)
/-- the reference's form of a choice -/
theorem s_ref (v : Value) (L : List (List Int)) (K : List Int) (x : Choi h n v L K) : Run (fun _ => False) n (evCall2 Tryd.prog gt lf (d + 1) 26 #[v]) h n fun v' h' n' => v' = v := by
  obtain ⟨a, c, a2, c2, rfl, _, _⟩ := x.agg
  rw [sh_balerlaw12_ref]
  refine Run.inside_ ?_
  unfold b_balerlaw12_ref
  refine run_box sz25 _ _ ?_
  refine run_alloc zr47 _ ?_
  have g1 : ((h.set n (some ⟨25, true, (Value.agg #[.slice a L.length c, .slice a2 K.length c2]).cells.toList⟩)).set (n + 1) (some ⟨47, true, (Value.agg #[Value.slice none 0 0, Value.slice none 0 0]).cells.toList⟩)).get n = some ⟨25, true, [.slice a L.length c, .slice a2 K.length c2]⟩ := by rw [get_ne _ _ (by omega), get_eq]; rfl
  have l1 : n < n + 1 + 1 := by omega
  try simp (disch := first | omega | assumption | exact one_int _ _ | exact one_slice _ _ _ | exact one_ptr _ | exact one_bool _ | exact one_string _) only [RXA, RXB, Nat.reduceAdd, Nat.reduceLT, wrap_id, wrap_succ, wrap_pred, FX1, g1]
  refine run_sta (cs := [.slice none 0 0, .slice none 0 0]) sz47 (vs := [.slice a L.length c, .slice a2 K.length c2]) rfl rfl rfl (get_eq _ _ _) (by omega) (Nat.le_refl _) (.inl (by omega)) _ fun h5 hg5 k5 => ?_
  refine run_lda0 aga47 sz47 _ _ _ hg5 (by omega) (by simp) ?_
  try simp (disch := first | omega | assumption | exact one_int _ _ | exact one_slice _ _ _ | exact one_ptr _ | exact one_bool _ | exact one_string _) only [RXA, RXB, Nat.reduceAdd, Nat.reduceLT, wrap_id, wrap_succ, wrap_pred, FX1]
  rfl
variable (hlf : 3000000 ≤ lf) (hd : 700 ≤ d)
include hlf hd
theorem law_TOf (v : Value) (xs : List Int) (z : Int) (g : Gd h n) (hR : Row h n 3 .i64 v xs) (hL : xs.length ≤ 9223372036854775807) :
    Run (fun _ => False) n (evCall2 Tryd.prog gt lf d 6 #[v, .int .i64 z]) h n fun v' _ _ => v' = .bool true := by
  obtain ⟨d, rfl⟩ : ∃ e, d = e + 8 := ⟨d - 8, by omega⟩
  rw [sh_balerlaw12_TablesOf]
  refine Run.inside_ ?_
  unfold b_balerlaw12_TablesOf
  have hR0 := hR
  obtain ⟨a, c, rfl⟩ := hR.len
  by_cases c1 : 320 < xs.length
  · have e1 : (320 : Int) < ((xs.length : Nat) : Int) := by omega
    try simp (disch := first | omega | assumption | exact one_int _ _ | exact one_slice _ _ _ | exact one_ptr _ | exact one_bool _ | exact one_string _) only [RXA, RXB, Nat.reduceAdd, Nat.reduceLT, wrap_id, wrap_succ, wrap_pred, FX1, e1]
    exact run_three (Nat.le_refl n) g
  have e1 : ¬ (320 : Int) < ((xs.length : Nat) : Int) := by omega
  -- what follows
  by_cases c2 : 40 < z ∧ z ≤ 258
  · obtain ⟨e2, e3⟩ := c2
    try simp (disch := first | omega | assumption | exact one_int _ _ | exact one_slice _ _ _ | exact one_ptr _ | exact one_bool _ | exact one_string _) only [RXA, RXB, Nat.reduceAdd, Nat.reduceLT, wrap_id, wrap_succ, wrap_pred, FX1, e1, e2, e3]
    exact run_three (Nat.le_refl n) g
  have z1 : ((1 : Int) == 1) = true := rfl
  have z0 : ((0 : Int) == 0) = true := rfl
  by_cases ok : 3 ≤ z ∧ z ≤ 258 ∧ xs ≠ [] ∧ inB z xs = true
  · obtain ⟨h3, h258, hne, hin⟩ := ok
    obtain ⟨s, rfl⟩ : ∃ s : Nat, z = (s : Int) := ⟨z.toNat, by omega⟩
    have e2 : ¬ (40 : Int) < (s : Int) := by omega
    have hx0 : 0 < xs.length := List.length_pos_iff.2 hne
    have z3 : (((xs.length : Nat) : Int) == 0) = false := beq_eq_false_iff_ne.2 (by omega)
    try simp (disch := first | omega | assumption | exact one_int _ _ | exact one_slice _ _ _ | exact one_ptr _ | exact one_bool _ | exact one_string _) only [RXA, RXB, Nat.reduceAdd, Nat.reduceLT, wrap_id, wrap_succ, wrap_pred, FX1, e1, e2]
    refine run_call okd (s_TablesOf lf (d + 7) n h hlf _ xs s g hR0 hx0 (by omega) (by omega) (by omega) hin (by omega)) (Nat.le_refl n) (fun _ _ h => h.elim) fun v1 h1 n1 hn1 fr1 hq => ?_
    obtain ⟨x, y, rfl, hx, hy⟩ := hq
    have hR1 := hR0.keep hn1 fun b hb => fr1 b hb id
    have g1 := g.keep hn1 fun b hb => fr1 b hb id
    have hx1 := hx
    have hy1 := hy
    obtain ⟨a1, c1', rfl⟩ := hx.len
    obtain ⟨a2, c2', rfl⟩ := hy.len
    try simp (disch := first | omega | assumption | exact one_int _ _ | exact one_slice _ _ _ | exact one_ptr _ | exact one_bool _ | exact one_string _) only [RXA, RXB, Nat.reduceAdd, Nat.reduceLT, wrap_id, wrap_succ, wrap_pred, FX1, ext0, ext1]
    refine run_alloc zr25 _ ?_
    refine run_sta (cs := [.slice none 0 0, .slice none 0 0]) sz25 (vs := [.slice a1 (tabIt xs s 4).length c1', .slice a2 (picksI (groupsL xs) (tabIt xs s 3)).length c2']) rfl rfl rfl (get_eq _ _ _) (Nat.lt_succ_self n1) (Nat.le_refl _) (.inl (by omega)) _ fun h2 hg2 k2 => ?_
    have k2' : ∀ b, b < n1 → h2.get b = h1.get b := fun b hb => by rw [k2 b (by omega), get_ne _ _ (by omega)]
    have hR2 := hR1.keep (Nat.le_succ n1) k2'
    have g2 := g1.keep (Nat.le_succ n1) k2'
    have hx2 := hx1.keep (Nat.le_succ n1) k2'
    have hy2 := hy1.keep (Nat.le_succ n1) k2'
    try simp (disch := first | omega | assumption | exact one_int _ _ | exact one_slice _ _ _ | exact one_ptr _ | exact one_bool _ | exact one_string _) only [RXA, RXB, Nat.reduceAdd, Nat.reduceLT, wrap_id, wrap_succ, wrap_pred, FX1, z3]
    refine run_same (r_Size lf (d + 6) _ h2 (s : Int)) (by omega) (fun _ _ h => h.elim) ?_
    rw [decide_eq_true (show (3 : Int) ≤ (s : Int) from h3), decide_eq_true (show (s : Int) ≤ 258 from h258)]
    try simp (disch := first | omega | assumption | exact one_int _ _ | exact one_slice _ _ _ | exact one_ptr _ | exact one_bool _ | exact one_string _) only [RXA, RXB, Nat.reduceAdd, Nat.reduceLT, wrap_id, wrap_succ, wrap_pred, FX1, Bool.and_self, Bool.not_true]
    refine run_same (r_Of lf (d + 6) _ h2 hlf _ xs hR2 (by omega) (s : Int)) (by omega) (fun _ _ h => h.elim) ?_
    rw [hin]
    try simp (disch := first | omega | assumption | exact one_int _ _ | exact one_slice _ _ _ | exact one_ptr _ | exact one_bool _ | exact one_string _) only [RXA, RXB, Nat.reduceAdd, Nat.reduceLT, wrap_id, wrap_succ, wrap_pred, FX1, Bool.not_true, z0]
    refine run_lda aga25 sz25 _ _ _ hg2 (by omega) (by simp) ?_
    have ch2 : Choi h2 (n1 + 1) (.agg #[.slice a1 (tabIt xs s 4).length c1', .slice a2 (picksI (groupsL xs) (tabIt xs s 3)).length c2']) (tabIt xs s 4) (picksI (groupsL xs) (tabIt xs s 3)) := ⟨_, _, rfl, hx2, hy2⟩
    refine run_call okd (s_ref lf (d + 6) _ h2 _ _ _ ch2) (by omega) (fun _ _ h => h.elim) fun v3 h3' n3 hn3 fr3 hq3 => ?_
    subst hq3
    have ch3 := ch2.keep hn3 fun b hb => fr3 b hb id
    refine run_call okd (r_TablesOf lf (d + 7) n3 h3' hlf _ xs s (hR2.keep hn3 fun b hb => fr3 b hb id) hx0 (by omega) (by omega) (by omega) hin (by omega)) (by omega) (fun _ _ h => h.elim) fun v4 h4 n4 hn4 fr4 hq4 => ?_
    obtain ⟨x4, y4, rfl, hx4, hy4⟩ := hq4
    have kl : (picksI (groupsL xs) (tabIt xs s 3)).length ≤ 1000 := by rw [picksI_len, groupsL_len]; unfold grpN; omega
    have tl : (tabIt xs s 4).length ≤ 6 := by rw [tabIt_len]; exact (numL_ge _).2
    have tg := tabIt_good (by omega : xs.length ≤ 1000000) hin (by omega) (by omega) 4
    refine run_bool (b := true) ((r_Same lf (d + 4) n4 h4 _ _ _ _ _ _ (ch3.keep hn4 fun b hb => fr4 b hb id) ⟨_, _, rfl, hx4, hy4⟩ ⟨⟨by omega, by omega⟩, fun l hl => by have := (tg l hl).1; omega⟩ ⟨by omega, by omega⟩).mono fun v' _ _ _ e => by rw [e, decide_eq_true rfl, decide_eq_true rfl]; rfl) (by omega) fun h5 n5 hn5 fr5 => ?_
    try simp (disch := first | omega | assumption | exact one_int _ _ | exact one_slice _ _ _ | exact one_ptr _ | exact one_bool _ | exact one_string _) only [RXA, RXB, Nat.reduceAdd, Nat.reduceLT, wrap_id, wrap_succ, wrap_pred, FX1]
    exact run_three (by omega) (((g2.keep hn3 fun b hb => fr3 b hb id).keep hn4 fun b hb => fr4 b hb id).keep hn5 fr5)
  · have hno : z < 3 ∨ 258 < z ∨ xs = [] ∨ inB z xs = false := by
      by_cases q1 : z < 3
      · exact .inl q1
      by_cases q2 : 258 < z
      · exact .inr (.inl q2)
      by_cases q3 : xs = []
      · exact .inr (.inr (.inl q3))
      · refine .inr (.inr (.inr ?_))
        cases q4 : inB z xs with
        | false => rfl
        | true => exact absurd ⟨by omega, by omega, q3, q4⟩ ok
    -- what is told of the rest
    have tail : ∀ (h2 : H) (n1 : Nat), n ≤ n1 → (∀ b, b < n → h2.get b = h.get b) → h2.get n1 = some ⟨25, true, [.slice none 0 0, .slice none 0 0]⟩ →
        Run (fun _ => False) n ((inside (evLoad Tryd.prog 25 (.pointer (some ⟨n1, 0, none⟩)))).bind fun p => (inside (evCall2 Tryd.prog gt lf (d + 7) 24 #[p, .agg #[.slice none 0 0, .slice none 0 0]])).bind fun b => ifV b ((inside (evCall2 Tryd.prog gt lf (d + 7) 8 #[])).bind fun v => outK [v]) (outK [.bool false])) h2 (n1 + 1) fun v' _ _ => v' = .bool true := by
      intro h2 n1 hn k2 hg2
      refine run_lda aga25 sz25 _ _ _ hg2 (by omega) (by simp) ?_
      have ch : Choi h2 (n1 + 1) (.agg #[.slice none 0 0, .slice none 0 0]) [] [] := ⟨_, _, rfl, ⟨[], .inl ⟨none, 0, rfl, fun _ _ q => (nomatch q), rfl⟩, rfl, fun i hi => absurd hi (Nat.not_lt_zero i)⟩, .inl ⟨none, 0, rfl, fun _ _ q => (nomatch q), rfl⟩⟩
      try simp (disch := first | omega | assumption | exact one_int _ _ | exact one_slice _ _ _ | exact one_ptr _ | exact one_bool _ | exact one_string _) only [RXA, RXB, Nat.reduceAdd, Nat.reduceLT, wrap_id, wrap_succ, wrap_pred, FX1]
      refine run_bool (b := true) ((s_Same lf (d + 3) _ h2 _ _ [] [] [] [] ch ch ⟨⟨by simp; omega, by simp⟩, fun l hl => by cases hl⟩ ⟨by simp; omega, by simp⟩).mono fun v' _ _ _ e => by rw [e]; rfl) (by omega) fun h5 n5 hn5 fr5 => ?_
      try simp (disch := first | omega | assumption | exact one_int _ _ | exact one_slice _ _ _ | exact one_ptr _ | exact one_bool _ | exact one_string _) only [RXA, RXB, Nat.reduceAdd, Nat.reduceLT, wrap_id, wrap_succ, wrap_pred, FX1]
      exact run_three (by omega) ((g.keep (show n ≤ n1 + 1 by omega) k2).keep hn5 fr5)
    have call := s_TablesOf_no lf (d + 7) n h hlf _ xs z hR0 (by omega) hno (by omega)
    by_cases e2 : 40 < z
    · have e3 : ¬ z ≤ 258 := fun q => c2 ⟨e2, q⟩
      try simp (disch := first | omega | assumption | exact one_int _ _ | exact one_slice _ _ _ | exact one_ptr _ | exact one_bool _ | exact one_string _) only [RXA, RXB, Nat.reduceAdd, Nat.reduceLT, wrap_id, wrap_succ, wrap_pred, FX1, e1, e2, e3]
      refine run_call okd call (Nat.le_refl n) (fun _ _ h => h.elim) fun v1 h1 n1 hn1 fr1 hq => ?_
      subst hq
      try simp (disch := first | omega | assumption | exact one_int _ _ | exact one_slice _ _ _ | exact one_ptr _ | exact one_bool _ | exact one_string _) only [RXA, RXB, Nat.reduceAdd, Nat.reduceLT, wrap_id, wrap_succ, wrap_pred, FX1, ext0, ext1]
      refine run_alloc zr25 _ ?_
      refine run_sta (cs := [.slice none 0 0, .slice none 0 0]) sz25 (vs := [.slice none 0 0, .slice none 0 0]) rfl rfl rfl (get_eq _ _ _) (Nat.lt_succ_self n1) (Nat.le_refl _) (.inl (by omega)) _ fun h2 hg2 k2 => ?_
      have k2' : ∀ b, b < n → h2.get b = h.get b := fun b hb => by rw [k2 b (by omega), get_ne _ _ (by omega)]; exact fr1 b hb id
      by_cases q3 : xs = []
      · subst q3
        have z3 : (((0 : Nat) : Int) == 0) = true := rfl
        try simp (disch := first | omega | assumption | exact one_int _ _ | exact one_slice _ _ _ | exact one_ptr _ | exact one_bool _ | exact one_string _) only [RXA, RXB, Nat.reduceAdd, Nat.reduceLT, wrap_id, wrap_succ, wrap_pred, FX1, z3, z1]
        exact tail h2 n1 hn1 k2' hg2
      · have z3 : (((xs.length : Nat) : Int) == 0) = false := beq_eq_false_iff_ne.2 fun q => q3 (List.length_eq_zero_iff.1 (by omega))
        try simp (disch := first | omega | assumption | exact one_int _ _ | exact one_slice _ _ _ | exact one_ptr _ | exact one_bool _ | exact one_string _) only [RXA, RXB, Nat.reduceAdd, Nat.reduceLT, wrap_id, wrap_succ, wrap_pred, FX1, z3]
        refine run_same (r_Size lf (d + 6) _ h2 z) (by omega) (fun _ _ h => h.elim) ?_
        rw [decide_eq_false e3, Bool.and_false]
        try simp (disch := first | omega | assumption | exact one_int _ _ | exact one_slice _ _ _ | exact one_ptr _ | exact one_bool _ | exact one_string _) only [RXA, RXB, Nat.reduceAdd, Nat.reduceLT, wrap_id, wrap_succ, wrap_pred, FX1, Bool.not_false, z1]
        exact tail h2 n1 hn1 k2' hg2
    · try simp (disch := first | omega | assumption | exact one_int _ _ | exact one_slice _ _ _ | exact one_ptr _ | exact one_bool _ | exact one_string _) only [RXA, RXB, Nat.reduceAdd, Nat.reduceLT, wrap_id, wrap_succ, wrap_pred, FX1, e1, e2]
      refine run_call okd call (Nat.le_refl n) (fun _ _ h => h.elim) fun v1 h1 n1 hn1 fr1 hq => ?_
      subst hq
      try simp (disch := first | omega | assumption | exact one_int _ _ | exact one_slice _ _ _ | exact one_ptr _ | exact one_bool _ | exact one_string _) only [RXA, RXB, Nat.reduceAdd, Nat.reduceLT, wrap_id, wrap_succ, wrap_pred, FX1, ext0, ext1]
      refine run_alloc zr25 _ ?_
      refine run_sta (cs := [.slice none 0 0, .slice none 0 0]) sz25 (vs := [.slice none 0 0, .slice none 0 0]) rfl rfl rfl (get_eq _ _ _) (Nat.lt_succ_self n1) (Nat.le_refl _) (.inl (by omega)) _ fun h2 hg2 k2 => ?_
      have k2' : ∀ b, b < n → h2.get b = h.get b := fun b hb => by rw [k2 b (by omega), get_ne _ _ (by omega)]; exact fr1 b hb id
      by_cases q3 : xs = []
      · subst q3
        have z3 : (((0 : Nat) : Int) == 0) = true := rfl
        try simp (disch := first | omega | assumption | exact one_int _ _ | exact one_slice _ _ _ | exact one_ptr _ | exact one_bool _ | exact one_string _) only [RXA, RXB, Nat.reduceAdd, Nat.reduceLT, wrap_id, wrap_succ, wrap_pred, FX1, z3, z1]
        exact tail h2 n1 hn1 k2' hg2
      · have z3 : (((xs.length : Nat) : Int) == 0) = false := beq_eq_false_iff_ne.2 fun q => q3 (List.length_eq_zero_iff.1 (by omega))
        try simp (disch := first | omega | assumption | exact one_int _ _ | exact one_slice _ _ _ | exact one_ptr _ | exact one_bool _ | exact one_string _) only [RXA, RXB, Nat.reduceAdd, Nat.reduceLT, wrap_id, wrap_succ, wrap_pred, FX1, z3]
        refine run_same (r_Size lf (d + 6) _ h2 z) (by omega) (fun _ _ h => h.elim) ?_
        by_cases q1 : z < 3
        · rw [decide_eq_false (Int.not_le.2 q1), Bool.false_and]
          try simp (disch := first | omega | assumption | exact one_int _ _ | exact one_slice _ _ _ | exact one_ptr _ | exact one_bool _ | exact one_string _) only [RXA, RXB, Nat.reduceAdd, Nat.reduceLT, wrap_id, wrap_succ, wrap_pred, FX1, Bool.not_false, z1]
          exact tail h2 n1 hn1 k2' hg2
        · have q4 : inB z xs = false := by
            rcases hno with q | q | q | q
            · exact absurd q q1
            · omega
            · exact absurd q q3
            · exact q
          rw [decide_eq_true (show (3 : Int) ≤ z by omega), decide_eq_true (show z ≤ 258 by omega)]
          try simp (disch := first | omega | assumption | exact one_int _ _ | exact one_slice _ _ _ | exact one_ptr _ | exact one_bool _ | exact one_string _) only [RXA, RXB, Nat.reduceAdd, Nat.reduceLT, wrap_id, wrap_succ, wrap_pred, FX1, Bool.and_self, Bool.not_true]
          refine run_same (r_Of lf (d + 6) _ h2 hlf _ xs (hR0.keep (by omega) k2') (by omega) z) (by omega) (fun _ _ h => h.elim) ?_
          rw [q4]
          try simp (disch := first | omega | assumption | exact one_int _ _ | exact one_slice _ _ _ | exact one_ptr _ | exact one_bool _ | exact one_string _) only [RXA, RXB, Nat.reduceAdd, Nat.reduceLT, wrap_id, wrap_succ, wrap_pred, FX1, Bool.not_false, z1]
          exact tail h2 n1 hn1 k2' hg2
end
theorem call_TOf {w : World} (hw : Ev.GlobAt w) {vs : List Value} (ha : All2 (ArgR Tryd.prog w) [22, 3] vs) : Calls Tryd.prog 6 vs.toArray w fun e w' => e = .returned (.bool true) ∧ Below w.heap.size w w' :=
  the_law' (lf := 3000000) (d := 700) hw ha fun n h vs0 g q => by
    obtain ⟨a, b, rfl, h1, h2⟩ := Ev.all2_2 q
    obtain ⟨xs, hR, hl, _⟩ := a_row h1
    obtain ⟨z, rfl, _⟩ := a_num h2
    exact law_TOf 3000000 700 n h (by decide) (by decide) a xs z g hR hl
end Go.Proofs.YtdagfcflbphoiaaDoor

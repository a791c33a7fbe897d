/- The functions of the closed test of layer 23 as text that the kernel runs. -/
import Derived.Test.YthhhkplbjcknkaaGreatDoorFd1
namespace Go.Proofs.YthhhkplbjcknkaaGreatDoor.Fa
set_option linter.unusedVariables false
set_option linter.unusedSimpArgs false
open Go Go.RowKit Ev

noncomputable def lpA_lens_Share (lf d fu : Nat) (k : KT) (x0 x2 x3 x4 x14 x15 x16 x17 : Value) : M Value := loopK (fun s1 k1 => codeK PP (evC lf d) (gtA 141) lf (codeAt (bodyOf PP 141) [true, true, true, false, true, false, false]) s1 k1) [0, 2, 3, 4, 14, 15, 16, 17] fu [(0, x0), (2, x2), (3, x3), (4, x4), (14, x14), (15, x15), (16, x16), (17, x17)] k
noncomputable def kcA_lens_Share (lf d : Nat) : KT := contAt PP (evC lf d) (gtA 141) lf (bodyOf PP 141) [true, true, true, false, true, false] (endK PP (resOf PP 141))
noncomputable def LA_lens_Share (lf d : Nat) (rec : RT) (k : KT) : Nat → Value → Value → Value → Value → Value → Value → Value → Value → M Value
 | 0, _, _, _, _, _, _, _, _ => M.fail
 | fu + 1, x0, x2, x3, x4, x14, x15, x16, x17 =>
 optK (q_lss PP 3 x17 x16) fun v18n6 =>
 ifV v18n6 (
 optK (evIA3 PP 22 1 x15 x17) fun v19n7 =>
 insB (evLoad3 PP 3 v19n7) fun v20n8 =>
 optK (q_sub PP 3 (Value.int .i64 20) v20n8) fun v23n9 =>
 optK (q_shl PP 3 (Value.int .i64 1) v23n9) fun v24n10 =>
 optK (q_add PP 3 x4 v24n10) fun v25n11 =>
 optK (q_add PP 3 x17 (Value.int .i64 1)) fun v26n12 =>
 LA_lens_Share lf d rec k fu x0 x2 x3 v25n11 x14 x15 x16 v26n12) (
 k (Ex.exit 0) [(0, x0), (2, x2), (3, x3), (4, x4), (14, x14), (15, x15), (16, x16), (17, x17), (18, v18n6)])
noncomputable def KA_lens_Share (lf d : Nat) (rec : RT) (dflt : KT) : KT := (kEx 0 (runCur [0, 2, 3, 4, 14, 15, 16, 17, 18] (fun y0 y2 y3 y4 y14 y15 y16 y17 y18 =>
 outK [y4, (Value.int .i64 0)]) (dflt (Ex.exit 0))) dflt)
noncomputable def F_lens_Share (lf d : Nat) (rec : RT) (a0 : Value) : M Value :=
 optK (len2 PP #[22] [a0]) fun v8n1 =>
 optK (q_gtr PP 3 v8n1 (Value.int .i64 258)) fun v9n2 =>
 ifV v9n2 (
 outK [(Value.int .i64 0), (Value.int .i64 1)]) (
 (inside (rec 183 #[a0, (Value.int .i64 0), (Value.int .i64 20)])).bind fun v12n3 =>
 optK (un3 PP .not v12n3) fun v13n4 =>
 ifV v13n4 (
 outK [(Value.int .i64 0), (Value.int .i64 1)]) (
 optK (len2 PP #[22] [a0]) fun v16n5 =>
 LA_lens_Share lf d rec (KA_lens_Share lf d rec (kcA_lens_Share lf d)) lf a0 (Value.int .i64 0) (Value.int .i64 0) (Value.int .i64 0) v13n4 a0 v16n5 (Value.int .i64 0)))
theorem LQA_lens_Share (lf d : Nat) (k : KT) : ∀ fu : Nat, LA_lens_Share lf d (evC lf d) k fu = lpA_lens_Share lf d fu k
  | 0 => by funext x0 x2 x3 x4 x14 x15 x16 x17; kernel_rfl
  | fu + 1 => by
    have ih := LQA_lens_Share lf d k fu
    funext x0 x2 x3 x4 x14 x15 x16 x17; simp only [LA_lens_Share, ih, clash3_eq, evIA3_eq (P := PP) Tryz.underlying22 gs3, evLoad3_eq (P := PP) ga3, insB_eq, q_add_eq (P := PP) nf3, q_lss_eq (P := PP) nf3, q_shl_eq (P := PP) nf3, q_sub_eq (P := PP) nf3]; kernel_rfl
set_option maxRecDepth 20000 in
theorem KQA_lens_Share (lf d : Nat) : KA_lens_Share lf d (evC lf d) (kcA_lens_Share lf d) = kcA_lens_Share lf d := by
  unfold KA_lens_Share
  refine Eq.trans (kEx_eq ?_) ?_
  · exact (runCur_eq _ _ _ (by intro y0 y2 y3 y4 y14 y15 y16 y17 y18; show _ = _; (try simp only [clash3_eq, insB_eq]); kernel_rfl))
  rfl
theorem fsh_lens_Share (lf d : Nat) (a0 : Value) : inside (F_lens_Share lf d (evC lf d) a0) = evC lf (d + 1) 141 #[a0] := by
  unfold F_lens_Share; (try simp only [KQA_lens_Share lf d, LQA_lens_Share, clash3_eq, insB_eq, q_gtr_eq (P := PP) nf3, un3_eq]); kernel_rfl

noncomputable def F_slices_Contains_int_int (lf d : Nat) (rec : RT) (a0 a1 : Value) : M Value :=
 (inside (rec 87 #[a0, a1])).bind fun v7n1 =>
 optK (q_geq PP 3 v7n1 (Value.int .i64 0)) fun v8n2 =>
 outK [v8n2]
theorem fsh_slices_Contains_int_int (lf d : Nat) (a0 a1 : Value) : inside (F_slices_Contains_int_int lf d (evC lf d) a0 a1) = evC lf (d + 1) 142 #[a0, a1] := by
  unfold F_slices_Contains_int_int; (try simp only [clash3_eq, insB_eq, q_geq_eq (P := PP) nf3]); kernel_rfl

noncomputable def F_delta_Bits_1 (lf d : Nat) (rec : RT) (a0 a1 a2 : Value) : M Value :=
 insB (evLoad3 PP 3 a2) fun v5n1 =>
 optK (q_add PP 3 v5n1 a1) fun v7n2 =>
 insB (evStore3 PP 3 a2 v7n2) fun u3 =>
 outK []
theorem fsh_delta_Bits_1 (lf d : Nat) (a0 a1 a2 : Value) : inside (F_delta_Bits_1 lf d (evC lf d) a0 a1 a2) = evC lf (d + 1) 143 #[a0, a1, a2] := by
  unfold F_delta_Bits_1; (try simp only [clash3_eq, evLoad3_eq (P := PP) ga3, evStore3_eq (P := PP) gs3, insB_eq, q_add_eq (P := PP) nf3]); kernel_rfl

noncomputable def F_freq_Group (lf d : Nat) (rec : RT) (a0 a1 : Value) : M Value :=
 optK (q_lss PP 3 a1 (Value.int .i64 0)) fun v7n1 =>
 ifV v7n1 (
 outK [(Value.slice none 0 0), (Value.int .i64 1)]) (
 optK (len2 PP #[22] [a0]) fun v11n2 =>
 (inside (rec 131 #[v11n2])).bind fun v12n3 =>
 optK (q_geq PP 3 a1 v12n3) fun v13n4 =>
 ifV v13n4 (
 outK [(Value.slice none 0 0), (Value.int .i64 1)]) (
 (inside (rec 184 #[a0, a1, (Value.int .i64 50)])).bind fun v17n5 =>
 outK [v17n5, (Value.int .i64 0)]))
theorem fsh_freq_Group (lf d : Nat) (a0 a1 : Value) : inside (F_freq_Group lf d (evC lf d) a0 a1) = evC lf (d + 1) 144 #[a0, a1] := by
  unfold F_freq_Group; (try simp only [clash3_eq, insB_eq, q_geq_eq (P := PP) nf3, q_lss_eq (P := PP) nf3]); kernel_rfl

noncomputable def lpA_freq_Cost (lf d fu : Nat) (k : KT) (x0 x1 x4 x5 x6 x11 x12 x13 x14 : Value) : M Value := loopK (fun s1 k1 => codeK PP (evC lf d) (gtA 145) lf (codeAt (bodyOf PP 145) [true, true, true, false, true, false, false]) s1 k1) [0, 1, 4, 5, 6, 11, 12, 13, 14] fu [(0, x0), (1, x1), (4, x4), (5, x5), (6, x6), (11, x11), (12, x12), (13, x13), (14, x14)] k
noncomputable def kcA_freq_Cost (lf d : Nat) : KT := contAt PP (evC lf d) (gtA 145) lf (bodyOf PP 145) [true, true, true, false, true, false] (endK PP (resOf PP 145))
noncomputable def LA_freq_Cost (lf d : Nat) (rec : RT) (k : KT) : Nat → Value → Value → Value → Value → Value → Value → Value → Value → Value → M Value
 | 0, _, _, _, _, _, _, _, _, _ => M.fail
 | fu + 1, x0, x1, x4, x5, x6, x11, x12, x13, x14 =>
 optK (q_lss PP 3 x14 x13) fun v15n4 =>
 ifV v15n4 (
 optK (evIA3 PP 22 1 x12 x14) fun v16n5 =>
 insB (evLoad3 PP 3 v16n5) fun v17n6 =>
 optK (q_lss PP 3 v17n6 (Value.int .i64 0)) fun v19n7 =>
 ifV v19n7 (
 k Ex.ret [(0, x0), (1, x1), (4, (Value.int .i64 0)), (5, (Value.int .i64 1)), (6, x6), (8, v17n6), (11, x11), (12, x12), (13, x13), (14, x14), (15, v15n4), (25, (Value.bool true))]) (
 optK (len2 PP #[22] [x1]) fun v23n8 =>
 optK (q_geq PP 3 v17n6 v23n8) fun v24n9 =>
 ifV v24n9 (
 k Ex.ret [(0, x0), (1, x1), (4, (Value.int .i64 0)), (5, (Value.int .i64 1)), (6, x6), (8, v17n6), (11, x11), (12, x12), (13, x13), (14, x14), (15, v15n4), (25, v24n9)]) (
 optK (evIA3 PP 22 1 x1 v17n6) fun v29n10 =>
 insB (evLoad3 PP 3 v29n10) fun v30n11 =>
 (inside (rec 186 #[x6, v30n11])).bind fun v31n12 =>
 optK (q_add PP 3 x14 (Value.int .i64 1)) fun v32n13 =>
 LA_freq_Cost lf d rec k fu x0 x1 x4 x5 v31n12 x11 x12 x13 v32n13))) (
 k (Ex.exit 0) [(0, x0), (1, x1), (4, x4), (5, x5), (6, x6), (11, x11), (12, x12), (13, x13), (14, x14), (15, v15n4)])
noncomputable def KA_freq_Cost (lf d : Nat) (rec : RT) (dflt : KT) : KT := (kEx 0 (runCur [0, 1, 4, 5, 6, 11, 12, 13, 14, 15] (fun y0 y1 y4 y5 y6 y11 y12 y13 y14 y15 =>
 outK [y6, (Value.int .i64 0)]) (dflt (Ex.exit 0))) (kRt (runCur [0, 1, 4, 5, 6, 8, 11, 12, 13, 14, 15, 25] (fun y0 y1 y4 y5 y6 y8 y11 y12 y13 y14 y15 y25 =>
 outK [y4, y5]) (dflt Ex.ret)) dflt))
noncomputable def F_freq_Cost (lf d : Nat) (rec : RT) (a0 a1 : Value) : M Value :=
 (inside (rec 185 #[a1])).bind fun v10n1 =>
 optK (un3 PP .not v10n1) fun v11n2 =>
 ifV v11n2 (
 outK [(Value.int .i64 0), (Value.int .i64 1)]) (
 optK (len2 PP #[22] [a0]) fun v13n3 =>
 LA_freq_Cost lf d rec (KA_freq_Cost lf d rec (kcA_freq_Cost lf d)) lf a0 a1 (Value.int .i64 0) (Value.int .i64 0) (Value.int .i64 0) v11n2 a0 v13n3 (Value.int .i64 0))
theorem LQA_freq_Cost (lf d : Nat) (k : KT) : ∀ fu : Nat, LA_freq_Cost lf d (evC lf d) k fu = lpA_freq_Cost lf d fu k
  | 0 => by funext x0 x1 x4 x5 x6 x11 x12 x13 x14; kernel_rfl
  | fu + 1 => by
    have ih := LQA_freq_Cost lf d k fu
    funext x0 x1 x4 x5 x6 x11 x12 x13 x14; simp only [LA_freq_Cost, ih, clash3_eq, evIA3_eq (P := PP) Tryz.underlying22 gs3, evLoad3_eq (P := PP) ga3, insB_eq, q_add_eq (P := PP) nf3, q_geq_eq (P := PP) nf3, q_lss_eq (P := PP) nf3]; kernel_rfl
set_option maxRecDepth 20000 in
theorem KQA_freq_Cost (lf d : Nat) : KA_freq_Cost lf d (evC lf d) (kcA_freq_Cost lf d) = kcA_freq_Cost lf d := by
  unfold KA_freq_Cost
  refine Eq.trans (kEx_eq ?_) ?_
  · exact (runCur_eq _ _ _ (by intro y0 y1 y4 y5 y6 y11 y12 y13 y14 y15; show _ = _; (try simp only [clash3_eq, insB_eq]); kernel_rfl))
  refine Eq.trans (kRt_eq ?_) ?_
  · exact (runCur_eq _ _ _ (by intro y0 y1 y4 y5 y6 y8 y11 y12 y13 y14 y15 y25; show _ = _; (try simp only [clash3_eq, insB_eq]); kernel_rfl))
  rfl
theorem fsh_freq_Cost (lf d : Nat) (a0 a1 : Value) : inside (F_freq_Cost lf d (evC lf d) a0 a1) = evC lf (d + 1) 145 #[a0, a1] := by
  unfold F_freq_Cost; (try simp only [KQA_freq_Cost lf d, LQA_freq_Cost, clash3_eq, insB_eq, un3_eq]); kernel_rfl

noncomputable def lpA_sorter_New (lf d fu : Nat) (k : KT) (x0 x2 x3 x4 x5 x10 x26 x27 : Value) : M Value := loopK (fun s1 k1 => codeK PP (evC lf d) (gtA 147) lf (codeAt (bodyOf PP 147) [true, true, true, true, false, true, false, false]) s1 k1) [0, 2, 3, 4, 5, 10, 26, 27] fu [(0, x0), (2, x2), (3, x3), (4, x4), (5, x5), (10, x10), (26, x26), (27, x27)] k
noncomputable def kcA_sorter_New (lf d : Nat) : KT := contAt PP (evC lf d) (gtA 147) lf (bodyOf PP 147) [true, true, true, true, false, true, false] (endK PP (resOf PP 147))
noncomputable def LA_sorter_New (lf d : Nat) (rec : RT) (k : KT) : Nat → Value → Value → Value → Value → Value → Value → Value → Value → M Value
 | 0, _, _, _, _, _, _, _, _ => M.fail
 | fu + 1, x0, x2, x3, x4, x5, x10, x26, x27 =>
 optK (q_lss PP 3 x27 x26) fun v28n13 =>
 ifV v28n13 (
 optK (nil2 x5) fun v31n14 =>
 optK (evFA3 PP 214 1 v31n14 1) fun v32n15 =>
 insB (evLoad3 PP 22 v32n15) fun v33n16 =>
 optK (evIA3 PP 22 1 v33n16 x27) fun v36n17 =>
 insB (evStore3 PP 3 v36n17 x27) fun u18 =>
 optK (q_add PP 3 x27 (Value.int .i64 1)) fun v37n19 =>
 LA_sorter_New lf d rec k fu x0 x2 x3 x4 x5 x10 x26 v37n19) (
 k (Ex.exit 0) [(0, x0), (2, x2), (3, x3), (4, x4), (5, x5), (10, x10), (26, x26), (27, x27), (28, v28n13)])
noncomputable def KA_sorter_New (lf d : Nat) (rec : RT) (dflt : KT) : KT := (kEx 0 (runCur [0, 2, 3, 4, 5, 10, 26, 27, 28] (fun y0 y2 y3 y4 y5 y10 y26 y27 y28 =>
 insB (evBuildZ PP 212 [Value.int .i64 0, Value.int .i64 0, Value.int .i64 0] [(0, (Value.int .i64 0)), (2, y4)]) fun v40n20 =>
 insB (evBS3 PP 210 1 [(0, v40n20)]) fun v41n21 =>
 optK (nil2 y5) fun v42n22 =>
 optK (evFA3 PP 214 5 v42n22 5) fun v43n23 =>
 insB (evStore3 PP 210 v43n23 v41n21) fun u24 =>
 outK [y5, (Value.int .i64 0)]) (dflt (Ex.exit 0))) dflt)
noncomputable def F_sorter_New (lf d : Nat) (rec : RT) (a0 : Value) : M Value :=
 optK (len2 PP #[9] [a0]) fun v8n1 =>
 optK (q_gtr PP 3 v8n1 (Value.int .i64 900000)) fun v10n2 =>
 ifV v10n2 (
 outK [(Value.pointer none), (Value.int .i64 2)]) (
 insB (evMake3 PP 22 v8n1 v8n1) fun v13n3 =>
 insB (evMake3 PP 22 v8n1 v8n1) fun v15n4 =>
 insB (evMake3 PP 22 v8n1 v8n1) fun v17n5 =>
 optK (q_lss PP 3 v8n1 (Value.int .i64 2)) fun v19n6 =>
 insB (evBuildZ PP 214 [Value.string ⟨⟨[]⟩⟩, Value.slice none 0 0, Value.slice none 0 0, Value.slice none 0 0, Value.int .i64 0, Value.slice none 0 0, Value.int .i64 0, Value.int .i64 0, Value.int .i64 0, Value.int .i64 0, Value.int .i64 0, Value.int .i64 0, Value.int .i64 0, Value.int .i64 0, Value.int .i64 0, Value.bool false] [(0, a0), (1, v13n3), (2, v15n4), (3, v17n5), (13, v19n6)]) fun v20n7 =>
 insB (evBox3 PP 214 v20n7) fun v21n8 =>
 optK (nil2 v21n8) fun v23n9 =>
 optK (evFA3 PP 214 1 v23n9 1) fun v24n10 =>
 insB (evLoad3 PP 22 v24n10) fun v25n11 =>
 optK (len2 PP #[22] [v25n11]) fun v26n12 =>
 LA_sorter_New lf d rec (KA_sorter_New lf d rec (kcA_sorter_New lf d)) lf a0 (Value.pointer none) (Value.int .i64 0) v8n1 v21n8 v10n2 v26n12 (Value.int .i64 0))
theorem LQA_sorter_New (lf d : Nat) (k : KT) : ∀ fu : Nat, LA_sorter_New lf d (evC lf d) k fu = lpA_sorter_New lf d fu k
  | 0 => by funext x0 x2 x3 x4 x5 x10 x26 x27; kernel_rfl
  | fu + 1 => by
    have ih := LQA_sorter_New lf d k fu
    funext x0 x2 x3 x4 x5 x10 x26 x27; simp only [LA_sorter_New, ih, clash3_eq, evFA3_eq (P := PP) gf214f1, evIA3_eq (P := PP) Tryz.underlying22 gs3, evLoad3_eq (P := PP) ga22, evStore3_eq (P := PP) gs3, insB_eq, q_add_eq (P := PP) nf3, q_lss_eq (P := PP) nf3]; kernel_rfl
set_option maxRecDepth 20000 in
theorem KQA_sorter_New (lf d : Nat) : KA_sorter_New lf d (evC lf d) (kcA_sorter_New lf d) = kcA_sorter_New lf d := by
  unfold KA_sorter_New
  refine Eq.trans (kEx_eq ?_) ?_
  · exact (runCur_eq _ _ _ (by intro y0 y2 y3 y4 y5 y10 y26 y27 y28; show _ = _; (try simp only [bz212, clash3_eq, evBS3_eq, evFA3_eq (P := PP) gf214f5, evStore3_eq (P := PP) gs210, insB_eq]); kernel_rfl))
  rfl
theorem fsh_sorter_New (lf d : Nat) (a0 : Value) : inside (F_sorter_New lf d (evC lf d) a0) = evC lf (d + 1) 147 #[a0] := by
  unfold F_sorter_New; (try simp only [KQA_sorter_New lf d, LQA_sorter_New, bz214, clash3_eq, evBox3_eq, evFA3_eq (P := PP) gf214f1, evLoad3_eq (P := PP) ga22, evMake3_eq, insB_eq, q_gtr_eq (P := PP) nf3, q_lss_eq (P := PP) nf3]); kernel_rfl

noncomputable def lpA_sorter_Sorter_Step (lf d fu : Nat) (k : KT) (x0 x1 x4 x5 x7 : Value) : M Value := loopK (fun s1 k1 => codeK PP (evC lf d) (gtA 148) lf (codeAt (bodyOf PP 148) [true, true, true, false, false, false]) s1 k1) [0, 1, 4, 5, 7] fu [(0, x0), (1, x1), (4, x4), (5, x5), (7, x7)] k
noncomputable def kcA_sorter_Sorter_Step (lf d : Nat) : KT := contAt PP (evC lf d) (gtA 148) lf (bodyOf PP 148) [true, true, true, false, false] (endK PP (resOf PP 148))
noncomputable def LA_sorter_Sorter_Step (lf d : Nat) (rec : RT) (k : KT) : Nat → Value → Value → Value → Value → Value → M Value
 | 0, _, _, _, _, _ => M.fail
 | fu + 1, x0, x1, x4, x5, x7 =>
 optK (nil2 x0) fun v13n5 =>
 optK (evFA3 PP 214 15 v13n5 13) fun v14n6 =>
 insB (evLoad3 PP 4 v14n6) fun v15n7 =>
 optK (un3 PP .not v15n7) fun v16n8 =>
 ifV v16n8 (
 optK (nil2 x0) fun v19n9 =>
 optK (evFA3 PP 214 14 v19n9 12) fun v20n10 =>
 insB (evLoad3 PP 3 v20n10) fun v21n11 =>
 optK (q_sub PP 3 v21n11 x5) fun v23n12 =>
 optK (q_lss PP 3 v23n12 x1) fun v25n13 =>
 ifV v25n13 (
 (inside (rec 187 #[x0])).bind fun v28n14 =>
 LA_sorter_Sorter_Step lf d rec k fu x0 x1 x4 x5 x7) (
 k (Ex.exit 0) [(0, x0), (1, x1), (4, x4), (5, x5), (7, x7), (26, v25n13)])) (
 k (Ex.exit 0) [(0, x0), (1, x1), (4, x4), (5, x5), (7, x7), (26, (Value.bool false))])
noncomputable def KA_sorter_Sorter_Step (lf d : Nat) (rec : RT) (dflt : KT) : KT := (kEx 0 (runCur [0, 1, 4, 5, 7, 26] (fun y0 y1 y4 y5 y7 y26 =>
 optK (nil2 y0) fun v30n15 =>
 optK (evFA3 PP 214 14 v30n15 12) fun v31n16 =>
 insB (evLoad3 PP 3 v31n16) fun v32n17 =>
 optK (q_sub PP 3 v32n17 y5) fun v34n18 =>
 outK [v34n18]) (dflt (Ex.exit 0))) dflt)
noncomputable def F_sorter_Sorter_Step (lf d : Nat) (rec : RT) (a0 a1 : Value) : M Value :=
 optK (qP_eql PP 168 a0 (Value.pointer none)) fun v7n1 =>
 ifV v7n1 (
 outK [(Value.int .i64 0)]) (
 optK (nil2 a0) fun v9n2 =>
 optK (evFA3 PP 214 14 v9n2 12) fun v10n3 =>
 insB (evLoad3 PP 3 v10n3) fun v11n4 =>
 LA_sorter_Sorter_Step lf d rec (KA_sorter_Sorter_Step lf d rec (kcA_sorter_Sorter_Step lf d)) lf a0 a1 (Value.int .i64 0) v11n4 v7n1)
theorem LQA_sorter_Sorter_Step (lf d : Nat) (k : KT) : ∀ fu : Nat, LA_sorter_Sorter_Step lf d (evC lf d) k fu = lpA_sorter_Sorter_Step lf d fu k
  | 0 => by funext x0 x1 x4 x5 x7; kernel_rfl
  | fu + 1 => by
    have ih := LQA_sorter_Sorter_Step lf d k fu
    funext x0 x1 x4 x5 x7; simp only [LA_sorter_Sorter_Step, ih, clash3_eq, evFA3_eq (P := PP) gf214f12, evFA3_eq (P := PP) gf214f13, evLoad3_eq (P := PP) ga3, evLoad3_eq (P := PP) ga4, insB_eq, q_lss_eq (P := PP) nf3, q_sub_eq (P := PP) nf3, un3_eq]; kernel_rfl
set_option maxRecDepth 20000 in
theorem KQA_sorter_Sorter_Step (lf d : Nat) : KA_sorter_Sorter_Step lf d (evC lf d) (kcA_sorter_Sorter_Step lf d) = kcA_sorter_Sorter_Step lf d := by
  unfold KA_sorter_Sorter_Step
  refine Eq.trans (kEx_eq ?_) ?_
  · exact (runCur_eq _ _ _ (by intro y0 y1 y4 y5 y7 y26; show _ = _; (try simp only [clash3_eq, evFA3_eq (P := PP) gf214f12, evLoad3_eq (P := PP) ga3, insB_eq, q_sub_eq (P := PP) nf3]); kernel_rfl))
  rfl
theorem fsh_sorter_Sorter_Step (lf d : Nat) (a0 a1 : Value) : inside (F_sorter_Sorter_Step lf d (evC lf d) a0 a1) = evC lf (d + 1) 148 #[a0, a1] := by
  unfold F_sorter_Sorter_Step; (try simp only [KQA_sorter_Sorter_Step lf d, LQA_sorter_Sorter_Step, clash3_eq, evFA3_eq (P := PP) gf214f12, evLoad3_eq (P := PP) ga3, insB_eq, qP_eql_eq (P := PP) Tryz.underlying168]); kernel_rfl

noncomputable def F_sorter_Sorter_Done (lf d : Nat) (rec : RT) (a0 : Value) : M Value :=
 optK (qP_neq PP 168 a0 (Value.pointer none)) fun v4n1 =>
 ifV v4n1 (
 optK (nil2 a0) fun v7n2 =>
 optK (evFA3 PP 214 15 v7n2 13) fun v8n3 =>
 insB (evLoad3 PP 4 v8n3) fun v9n4 =>
 outK [v9n4]) (
 outK [(Value.bool false)])
theorem fsh_sorter_Sorter_Done (lf d : Nat) (a0 : Value) : inside (F_sorter_Sorter_Done lf d (evC lf d) a0) = evC lf (d + 1) 149 #[a0] := by
  unfold F_sorter_Sorter_Done; (try simp only [clash3_eq, evFA3_eq (P := PP) gf214f13, evLoad3_eq (P := PP) ga4, insB_eq, qP_neq_eq (P := PP) Tryz.underlying168]); kernel_rfl

noncomputable def F_sorter_Sorter_Order (lf d : Nat) (rec : RT) (a0 : Value) : M Value :=
 (inside (rec 149 #[a0])).bind fun v4n1 =>
 optK (un3 PP .not v4n1) fun v5n2 =>
 ifV v5n2 (
 outK [(Value.slice none 0 0)]) (
 optK (nil2 a0) fun v7n3 =>
 optK (evFA3 PP 214 1 v7n3 1) fun v8n4 =>
 insB (evLoad3 PP 22 v8n4) fun v9n5 =>
 (inside (rec 95 #[v9n5])).bind fun v10n6 =>
 outK [v10n6])
theorem fsh_sorter_Sorter_Order (lf d : Nat) (a0 : Value) : inside (F_sorter_Sorter_Order lf d (evC lf d) a0) = evC lf (d + 1) 150 #[a0] := by
  unfold F_sorter_Sorter_Order; (try simp only [clash3_eq, evFA3_eq (P := PP) gf214f1, evLoad3_eq (P := PP) ga22, insB_eq, un3_eq]); kernel_rfl

noncomputable def F_bwt_Turner_take (lf d : Nat) (rec : RT) (a0 : Value) : M Value :=
 optK (nil2 a0) fun v5n1 =>
 optK (evFA3 PP 170 3 v5n1 3) fun v6n2 =>
 insB (evLoad3 PP 133 v6n2) fun v7n3 =>
 optK (len2 PP #[133] [v7n3]) fun v8n4 =>
 optK (nil2 a0) fun v10n5 =>
 optK (evFA3 PP 170 2 v10n5 2) fun v11n6 =>
 insB (evLoad3 PP 22 v11n6) fun v12n7 =>
 optK (evIA3 PP 22 1 v12n7 v8n4) fun v14n8 =>
 insB (evLoad3 PP 3 v14n8) fun v15n9 =>
 optK (q_eql PP 3 v15n9 (Value.int .i64 0)) fun v17n10 =>
 ifV v17n10 (
 optK (nil2 a0) fun v20n11 =>
 optK (evFA3 PP 170 4 v20n11 4) fun v21n12 =>
 insB (evStore3 PP 3 v21n12 v8n4) fun u13 =>
 optK (nil2 a0) fun v24n14 =>
 optK (evFA3 PP 170 3 v24n14 3) fun v25n15 =>
 (timed (
 insB (evLoad3 PP 133 v25n15) fun v26n17 => M.ret v26n17)).bind fun vtn16 =>
 optK (nil2 a0) fun v28n18 =>
 optK (evFA3 PP 170 0 v28n18 0) fun v29n19 =>
 (timed (
 insB (evLoad3 PP 9 v29n19) fun v30n21 => M.ret v30n21)).bind fun vtn20 =>
 (timed (
 (inside (rec 188 #[vtn20.1, v15n9])).bind fun v32n23 => M.ret v32n23)).bind fun vtn22 =>
 (timed (
 insB (evBS3 PP 133 1 [(0, vtn22.1)]) fun v33n25 => M.ret v33n25)).bind fun vtn24 =>
 (timed (
 insB (evAppend3 PP 133 vtn16.1 vtn24.1) fun v34n27 => M.ret v34n27)).bind fun vtn26 =>
 optK (nil2 a0) fun v35n28 =>
 optK (evFA3 PP 170 3 v35n28 3) fun v36n29 =>
 (timed (
 insB (evStore3 PP 133 v36n29 vtn26.1) fun u31 => M.ret u31)).bind fun vtn30 =>
 chkT ((!(clash3 vtn16.2 vtn22.2) && true) && true) (
 outK [])) (
 optK (nil2 a0) fun v24n32 =>
 optK (evFA3 PP 170 3 v24n32 3) fun v25n33 =>
 (timed (
 insB (evLoad3 PP 133 v25n33) fun v26n35 => M.ret v26n35)).bind fun vtn34 =>
 optK (nil2 a0) fun v28n36 =>
 optK (evFA3 PP 170 0 v28n36 0) fun v29n37 =>
 (timed (
 insB (evLoad3 PP 9 v29n37) fun v30n39 => M.ret v30n39)).bind fun vtn38 =>
 (timed (
 (inside (rec 188 #[vtn38.1, v15n9])).bind fun v32n41 => M.ret v32n41)).bind fun vtn40 =>
 (timed (
 insB (evBS3 PP 133 1 [(0, vtn40.1)]) fun v33n43 => M.ret v33n43)).bind fun vtn42 =>
 (timed (
 insB (evAppend3 PP 133 vtn34.1 vtn42.1) fun v34n45 => M.ret v34n45)).bind fun vtn44 =>
 optK (nil2 a0) fun v35n46 =>
 optK (evFA3 PP 170 3 v35n46 3) fun v36n47 =>
 (timed (
 insB (evStore3 PP 133 v36n47 vtn44.1) fun u49 => M.ret u49)).bind fun vtn48 =>
 chkT ((!(clash3 vtn34.2 vtn40.2) && true) && true) (
 outK []))
theorem fsh_bwt_Turner_take (lf d : Nat) (a0 : Value) : inside (F_bwt_Turner_take lf d (evC lf d) a0) = evC lf (d + 1) 151 #[a0] := by
  unfold F_bwt_Turner_take; (try simp only [clash3_eq, evAppend3_eq, evBS3_eq, evFA3_eq (P := PP) gf170f0, evFA3_eq (P := PP) gf170f2, evFA3_eq (P := PP) gf170f3, evFA3_eq (P := PP) gf170f4, evIA3_eq (P := PP) Tryz.underlying22 gs3, evLoad3_eq (P := PP) ga133, evLoad3_eq (P := PP) ga22, evLoad3_eq (P := PP) ga3, evLoad3_eq (P := PP) ga9, evStore3_eq (P := PP) gs133, evStore3_eq (P := PP) gs3, insB_eq, q_eql_eq (P := PP) nf3]); kernel_rfl

noncomputable def lpA_used_listed (lf d fu : Nat) (k : KT) (x0 x1 x2 x3 x6 x7 : Value) : M Value := loopK (fun s1 k1 => codeK PP (evC lf d) (gtA 152) lf (codeAt (bodyOf PP 152) [true, true, false, true, false, false]) s1 k1) [0, 1, 2, 3, 6, 7] fu [(0, x0), (1, x1), (2, x2), (3, x3), (6, x6), (7, x7)] k
noncomputable def kcA_used_listed (lf d : Nat) : KT := contAt PP (evC lf d) (gtA 152) lf (bodyOf PP 152) [true, true, false, true, false] (endK PP (resOf PP 152))
noncomputable def LA_used_listed (lf d : Nat) (rec : RT) (k : KT) : Nat → Value → Value → Value → Value → Value → Value → M Value
 | 0, _, _, _, _, _, _ => M.fail
 | fu + 1, x0, x1, x2, x3, x6, x7 =>
 optK (q_lss PP 3 x7 (Value.int .i64 256)) fun v8n3 =>
 ifV v8n3 (
 optK (index2 PP 182 x6 x7) fun v10n4 =>
 ifV v10n4 (
 conv3 PP 3 5 .i64 .u8 x7 fun v14n5 =>
 insB (evBS3 PP 133 1 [(0, v14n5)]) fun v15n6 =>
 insB (evAppend3 PP 133 x3 v15n6) fun v16n7 =>
 optK (q_add PP 3 x7 (Value.int .i64 1)) fun v17n8 =>
 LA_used_listed lf d rec k fu x0 x1 x2 v16n7 x6 v17n8) (
 optK (q_add PP 3 x7 (Value.int .i64 1)) fun v17n9 =>
 LA_used_listed lf d rec k fu x0 x1 x2 x3 x6 v17n9)) (
 k (Ex.exit 0) [(0, x0), (1, x1), (2, x2), (3, x3), (6, x6), (7, x7), (8, v8n3)])
noncomputable def KA_used_listed (lf d : Nat) (rec : RT) (dflt : KT) : KT := (kEx 0 (runCur [0, 1, 2, 3, 6, 7, 8] (fun y0 y1 y2 y3 y6 y7 y8 =>
 insB (evToStr3 y3) fun v19n10 =>
 outK [v19n10]) (dflt (Ex.exit 0))) dflt)
noncomputable def F_used_listed (lf d : Nat) (rec : RT) (a0 : Value) : M Value :=
 insB (evBox3 PP 182 a0) fun v1n1 =>
 insB (evLoadA3 PP 182 256 v1n1) fun v6n2 =>
 LA_used_listed lf d rec (KA_used_listed lf d rec (kcA_used_listed lf d)) lf a0 v1n1 (Value.string { data := #[] }) (Value.slice none 0 0) v6n2 (Value.int .i64 0)
theorem LQA_used_listed (lf d : Nat) (k : KT) : ∀ fu : Nat, LA_used_listed lf d (evC lf d) k fu = lpA_used_listed lf d fu k
  | 0 => by funext x0 x1 x2 x3 x6 x7; kernel_rfl
  | fu + 1 => by
    have ih := LQA_used_listed lf d k fu
    funext x0 x1 x2 x3 x6 x7; simp only [LA_used_listed, ih, clash3_eq, conv3_eq cw3x5, evAppend3_eq, evBS3_eq, insB_eq, q_add_eq (P := PP) nf3, q_lss_eq (P := PP) nf3]; kernel_rfl
set_option maxRecDepth 20000 in
theorem KQA_used_listed (lf d : Nat) : KA_used_listed lf d (evC lf d) (kcA_used_listed lf d) = kcA_used_listed lf d := by
  unfold KA_used_listed
  refine Eq.trans (kEx_eq ?_) ?_
  · exact (runCur_eq _ _ _ (by intro y0 y1 y2 y3 y6 y7 y8; show _ = _; (try simp only [clash3_eq, evToStr3_eq, insB_eq]); kernel_rfl))
  rfl
theorem fsh_used_listed (lf d : Nat) (a0 : Value) : inside (F_used_listed lf d (evC lf d) a0) = evC lf (d + 1) 152 #[a0] := by
  unfold F_used_listed; (try simp only [KQA_used_listed lf d, LQA_used_listed, clash3_eq, evBox3_eq, evLoadA3_eq (P := PP) ga182 gs182, insB_eq]); kernel_rfl

noncomputable def F_mtf_New (lf d : Nat) (rec : RT) (a0 : Value) : M Value :=
 (inside (rec 157 #[a0])).bind fun v5n1 =>
 optK (un3 PP .not v5n1) fun v6n2 =>
 ifV v6n2 (
 outK [(Value.pointer none), (Value.int .i64 1)]) (
 insB (toBytes3 5 a0) fun v8n3 =>
 insB (evBuildZ PP 231 [Value.slice none 0 0] [(0, v8n3)]) fun v9n4 =>
 insB (evBox3 PP 231 v9n4) fun v10n5 =>
 outK [v10n5, (Value.int .i64 0)])
theorem fsh_mtf_New (lf d : Nat) (a0 : Value) : inside (F_mtf_New lf d (evC lf d) a0) = evC lf (d + 1) 153 #[a0] := by
  unfold F_mtf_New; (try simp only [bz231, clash3_eq, evBox3_eq, insB_eq, toBytes3_eq, un3_eq]); kernel_rfl

noncomputable def F_mtf_List_Find (lf d : Nat) (rec : RT) (a0 a1 : Value) : M Value :=
 optK (qP_eql PP 184 a0 (Value.pointer none)) fun v8n1 =>
 ifV v8n1 (
 outK [(Value.int .i64 0), (Value.int .i64 7)]) (
 optK (nil2 a0) fun v10n2 =>
 optK (evFA3 PP 231 0 v10n2 0) fun v11n3 =>
 insB (evLoad3 PP 133 v11n3) fun v12n4 =>
 (inside (rec 189 #[v12n4, a1])).bind fun v14n5 =>
 optK (q_lss PP 3 v14n5 (Value.int .i64 0)) fun v16n6 =>
 ifV v16n6 (
 outK [(Value.int .i64 0), (Value.int .i64 6)]) (
 (inside (rec 190 #[a0, v14n5])).bind fun v19n7 =>
 outK [v14n5, (Value.int .i64 0)]))
theorem fsh_mtf_List_Find (lf d : Nat) (a0 a1 : Value) : inside (F_mtf_List_Find lf d (evC lf d) a0 a1) = evC lf (d + 1) 154 #[a0, a1] := by
  unfold F_mtf_List_Find; (try simp only [clash3_eq, evFA3_eq (P := PP) gf231f0, evLoad3_eq (P := PP) ga133, insB_eq, qP_eql_eq (P := PP) Tryz.underlying184, q_lss_eq (P := PP) nf3]); kernel_rfl

noncomputable def F_zeros_may (lf d : Nat) (rec : RT) (a0 : Value) : M Value :=
 optK (q_geq PP 3 a0 (Value.int .i64 1)) fun v4n1 =>
 ifV v4n1 (
 optK (q_leq PP 3 a0 (Value.int .i64 256)) fun v7n2 =>
 outK [v7n2]) (
 outK [(Value.bool false)])
theorem fsh_zeros_may (lf d : Nat) (a0 : Value) : inside (F_zeros_may lf d (evC lf d) a0) = evC lf (d + 1) 155 #[a0] := by
  unfold F_zeros_may; (try simp only [clash3_eq, insB_eq, q_geq_eq (P := PP) nf3, q_leq_eq (P := PP) nf3]); kernel_rfl

noncomputable def lpA_zeros_row (lf d fu : Nat) (k : KT) (x0 x2 x3 : Value) : M Value := loopK (fun s1 k1 => codeK PP (evC lf d) (gtA 156) lf (codeAt (bodyOf PP 156) [true, true, false, false, false]) s1 k1) [0, 2, 3] fu [(0, x0), (2, x2), (3, x3)] k
noncomputable def kcA_zeros_row (lf d : Nat) : KT := contAt PP (evC lf d) (gtA 156) lf (bodyOf PP 156) [true, true, false, false] (endK PP (resOf PP 156))
noncomputable def LA_zeros_row (lf d : Nat) (rec : RT) (k : KT) : Nat → Value → Value → Value → M Value
 | 0, _, _, _ => M.fail
 | fu + 1, x0, x2, x3 =>
 optK (q_gtr PP 3 x0 (Value.int .i64 0)) fun v6n1 =>
 ifV v6n1 (
 optK (q_rem PP 3 x0 (Value.int .i64 2)) fun v8n2 =>
 optK (q_eql PP 3 v8n2 (Value.int .i64 1)) fun v9n3 =>
 ifV v9n3 (
 insB (evBS3 PP 22 1 [(0, (Value.int .i64 0))]) fun v12n4 =>
 insB (evAppend3 PP 22 x3 v12n4) fun v13n5 =>
 optK (q_sub PP 3 x0 (Value.int .i64 0)) fun v16n6 =>
 optK (q_sub PP 3 v16n6 (Value.int .i64 1)) fun v17n7 =>
 optK (q_quo PP 3 v17n7 (Value.int .i64 2)) fun v18n8 =>
 LA_zeros_row lf d rec k fu v18n8 x2 v13n5) (
 insB (evBS3 PP 22 1 [(0, (Value.int .i64 1))]) fun v12n9 =>
 insB (evAppend3 PP 22 x3 v12n9) fun v13n10 =>
 optK (q_sub PP 3 x0 (Value.int .i64 1)) fun v16n11 =>
 optK (q_sub PP 3 v16n11 (Value.int .i64 1)) fun v17n12 =>
 optK (q_quo PP 3 v17n12 (Value.int .i64 2)) fun v18n13 =>
 LA_zeros_row lf d rec k fu v18n13 x2 v13n10)) (
 k (Ex.exit 0) [(0, x0), (2, x2), (3, x3), (6, v6n1)])
noncomputable def KA_zeros_row (lf d : Nat) (rec : RT) (dflt : KT) : KT := (kEx 0 (runCur [0, 2, 3, 6] (fun y0 y2 y3 y6 =>
 outK [y3]) (dflt (Ex.exit 0))) dflt)
noncomputable def F_zeros_row (lf d : Nat) (rec : RT) (a0 : Value) : M Value :=
 LA_zeros_row lf d rec (KA_zeros_row lf d rec (kcA_zeros_row lf d)) lf a0 (Value.slice none 0 0) (Value.slice none 0 0)
theorem LQA_zeros_row (lf d : Nat) (k : KT) : ∀ fu : Nat, LA_zeros_row lf d (evC lf d) k fu = lpA_zeros_row lf d fu k
  | 0 => by funext x0 x2 x3; kernel_rfl
  | fu + 1 => by
    have ih := LQA_zeros_row lf d k fu
    funext x0 x2 x3; simp only [LA_zeros_row, ih, clash3_eq, evAppend3_eq, evBS3_eq, insB_eq, q_eql_eq (P := PP) nf3, q_gtr_eq (P := PP) nf3, q_quo_eq (P := PP) nf3, q_rem_eq (P := PP) nf3, q_sub_eq (P := PP) nf3]; kernel_rfl
set_option maxRecDepth 20000 in
theorem KQA_zeros_row (lf d : Nat) : KA_zeros_row lf d (evC lf d) (kcA_zeros_row lf d) = kcA_zeros_row lf d := by
  unfold KA_zeros_row
  refine Eq.trans (kEx_eq ?_) ?_
  · exact (runCur_eq _ _ _ (by intro y0 y2 y3 y6; show _ = _; (try simp only [clash3_eq, insB_eq]); kernel_rfl))
  rfl
theorem fsh_zeros_row (lf d : Nat) (a0 : Value) : inside (F_zeros_row lf d (evC lf d) a0) = evC lf (d + 1) 156 #[a0] := by
  unfold F_zeros_row; (try simp only [KQA_zeros_row lf d, LQA_zeros_row, clash3_eq, insB_eq]); kernel_rfl

noncomputable def lpA_used_Is (lf d fu : Nat) (k : KT) (x0 x2 x5 x6 : Value) : M Value := loopK (fun s1 k1 => codeK PP (evC lf d) (gtA 157) lf (codeAt (bodyOf PP 157) [true, false, true, false, false]) s1 k1) [0, 2, 5, 6] fu [(0, x0), (2, x2), (5, x5), (6, x6)] k
noncomputable def kcA_used_Is (lf d : Nat) : KT := contAt PP (evC lf d) (gtA 157) lf (bodyOf PP 157) [true, false, true, false] (endK PP (resOf PP 157))
noncomputable def LA_used_Is (lf d : Nat) (rec : RT) (k : KT) : Nat → Value → Value → Value → Value → M Value
 | 0, _, _, _, _ => M.fail
 | fu + 1, x0, x2, x5, x6 =>
 optK (q_lss PP 3 x6 x5) fun v7n2 =>
 ifV v7n2 (
 optK (q_gtr PP 3 x6 (Value.int .i64 0)) fun v10n3 =>
 ifV v10n3 (
 optK (index3 PP 9 x0 x6) fun v14n4 =>
 optK (q_sub PP 3 x6 (Value.int .i64 1)) fun v17n5 =>
 optK (index3 PP 9 x0 v17n5) fun v18n6 =>
 optK (q_leq PP 5 v14n4 v18n6) fun v19n7 =>
 ifV v19n7 (
 k Ex.ret [(0, x0), (2, (Value.bool false)), (3, x6), (5, x5), (6, x6), (7, v7n2), (20, v19n7)]) (
 optK (q_add PP 3 x6 (Value.int .i64 1)) fun v21n8 =>
 LA_used_Is lf d rec k fu x0 x2 x5 v21n8)) (
 optK (q_add PP 3 x6 (Value.int .i64 1)) fun v21n9 =>
 LA_used_Is lf d rec k fu x0 x2 x5 v21n9)) (
 k (Ex.exit 0) [(0, x0), (2, x2), (5, x5), (6, x6), (7, v7n2)])
noncomputable def KA_used_Is (lf d : Nat) (rec : RT) (dflt : KT) : KT := (kEx 0 (runCur [0, 2, 5, 6, 7] (fun y0 y2 y5 y6 y7 =>
 optK (qS_neq PP 9 y0 (Value.string { data := #[] })) fun v23n10 =>
 outK [v23n10]) (dflt (Ex.exit 0))) (kRt (runCur [0, 2, 3, 5, 6, 7, 20] (fun y0 y2 y3 y5 y6 y7 y20 =>
 outK [y2]) (dflt Ex.ret)) dflt))
noncomputable def F_used_Is (lf d : Nat) (rec : RT) (a0 : Value) : M Value :=
 optK (len2 PP #[9] [a0]) fun v5n1 =>
 LA_used_Is lf d rec (KA_used_Is lf d rec (kcA_used_Is lf d)) lf a0 (Value.bool false) v5n1 (Value.int .i64 0)
theorem LQA_used_Is (lf d : Nat) (k : KT) : ∀ fu : Nat, LA_used_Is lf d (evC lf d) k fu = lpA_used_Is lf d fu k
  | 0 => by funext x0 x2 x5 x6; kernel_rfl
  | fu + 1 => by
    have ih := LQA_used_Is lf d k fu
    funext x0 x2 x5 x6; simp only [LA_used_Is, ih, clash3_eq, index3_eq (P := PP) Tryz.underlying9, insB_eq, q_add_eq (P := PP) nf3, q_gtr_eq (P := PP) nf3, q_leq_eq (P := PP) nf5, q_lss_eq (P := PP) nf3, q_sub_eq (P := PP) nf3]; kernel_rfl
set_option maxRecDepth 20000 in
theorem KQA_used_Is (lf d : Nat) : KA_used_Is lf d (evC lf d) (kcA_used_Is lf d) = kcA_used_Is lf d := by
  unfold KA_used_Is
  refine Eq.trans (kEx_eq ?_) ?_
  · exact (runCur_eq _ _ _ (by intro y0 y2 y5 y6 y7; show _ = _; (try simp only [clash3_eq, insB_eq, qS_neq_eq (P := PP) nf9]); kernel_rfl))
  refine Eq.trans (kRt_eq ?_) ?_
  · exact (runCur_eq _ _ _ (by intro y0 y2 y3 y5 y6 y7 y20; show _ = _; (try simp only [clash3_eq, insB_eq, qS_neq_eq (P := PP) nf9]); kernel_rfl))
  rfl
theorem fsh_used_Is (lf d : Nat) (a0 : Value) : inside (F_used_Is lf d (evC lf d) a0) = evC lf (d + 1) 157 #[a0] := by
  unfold F_used_Is; (try simp only [KQA_used_Is lf d, LQA_used_Is, clash3_eq, insB_eq]); kernel_rfl

noncomputable def lpA_used_rows (lf d fu : Nat) (k : KT) (x0 x2 x3 x7 x8 : Value) : M Value := loopK (fun s1 k1 => codeK PP (evC lf d) (gtA 158) lf (codeAt (bodyOf PP 158) [true, true, false, true, false, false]) s1 k1) [0, 2, 3, 7, 8] fu [(0, x0), (2, x2), (3, x3), (7, x7), (8, x8)] k
noncomputable def kcA_used_rows (lf d : Nat) : KT := contAt PP (evC lf d) (gtA 158) lf (bodyOf PP 158) [true, true, false, true, false] (endK PP (resOf PP 158))
noncomputable def LA_used_rows (lf d : Nat) (rec : RT) (k : KT) : Nat → Value → Value → Value → Value → Value → M Value
 | 0, _, _, _, _, _ => M.fail
 | fu + 1, x0, x2, x3, x7, x8 =>
 optK (q_lss PP 3 x8 x7) fun v9n4 =>
 ifV v9n4 (
 optK (index3 PP 9 x0 x8) fun v13n5 =>
 optK (q_quo PP 5 v13n5 (Value.int .u8 16)) fun v15n6 =>
 optK (evIAP3 PP 190 16 1 x3 v15n6) fun v16n7 =>
 insB (evLoad3 PP 38 v16n7) fun v17n8 =>
 optK (q_rem PP 5 v13n5 (Value.int .u8 16)) fun v19n9 =>
 optK (q_sub PP 5 (Value.int .u8 15) v19n9) fun v20n10 =>
 optK (q_shl PP 38 (Value.int .u32 1) v20n10) fun v21n11 =>
 optK (q_or PP 38 v17n8 v21n11) fun v22n12 =>
 optK (evIAP3 PP 190 16 1 x3 v15n6) fun v23n13 =>
 insB (evStore3 PP 38 v23n13 v22n12) fun u14 =>
 optK (q_add PP 3 x8 (Value.int .i64 1)) fun v24n15 =>
 LA_used_rows lf d rec k fu x0 x2 x3 x7 v24n15) (
 k (Ex.exit 0) [(0, x0), (2, x2), (3, x3), (7, x7), (8, x8), (9, v9n4)])
noncomputable def KA_used_rows (lf d : Nat) (rec : RT) (dflt : KT) : KT := (kEx 0 (runCur [0, 2, 3, 7, 8, 9] (fun y0 y2 y3 y7 y8 y9 =>
 insB (evLoadA3 PP 190 16 y3) fun v25n16 =>
 insB (evStoreA3 PP 190 16 y2 v25n16) fun u17 =>
 (evLoad PP 190 y2).bind fun vrn18 =>
 outK [vrn18]) (dflt (Ex.exit 0))) dflt)
noncomputable def F_used_rows (lf d : Nat) (rec : RT) (a0 : Value) : M Value :=
 insB (evAllocZ 190 (repV (Value.int .u32 0) 16)) fun v2n1 =>
 insB (evAllocZ 190 (repV (Value.int .u32 0) 16)) fun v3n2 =>
 optK (len2 PP #[9] [a0]) fun v7n3 =>
 LA_used_rows lf d rec (KA_used_rows lf d rec (kcA_used_rows lf d)) lf a0 v2n1 v3n2 v7n3 (Value.int .i64 0)
theorem LQA_used_rows (lf d : Nat) (k : KT) : ∀ fu : Nat, LA_used_rows lf d (evC lf d) k fu = lpA_used_rows lf d fu k
  | 0 => by funext x0 x2 x3 x7 x8; kernel_rfl
  | fu + 1 => by
    have ih := LQA_used_rows lf d k fu
    funext x0 x2 x3 x7 x8; simp only [LA_used_rows, ih, clash3_eq, evIAP3_eq (P := PP) Tryz.underlying190 gs38, evLoad3_eq (P := PP) ga38, evStore3_eq (P := PP) gs38, index3_eq (P := PP) Tryz.underlying9, insB_eq, q_add_eq (P := PP) nf3, q_lss_eq (P := PP) nf3, q_or_eq (P := PP) nf38, q_quo_eq (P := PP) nf5, q_rem_eq (P := PP) nf5, q_shl_eq (P := PP) nf38, q_sub_eq (P := PP) nf5]; kernel_rfl
set_option maxRecDepth 20000 in
theorem KQA_used_rows (lf d : Nat) : KA_used_rows lf d (evC lf d) (kcA_used_rows lf d) = kcA_used_rows lf d := by
  unfold KA_used_rows
  refine Eq.trans (kEx_eq ?_) ?_
  · exact (runCur_eq _ _ _ (by intro y0 y2 y3 y7 y8 y9; show _ = _; (try simp only [clash3_eq, evLoadA3_eq (P := PP) ga190 gs190, evStoreA3_eq (P := PP) gs190, insB_eq]); kernel_rfl))
  rfl
theorem fsh_used_rows (lf d : Nat) (a0 : Value) : inside (F_used_rows lf d (evC lf d) a0) = evC lf (d + 1) 158 #[a0] := by
  unfold F_used_rows; (try simp only [KQA_used_rows lf d, LQA_used_rows, az190, clash3_eq, insB_eq]); kernel_rfl

noncomputable def lpA_balerref01_Bits (lf d fu : Nat) (k : KT) (x0 x2 x3 x4 : Value) : M Value := loopK (fun s1 k1 => codeK PP (evC lf d) (gtA 159) lf (codeAt (bodyOf PP 159) [true, true, false, true, false, false]) s1 k1) [0, 2, 3, 4] fu [(0, x0), (2, x2), (3, x3), (4, x4)] k
noncomputable def kcA_balerref01_Bits (lf d : Nat) : KT := contAt PP (evC lf d) (gtA 159) lf (bodyOf PP 159) [true, true, false, true, false] (endK PP (resOf PP 159))
noncomputable def LA_balerref01_Bits (lf d : Nat) (rec : RT) (k : KT) : Nat → Value → Value → Value → Value → M Value
 | 0, _, _, _, _ => M.fail
 | fu + 1, x0, x2, x3, x4 =>
 optK (len2 PP #[9] [x0]) fun v7n1 =>
 optK (q_lss PP 3 x4 v7n1) fun v8n2 =>
 ifV v8n2 (
 optK (index3 PP 9 x0 x4) fun v14n3 =>
 conv3 PP 5 38 .u8 .u32 v14n3 fun v15n4 =>
 (inside (rec 167 #[v15n4, (Value.int .i64 8)])).bind fun v16n5 =>
 optK (qS_add PP 9 x3 v16n5) fun v17n6 =>
 optK (q_add PP 3 x4 (Value.int .i64 1)) fun v10n7 =>
 LA_balerref01_Bits lf d rec k fu x0 x2 v17n6 v10n7) (
 k (Ex.exit 0) [(0, x0), (2, x2), (3, x3), (4, x4), (8, v8n2)])
noncomputable def KA_balerref01_Bits (lf d : Nat) (rec : RT) (dflt : KT) : KT := (kEx 0 (runCur [0, 2, 3, 4, 8] (fun y0 y2 y3 y4 y8 =>
 outK [y3]) (dflt (Ex.exit 0))) dflt)
noncomputable def F_balerref01_Bits (lf d : Nat) (rec : RT) (a0 : Value) : M Value :=
 LA_balerref01_Bits lf d rec (KA_balerref01_Bits lf d rec (kcA_balerref01_Bits lf d)) lf a0 (Value.string { data := #[] }) (Value.string { data := #[] }) (Value.int .i64 0)
theorem LQA_balerref01_Bits (lf d : Nat) (k : KT) : ∀ fu : Nat, LA_balerref01_Bits lf d (evC lf d) k fu = lpA_balerref01_Bits lf d fu k
  | 0 => by funext x0 x2 x3 x4; kernel_rfl
  | fu + 1 => by
    have ih := LQA_balerref01_Bits lf d k fu
    funext x0 x2 x3 x4; simp only [LA_balerref01_Bits, ih, clash3_eq, conv3_eq cw5x38, index3_eq (P := PP) Tryz.underlying9, insB_eq, qS_add_eq (P := PP) nf9, q_add_eq (P := PP) nf3, q_lss_eq (P := PP) nf3]; kernel_rfl
set_option maxRecDepth 20000 in
theorem KQA_balerref01_Bits (lf d : Nat) : KA_balerref01_Bits lf d (evC lf d) (kcA_balerref01_Bits lf d) = kcA_balerref01_Bits lf d := by
  unfold KA_balerref01_Bits
  refine Eq.trans (kEx_eq ?_) ?_
  · exact (runCur_eq _ _ _ (by intro y0 y2 y3 y4 y8; show _ = _; (try simp only [clash3_eq, insB_eq]); kernel_rfl))
  rfl
theorem fsh_balerref01_Bits (lf d : Nat) (a0 : Value) : inside (F_balerref01_Bits lf d (evC lf d) a0) = evC lf (d + 1) 159 #[a0] := by
  unfold F_balerref01_Bits; (try simp only [KQA_balerref01_Bits lf d, LQA_balerref01_Bits, clash3_eq, insB_eq]); kernel_rfl

noncomputable def lpA_balerref03_Pieces (lf d fu : Nat) (k : KT) (x0 x2 x3 : Value) : M Value := loopK (fun s1 k1 => codeK PP (evC lf d) (gtA 160) lf (codeAt (bodyOf PP 160) [true, true, false, false, false]) s1 k1) [0, 2, 3] fu [(0, x0), (2, x2), (3, x3)] k
noncomputable def kcA_balerref03_Pieces (lf d : Nat) : KT := contAt PP (evC lf d) (gtA 160) lf (bodyOf PP 160) [true, true, false, false] (endK PP (resOf PP 160))
noncomputable def LA_balerref03_Pieces (lf d : Nat) (rec : RT) (k : KT) : Nat → Value → Value → Value → M Value
 | 0, _, _, _ => M.fail
 | fu + 1, x0, x2, x3 =>
 optK (len2 PP #[9] [x0]) fun v6n1 =>
 optK (q_gtr PP 3 v6n1 (Value.int .i64 0)) fun v7n2 =>
 ifV v7n2 (
 (inside (rec 191 #[x0])).bind fun v9n3 =>
 optK (index3 PP 9 x0 (Value.int .i64 0)) fun v12n4 =>
 insB (evBuildZ PP 166 [Value.int .u8 0, Value.int .i64 0] [(0, v12n4), (1, v9n3)]) fun v14n5 =>
 insB (evBS3 PP 192 1 [(0, v14n5)]) fun v15n6 =>
 insB (evAppend3 PP 192 x3 v15n6) fun v16n7 =>
 slice3 PP 9 x0 (some v9n3) none none fun v19n8 =>
 LA_balerref03_Pieces lf d rec k fu v19n8 x2 v16n7) (
 k (Ex.exit 0) [(0, x0), (2, x2), (3, x3), (7, v7n2)])
noncomputable def KA_balerref03_Pieces (lf d : Nat) (rec : RT) (dflt : KT) : KT := (kEx 0 (runCur [0, 2, 3, 7] (fun y0 y2 y3 y7 =>
 outK [y3]) (dflt (Ex.exit 0))) dflt)
noncomputable def F_balerref03_Pieces (lf d : Nat) (rec : RT) (a0 : Value) : M Value :=
 LA_balerref03_Pieces lf d rec (KA_balerref03_Pieces lf d rec (kcA_balerref03_Pieces lf d)) lf a0 (Value.slice none 0 0) (Value.slice none 0 0)
theorem LQA_balerref03_Pieces (lf d : Nat) (k : KT) : ∀ fu : Nat, LA_balerref03_Pieces lf d (evC lf d) k fu = lpA_balerref03_Pieces lf d fu k
  | 0 => by funext x0 x2 x3; kernel_rfl
  | fu + 1 => by
    have ih := LQA_balerref03_Pieces lf d k fu
    funext x0 x2 x3; simp only [LA_balerref03_Pieces, ih, bz166, clash3_eq, evAppend3_eq, evBS3_eq, index3_eq (P := PP) Tryz.underlying9, insB_eq, q_gtr_eq (P := PP) nf3, slice3_eq (P := PP) Tryz.underlying9]; kernel_rfl
set_option maxRecDepth 20000 in
theorem KQA_balerref03_Pieces (lf d : Nat) : KA_balerref03_Pieces lf d (evC lf d) (kcA_balerref03_Pieces lf d) = kcA_balerref03_Pieces lf d := by
  unfold KA_balerref03_Pieces
  refine Eq.trans (kEx_eq ?_) ?_
  · exact (runCur_eq _ _ _ (by intro y0 y2 y3 y7; show _ = _; (try simp only [clash3_eq, insB_eq]); kernel_rfl))
  rfl
theorem fsh_balerref03_Pieces (lf d : Nat) (a0 : Value) : inside (F_balerref03_Pieces lf d (evC lf d) a0) = evC lf (d + 1) 160 #[a0] := by
  unfold F_balerref03_Pieces; (try simp only [KQA_balerref03_Pieces lf d, LQA_balerref03_Pieces, clash3_eq, insB_eq]); kernel_rfl

noncomputable def lpA_balerref03_Piece (lf d fu : Nat) (k : KT) (x0 x1 x2 x3 x6 x7 : Value) : M Value := loopK (fun s1 k1 => codeK PP (evC lf d) (gtA 161) lf (codeAt (bodyOf PP 161) [true, true, false, true, false, false]) s1 k1) [0, 1, 2, 3, 6, 7] fu [(0, x0), (1, x1), (2, x2), (3, x3), (6, x6), (7, x7)] k
noncomputable def kcA_balerref03_Piece (lf d : Nat) : KT := contAt PP (evC lf d) (gtA 161) lf (bodyOf PP 161) [true, true, false, true, false] (endK PP (resOf PP 161))
noncomputable def LA_balerref03_Piece (lf d : Nat) (rec : RT) (k : KT) : Nat → Value → Value → Value → Value → Value → Value → M Value
 | 0, _, _, _, _, _, _ => M.fail
 | fu + 1, x0, x1, x2, x3, x6, x7 =>
 optK (q_lss PP 3 x7 x6) fun v8n4 =>
 ifV v8n4 (
 optK (q_lss PP 3 x7 (Value.int .i64 4)) fun v11n5 =>
 ifV v11n5 (
 optK (evFA3 PP 166 0 x1 0) fun v13n6 =>
 insB (evLoad3 PP 5 v13n6) fun v14n7 =>
 insB (evBS3 PP 133 1 [(0, v14n7)]) fun v15n8 =>
 insB (evToStr3 v15n8) fun v16n9 =>
 optK (qS_add PP 9 x3 v16n9) fun v17n10 =>
 optK (q_add PP 3 x7 (Value.int .i64 1)) fun v18n11 =>
 LA_balerref03_Piece lf d rec k fu x0 x1 x2 v17n10 x6 v18n11) (
 optK (q_add PP 3 x7 (Value.int .i64 1)) fun v18n12 =>
 LA_balerref03_Piece lf d rec k fu x0 x1 x2 x3 x6 v18n12)) (
 k (Ex.exit 0) [(0, x0), (1, x1), (2, x2), (3, x3), (6, x6), (7, x7), (8, v8n4)])
noncomputable def KA_balerref03_Piece (lf d : Nat) (rec : RT) (dflt : KT) : KT := (kEx 0 (runCur [0, 1, 2, 3, 6, 7, 8] (fun y0 y1 y2 y3 y6 y7 y8 =>
 optK (evFA3 PP 166 1 y1 1) fun v19n13 =>
 insB (evLoad3 PP 3 v19n13) fun v20n14 =>
 optK (q_geq PP 3 v20n14 (Value.int .i64 4)) fun v21n15 =>
 ifV v21n15 (
 optK (evFA3 PP 166 1 y1 1) fun v23n16 =>
 insB (evLoad3 PP 3 v23n16) fun v24n17 =>
 optK (q_sub PP 3 v24n17 (Value.int .i64 4)) fun v25n18 =>
 conv3 PP 3 5 .i64 .u8 v25n18 fun v26n19 =>
 insB (evBS3 PP 133 1 [(0, v26n19)]) fun v27n20 =>
 insB (evToStr3 v27n20) fun v28n21 =>
 optK (qS_add PP 9 y3 v28n21) fun v29n22 =>
 outK [v29n22]) (
 outK [y3])) (dflt (Ex.exit 0))) dflt)
noncomputable def F_balerref03_Piece (lf d : Nat) (rec : RT) (a0 : Value) : M Value :=
 insB (evBox3 PP 166 a0) fun v1n1 =>
 optK (evFA3 PP 166 1 v1n1 1) fun v5n2 =>
 insB (evLoad3 PP 3 v5n2) fun v6n3 =>
 LA_balerref03_Piece lf d rec (KA_balerref03_Piece lf d rec (kcA_balerref03_Piece lf d)) lf a0 v1n1 (Value.string { data := #[] }) (Value.string { data := #[] }) v6n3 (Value.int .i64 0)
theorem LQA_balerref03_Piece (lf d : Nat) (k : KT) : ∀ fu : Nat, LA_balerref03_Piece lf d (evC lf d) k fu = lpA_balerref03_Piece lf d fu k
  | 0 => by funext x0 x1 x2 x3 x6 x7; kernel_rfl
  | fu + 1 => by
    have ih := LQA_balerref03_Piece lf d k fu
    funext x0 x1 x2 x3 x6 x7; simp only [LA_balerref03_Piece, ih, clash3_eq, evBS3_eq, evFA3_eq (P := PP) gf166f0, evLoad3_eq (P := PP) ga5, evToStr3_eq, insB_eq, qS_add_eq (P := PP) nf9, q_add_eq (P := PP) nf3, q_lss_eq (P := PP) nf3]; kernel_rfl
set_option maxRecDepth 20000 in
theorem KQA_balerref03_Piece (lf d : Nat) : KA_balerref03_Piece lf d (evC lf d) (kcA_balerref03_Piece lf d) = kcA_balerref03_Piece lf d := by
  unfold KA_balerref03_Piece
  refine Eq.trans (kEx_eq ?_) ?_
  · exact (runCur_eq _ _ _ (by intro y0 y1 y2 y3 y6 y7 y8; show _ = _; (try simp only [clash3_eq, conv3_eq cw3x5, evBS3_eq, evFA3_eq (P := PP) gf166f1, evLoad3_eq (P := PP) ga3, evToStr3_eq, insB_eq, qS_add_eq (P := PP) nf9, q_geq_eq (P := PP) nf3, q_sub_eq (P := PP) nf3]); kernel_rfl))
  rfl
theorem fsh_balerref03_Piece (lf d : Nat) (a0 : Value) : inside (F_balerref03_Piece lf d (evC lf d) a0) = evC lf (d + 1) 161 #[a0] := by
  unfold F_balerref03_Piece; (try simp only [KQA_balerref03_Piece lf d, LQA_balerref03_Piece, clash3_eq, evBox3_eq, evFA3_eq (P := PP) gf166f1, evLoad3_eq (P := PP) ga3, insB_eq]); kernel_rfl

noncomputable def F_balerref17_Of (lf d : Nat) (rec : RT) (a0 : Value) : M Value :=
 insB (evAllocZ 196 [Value.string ⟨⟨[]⟩⟩, Value.int .i64 0]) fun v2n1 =>
 (inside (rec 193 #[a0])).bind fun v5n2 =>
 (inside (rec 192 #[a0, v5n2])).bind fun v6n3 =>
 insB (evStoreA3 PP 196 2 v2n1 v6n3) fun u4 =>
 (evLoad PP 196 v2n1).bind fun vrn5 =>
 outK [vrn5]
theorem fsh_balerref17_Of (lf d : Nat) (a0 : Value) : inside (F_balerref17_Of lf d (evC lf d) a0) = evC lf (d + 1) 162 #[a0] := by
  unfold F_balerref17_Of; (try simp only [az196, clash3_eq, evStoreA3_eq (P := PP) gs196, insB_eq]); kernel_rfl

noncomputable def F_balerref20_Bits (lf d : Nat) (rec : RT) (a0 : Value) : M Value :=
 insB (evBox3 PP 200 a0) fun v1n1 =>
 optK (evFA3 PP 200 0 v1n1 0) fun v8n2 =>
 insB (evLoad3 PP 9 v8n2) fun v9n3 =>
 (inside (rec 194 #[v9n3])).bind fun v10n4 =>
 optK (evFA3 PP 200 0 v1n1 0) fun v12n5 =>
 insB (evLoad3 PP 9 v12n5) fun v13n6 =>
 (inside (rec 195 #[v13n6, v10n4])).bind fun v15n7 =>
 optK (evExtract v15n7 0) fun v16n8 =>
 optK (evExtract v15n7 1) fun v17n9 =>
 optK (len2 PP #[9] [v10n4]) fun v21n10 =>
 (inside (rec 196 #[v16n8, v21n10])).bind fun v22n11 =>
 optK (evExtract v22n11 0) fun v23n12 =>
 optK (evExtract v22n11 1) fun v24n13 =>
 optK (evFA3 PP 200 2 v1n1 2) fun v25n14 =>
 (timed (
 insB (evLoad3 PP 38 v25n14) fun v26n16 => M.ret v26n16)).bind fun vtn15 =>
 (timed (
 (inside (rec 167 #[vtn15.1, (Value.int .i64 32)])).bind fun v27n18 => M.ret v27n18)).bind fun vtn17 =>
 optK (qS_add PP 9 vtn17.1 (Value.string { data := #[48] })) fun v28n19 =>
 optK (evFA3 PP 200 1 v1n1 1) fun v29n20 =>
 (timed (
 insB (evLoad3 PP 3 v29n20) fun v30n22 => M.ret v30n22)).bind fun vtn21 =>
 (timed (
 conv3 PP 3 38 .i64 .u32 vtn21.1 fun v31n24 => M.ret v31n24)).bind fun vtn23 =>
 (timed (
 (inside (rec 167 #[vtn23.1, (Value.int .i64 24)])).bind fun v32n26 => M.ret v32n26)).bind fun vtn25 =>
 optK (qS_add PP 9 v28n19 vtn25.1) fun v33n27 =>
 (timed (
 (inside (rec 197 #[v10n4])).bind fun v35n29 => M.ret v35n29)).bind fun vtn28 =>
 optK (qS_add PP 9 v33n27 vtn28.1) fun v36n30 =>
 optK (len2 PP #[9] [v10n4]) fun v39n31 =>
 optK (q_add PP 3 v39n31 (Value.int .i64 2)) fun v40n32 =>
 (timed (
 (inside (rec 198 #[v23n12, v40n32])).bind fun v41n34 => M.ret v41n34)).bind fun vtn33 =>
 optK (qS_add PP 9 v36n30 vtn33.1) fun v42n35 =>
 chkT ((!(clash3 vtn15.2 vtn23.2) && true) && ((!(clash3 vtn17.2 vtn21.2) && (!(clash3 vtn17.2 vtn23.2) && true)) && true)) (
 outK [v42n35])
theorem fsh_balerref20_Bits (lf d : Nat) (a0 : Value) : inside (F_balerref20_Bits lf d (evC lf d) a0) = evC lf (d + 1) 163 #[a0] := by
  unfold F_balerref20_Bits; (try simp only [clash3_eq, conv3_eq cw3x38, evBox3_eq, evFA3_eq (P := PP) gf200f0, evFA3_eq (P := PP) gf200f1, evFA3_eq (P := PP) gf200f2, evLoad3_eq (P := PP) ga3, evLoad3_eq (P := PP) ga38, evLoad3_eq (P := PP) ga9, insB_eq, qS_add_eq (P := PP) nf9, q_add_eq (P := PP) nf3]); kernel_rfl

noncomputable def lpA_balerref02_Of (lf d fu : Nat) (k : KT) (x0 x2 x3 x4 : Value) : M Value := loopK (fun s1 k1 => codeK PP (evC lf d) (gtA 164) lf (codeAt (bodyOf PP 164) [true, true, false, true, false, false]) s1 k1) [0, 2, 3, 4] fu [(0, x0), (2, x2), (3, x3), (4, x4)] k
noncomputable def kcA_balerref02_Of (lf d : Nat) : KT := contAt PP (evC lf d) (gtA 164) lf (bodyOf PP 164) [true, true, false, true, false] (endK PP (resOf PP 164))
noncomputable def LA_balerref02_Of (lf d : Nat) (rec : RT) (k : KT) : Nat → Value → Value → Value → Value → M Value
 | 0, _, _, _, _ => M.fail
 | fu + 1, x0, x2, x3, x4 =>
 optK (len2 PP #[9] [x0]) fun v7n1 =>
 optK (q_lss PP 3 x4 v7n1) fun v8n2 =>
 ifV v8n2 (
 optK (index3 PP 9 x0 x4) fun v14n3 =>
 (inside (rec 199 #[x3, v14n3])).bind fun v15n4 =>
 optK (q_add PP 3 x4 (Value.int .i64 1)) fun v10n5 =>
 LA_balerref02_Of lf d rec k fu x0 x2 v15n4 v10n5) (
 k (Ex.exit 0) [(0, x0), (2, x2), (3, x3), (4, x4), (8, v8n2)])
noncomputable def KA_balerref02_Of (lf d : Nat) (rec : RT) (dflt : KT) : KT := (kEx 0 (runCur [0, 2, 3, 4, 8] (fun y0 y2 y3 y4 y8 =>
 optK (q_sub PP 38 (Value.int .u32 4294967295) y3) fun v17n6 =>
 outK [v17n6]) (dflt (Ex.exit 0))) dflt)
noncomputable def F_balerref02_Of (lf d : Nat) (rec : RT) (a0 : Value) : M Value :=
 LA_balerref02_Of lf d rec (KA_balerref02_Of lf d rec (kcA_balerref02_Of lf d)) lf a0 (Value.int .u32 0) (Value.int .u32 4294967295) (Value.int .i64 0)
theorem LQA_balerref02_Of (lf d : Nat) (k : KT) : ∀ fu : Nat, LA_balerref02_Of lf d (evC lf d) k fu = lpA_balerref02_Of lf d fu k
  | 0 => by funext x0 x2 x3 x4; kernel_rfl
  | fu + 1 => by
    have ih := LQA_balerref02_Of lf d k fu
    funext x0 x2 x3 x4; simp only [LA_balerref02_Of, ih, clash3_eq, index3_eq (P := PP) Tryz.underlying9, insB_eq, q_add_eq (P := PP) nf3, q_lss_eq (P := PP) nf3]; kernel_rfl
set_option maxRecDepth 20000 in
theorem KQA_balerref02_Of (lf d : Nat) : KA_balerref02_Of lf d (evC lf d) (kcA_balerref02_Of lf d) = kcA_balerref02_Of lf d := by
  unfold KA_balerref02_Of
  refine Eq.trans (kEx_eq ?_) ?_
  · exact (runCur_eq _ _ _ (by intro y0 y2 y3 y4 y8; show _ = _; (try simp only [clash3_eq, insB_eq, q_sub_eq (P := PP) nf38]); kernel_rfl))
  rfl
theorem fsh_balerref02_Of (lf d : Nat) (a0 : Value) : inside (F_balerref02_Of lf d (evC lf d) a0) = evC lf (d + 1) 164 #[a0] := by
  unfold F_balerref02_Of; (try simp only [KQA_balerref02_Of lf d, LQA_balerref02_Of, clash3_eq, insB_eq]); kernel_rfl

noncomputable def lpA_balerref01_Bytes (lf d fu : Nat) (k : KT) (x0 x2 x3 : Value) : M Value := loopK (fun s1 k1 => codeK PP (evC lf d) (gtA 165) lf (codeAt (bodyOf PP 165) [true, true, false, false, false]) s1 k1) [0, 2, 3] fu [(0, x0), (2, x2), (3, x3)] k
noncomputable def kcA_balerref01_Bytes (lf d : Nat) : KT := contAt PP (evC lf d) (gtA 165) lf (bodyOf PP 165) [true, true, false, false] (endK PP (resOf PP 165))
noncomputable def LA_balerref01_Bytes (lf d : Nat) (rec : RT) (k : KT) : Nat → Value → Value → Value → M Value
 | 0, _, _, _ => M.fail
 | fu + 1, x0, x2, x3 =>
 optK (len2 PP #[9] [x0]) fun v5n1 =>
 optK (q_geq PP 3 v5n1 (Value.int .i64 8)) fun v6n2 =>
 ifV v6n2 (
 slice3 PP 9 x0 none (some (Value.int .i64 8)) none fun v9n3 =>
 (inside (rec 200 #[v9n3])).bind fun v10n4 =>
 conv3 PP 38 5 .u32 .u8 v10n4 fun v11n5 =>
 insB (evBS3 PP 133 1 [(0, v11n5)]) fun v12n6 =>
 insB (evToStr3 v12n6) fun v13n7 =>
 optK (qS_add PP 9 x3 v13n7) fun v14n8 =>
 slice3 PP 9 x0 (some (Value.int .i64 8)) none none fun v16n9 =>
 LA_balerref01_Bytes lf d rec k fu v16n9 x2 v14n8) (
 k (Ex.exit 0) [(0, x0), (2, x2), (3, x3), (6, v6n2)])
noncomputable def KA_balerref01_Bytes (lf d : Nat) (rec : RT) (dflt : KT) : KT := (kEx 0 (runCur [0, 2, 3, 6] (fun y0 y2 y3 y6 =>
 outK [y3]) (dflt (Ex.exit 0))) dflt)
noncomputable def F_balerref01_Bytes (lf d : Nat) (rec : RT) (a0 : Value) : M Value :=
 LA_balerref01_Bytes lf d rec (KA_balerref01_Bytes lf d rec (kcA_balerref01_Bytes lf d)) lf a0 (Value.string { data := #[] }) (Value.string { data := #[] })
theorem LQA_balerref01_Bytes (lf d : Nat) (k : KT) : ∀ fu : Nat, LA_balerref01_Bytes lf d (evC lf d) k fu = lpA_balerref01_Bytes lf d fu k
  | 0 => by funext x0 x2 x3; kernel_rfl
  | fu + 1 => by
    have ih := LQA_balerref01_Bytes lf d k fu
    funext x0 x2 x3; simp only [LA_balerref01_Bytes, ih, clash3_eq, conv3_eq cw38x5, evBS3_eq, evToStr3_eq, insB_eq, qS_add_eq (P := PP) nf9, q_geq_eq (P := PP) nf3, slice3_eq (P := PP) Tryz.underlying9]; kernel_rfl
set_option maxRecDepth 20000 in
theorem KQA_balerref01_Bytes (lf d : Nat) : KA_balerref01_Bytes lf d (evC lf d) (kcA_balerref01_Bytes lf d) = kcA_balerref01_Bytes lf d := by
  unfold KA_balerref01_Bytes
  refine Eq.trans (kEx_eq ?_) ?_
  · exact (runCur_eq _ _ _ (by intro y0 y2 y3 y6; show _ = _; (try simp only [clash3_eq, insB_eq]); kernel_rfl))
  rfl
theorem fsh_balerref01_Bytes (lf d : Nat) (a0 : Value) : inside (F_balerref01_Bytes lf d (evC lf d) a0) = evC lf (d + 1) 165 #[a0] := by
  unfold F_balerref01_Bytes; (try simp only [KQA_balerref01_Bytes lf d, LQA_balerref01_Bytes, clash3_eq, insB_eq]); kernel_rfl

noncomputable def lpA_balerref01_Padded (lf d fu : Nat) (k : KT) (x0 x2 : Value) : M Value := loopK (fun s1 k1 => codeK PP (evC lf d) (gtA 166) lf (codeAt (bodyOf PP 166) [true, false, false, false]) s1 k1) [0, 2] fu [(0, x0), (2, x2)] k
noncomputable def kcA_balerref01_Padded (lf d : Nat) : KT := contAt PP (evC lf d) (gtA 166) lf (bodyOf PP 166) [true, false, false] (endK PP (resOf PP 166))
noncomputable def LA_balerref01_Padded (lf d : Nat) (rec : RT) (k : KT) : Nat → Value → Value → M Value
 | 0, _, _ => M.fail
 | fu + 1, x0, x2 =>
 optK (len2 PP #[9] [x0]) fun v4n1 =>
 optK (q_rem PP 3 v4n1 (Value.int .i64 8)) fun v5n2 =>
 optK (q_neq PP 3 v5n2 (Value.int .i64 0)) fun v6n3 =>
 ifV v6n3 (
 optK (qS_add PP 9 x0 (Value.string { data := #[48] })) fun v8n4 =>
 LA_balerref01_Padded lf d rec k fu v8n4 x2) (
 k (Ex.exit 0) [(0, x0), (2, x2), (6, v6n3)])
noncomputable def KA_balerref01_Padded (lf d : Nat) (rec : RT) (dflt : KT) : KT := (kEx 0 (runCur [0, 2, 6] (fun y0 y2 y6 =>
 outK [y0]) (dflt (Ex.exit 0))) dflt)
noncomputable def F_balerref01_Padded (lf d : Nat) (rec : RT) (a0 : Value) : M Value :=
 LA_balerref01_Padded lf d rec (KA_balerref01_Padded lf d rec (kcA_balerref01_Padded lf d)) lf a0 (Value.string { data := #[] })
theorem LQA_balerref01_Padded (lf d : Nat) (k : KT) : ∀ fu : Nat, LA_balerref01_Padded lf d (evC lf d) k fu = lpA_balerref01_Padded lf d fu k
  | 0 => by funext x0 x2; kernel_rfl
  | fu + 1 => by
    have ih := LQA_balerref01_Padded lf d k fu
    funext x0 x2; simp only [LA_balerref01_Padded, ih, clash3_eq, insB_eq, qS_add_eq (P := PP) nf9, q_neq_eq (P := PP) nf3, q_rem_eq (P := PP) nf3]; kernel_rfl
set_option maxRecDepth 20000 in
theorem KQA_balerref01_Padded (lf d : Nat) : KA_balerref01_Padded lf d (evC lf d) (kcA_balerref01_Padded lf d) = kcA_balerref01_Padded lf d := by
  unfold KA_balerref01_Padded
  refine Eq.trans (kEx_eq ?_) ?_
  · exact (runCur_eq _ _ _ (by intro y0 y2 y6; show _ = _; (try simp only [clash3_eq, insB_eq]); kernel_rfl))
  rfl
theorem fsh_balerref01_Padded (lf d : Nat) (a0 : Value) : inside (F_balerref01_Padded lf d (evC lf d) a0) = evC lf (d + 1) 166 #[a0] := by
  unfold F_balerref01_Padded; (try simp only [KQA_balerref01_Padded lf d, LQA_balerref01_Padded, clash3_eq, insB_eq]); kernel_rfl

noncomputable def lpA_balerref01_Field (lf d fu : Nat) (k : KT) (x0 x1 x4 x5 x6 x7 : Value) : M Value := loopK (fun s1 k1 => codeK PP (evC lf d) (gtA 167) lf (codeAt (bodyOf PP 167) [true, true, false, true, false, false]) s1 k1) [0, 1, 4, 5, 6, 7] fu [(0, x0), (1, x1), (4, x4), (5, x5), (6, x6), (7, x7)] k
noncomputable def kcA_balerref01_Field (lf d : Nat) : KT := contAt PP (evC lf d) (gtA 167) lf (bodyOf PP 167) [true, true, false, true, false] (endK PP (resOf PP 167))
noncomputable def LA_balerref01_Field (lf d : Nat) (rec : RT) (k : KT) : Nat → Value → Value → Value → Value → Value → Value → M Value
 | 0, _, _, _, _, _, _ => M.fail
 | fu + 1, x0, x1, x4, x5, x6, x7 =>
 optK (q_lss PP 3 x7 x6) fun v8n1 =>
 ifV v8n1 (
 optK (q_rem PP 38 x0 (Value.int .u32 2)) fun v10n2 =>
 optK (q_rem PP 38 x0 (Value.int .u32 2)) fun v12n3 =>
 optK (q_add PP 38 v12n3 (Value.int .u32 1)) fun v13n4 =>
 slice3 PP 9 (Value.string { data := #[48, 49] }) (some v10n2) (some v13n4) none fun v14n5 =>
 optK (qS_add PP 9 v14n5 x5) fun v16n6 =>
 optK (q_quo PP 38 x0 (Value.int .u32 2)) fun v18n7 =>
 optK (q_add PP 3 x7 (Value.int .i64 1)) fun v19n8 =>
 LA_balerref01_Field lf d rec k fu v18n7 x1 x4 v16n6 x6 v19n8) (
 k (Ex.exit 0) [(0, x0), (1, x1), (4, x4), (5, x5), (6, x6), (7, x7), (8, v8n1)])
noncomputable def KA_balerref01_Field (lf d : Nat) (rec : RT) (dflt : KT) : KT := (kEx 0 (runCur [0, 1, 4, 5, 6, 7, 8] (fun y0 y1 y4 y5 y6 y7 y8 =>
 outK [y5]) (dflt (Ex.exit 0))) dflt)
noncomputable def F_balerref01_Field (lf d : Nat) (rec : RT) (a0 a1 : Value) : M Value :=
 LA_balerref01_Field lf d rec (KA_balerref01_Field lf d rec (kcA_balerref01_Field lf d)) lf a0 a1 (Value.string { data := #[] }) (Value.string { data := #[] }) a1 (Value.int .i64 0)
theorem LQA_balerref01_Field (lf d : Nat) (k : KT) : ∀ fu : Nat, LA_balerref01_Field lf d (evC lf d) k fu = lpA_balerref01_Field lf d fu k
  | 0 => by funext x0 x1 x4 x5 x6 x7; kernel_rfl
  | fu + 1 => by
    have ih := LQA_balerref01_Field lf d k fu
    funext x0 x1 x4 x5 x6 x7; simp only [LA_balerref01_Field, ih, clash3_eq, insB_eq, qS_add_eq (P := PP) nf9, q_add_eq (P := PP) nf3, q_add_eq (P := PP) nf38, q_lss_eq (P := PP) nf3, q_quo_eq (P := PP) nf38, q_rem_eq (P := PP) nf38, slice3_eq (P := PP) Tryz.underlying9]; kernel_rfl
set_option maxRecDepth 20000 in
theorem KQA_balerref01_Field (lf d : Nat) : KA_balerref01_Field lf d (evC lf d) (kcA_balerref01_Field lf d) = kcA_balerref01_Field lf d := by
  unfold KA_balerref01_Field
  refine Eq.trans (kEx_eq ?_) ?_
  · exact (runCur_eq _ _ _ (by intro y0 y1 y4 y5 y6 y7 y8; show _ = _; (try simp only [clash3_eq, insB_eq]); kernel_rfl))
  rfl
theorem fsh_balerref01_Field (lf d : Nat) (a0 a1 : Value) : inside (F_balerref01_Field lf d (evC lf d) a0 a1) = evC lf (d + 1) 167 #[a0, a1] := by
  unfold F_balerref01_Field; (try simp only [KQA_balerref01_Field lf d, LQA_balerref01_Field, clash3_eq, insB_eq]); kernel_rfl

noncomputable def lpA_balerref02_Stream (lf d fu : Nat) (k : KT) (x0 x2 x3 x6 x7 x8 : Value) : M Value := loopK (fun s1 k1 => codeK PP (evC lf d) (gtA 168) lf (codeAt (bodyOf PP 168) [true, true, false, true, false, false]) s1 k1) [0, 2, 3, 6, 7, 8] fu [(0, x0), (2, x2), (3, x3), (6, x6), (7, x7), (8, x8)] k
noncomputable def kcA_balerref02_Stream (lf d : Nat) : KT := contAt PP (evC lf d) (gtA 168) lf (bodyOf PP 168) [true, true, false, true, false] (endK PP (resOf PP 168))
noncomputable def LA_balerref02_Stream (lf d : Nat) (rec : RT) (k : KT) : Nat → Value → Value → Value → Value → Value → Value → M Value
 | 0, _, _, _, _, _, _ => M.fail
 | fu + 1, x0, x2, x3, x6, x7, x8 =>
 optK (q_lss PP 3 x8 x7) fun v9n2 =>
 ifV v9n2 (
 optK (evIA3 PP 126 1 x6 x8) fun v10n3 =>
 insB (evLoad3 PP 38 v10n3) fun v11n4 =>
 (inside (rec 201 #[x3, v11n4])).bind fun v14n5 =>
 optK (q_add PP 3 x8 (Value.int .i64 1)) fun v15n6 =>
 LA_balerref02_Stream lf d rec k fu x0 x2 v14n5 x6 x7 v15n6) (
 k (Ex.exit 0) [(0, x0), (2, x2), (3, x3), (6, x6), (7, x7), (8, x8), (9, v9n2)])
noncomputable def KA_balerref02_Stream (lf d : Nat) (rec : RT) (dflt : KT) : KT := (kEx 0 (runCur [0, 2, 3, 6, 7, 8, 9] (fun y0 y2 y3 y6 y7 y8 y9 =>
 outK [y3]) (dflt (Ex.exit 0))) dflt)
noncomputable def F_balerref02_Stream (lf d : Nat) (rec : RT) (a0 : Value) : M Value :=
 optK (len2 PP #[126] [a0]) fun v7n1 =>
 LA_balerref02_Stream lf d rec (KA_balerref02_Stream lf d rec (kcA_balerref02_Stream lf d)) lf a0 (Value.int .u32 0) (Value.int .u32 0) a0 v7n1 (Value.int .i64 0)
theorem LQA_balerref02_Stream (lf d : Nat) (k : KT) : ∀ fu : Nat, LA_balerref02_Stream lf d (evC lf d) k fu = lpA_balerref02_Stream lf d fu k
  | 0 => by funext x0 x2 x3 x6 x7 x8; kernel_rfl
  | fu + 1 => by
    have ih := LQA_balerref02_Stream lf d k fu
    funext x0 x2 x3 x6 x7 x8; simp only [LA_balerref02_Stream, ih, clash3_eq, evIA3_eq (P := PP) Tryz.underlying126 gs38, evLoad3_eq (P := PP) ga38, insB_eq, q_add_eq (P := PP) nf3, q_lss_eq (P := PP) nf3]; kernel_rfl
set_option maxRecDepth 20000 in
theorem KQA_balerref02_Stream (lf d : Nat) : KA_balerref02_Stream lf d (evC lf d) (kcA_balerref02_Stream lf d) = kcA_balerref02_Stream lf d := by
  unfold KA_balerref02_Stream
  refine Eq.trans (kEx_eq ?_) ?_
  · exact (runCur_eq _ _ _ (by intro y0 y2 y3 y6 y7 y8 y9; show _ = _; (try simp only [clash3_eq, insB_eq]); kernel_rfl))
  rfl
theorem fsh_balerref02_Stream (lf d : Nat) (a0 : Value) : inside (F_balerref02_Stream lf d (evC lf d) a0) = evC lf (d + 1) 168 #[a0] := by
  unfold F_balerref02_Stream; (try simp only [KQA_balerref02_Stream lf d, LQA_balerref02_Stream, clash3_eq, insB_eq]); kernel_rfl

noncomputable def lpA_crc_Table (lf d fu : Nat) (k : KT) (x0 x1 x5 : Value) : M Value := loopK (fun s1 k1 => codeK PP (evC lf d) (gtA 169) lf (codeAt (bodyOf PP 169) [true, true, false, true, false, false]) s1 k1) [0, 1, 5] fu [(0, x0), (1, x1), (5, x5)] k
noncomputable def kcA_crc_Table (lf d : Nat) : KT := contAt PP (evC lf d) (gtA 169) lf (bodyOf PP 169) [true, true, false, true, false] (endK PP (resOf PP 169))
noncomputable def lpB_crc_Table (lf d fu : Nat) (k : KT) (x0 x1 x2 x3 x5 x6 x11 : Value) : M Value := loopK (fun s1 k1 => codeK PP (evC lf d) (gtA 169) lf (codeAt (bodyOf PP 169) [true, true, false, true, false, false, true, true, false, false, true, true, false, true, false, false]) s1 k1) [0, 1, 2, 3, 5, 6, 11] fu [(0, x0), (1, x1), (2, x2), (3, x3), (5, x5), (6, x6), (11, x11)] k
noncomputable def kcB_crc_Table (lf d fu : Nat) (k : KT) : KT := contAt PP (evC lf d) (gtA 169) lf (codeAt (bodyOf PP 169) [true, true, false, true, false, false]) [true, true, false, false, true, true, false, true, false] (againK (fun s1 => loopK (fun s1 k1 => codeK PP (evC lf d) (gtA 169) lf (codeAt (bodyOf PP 169) [true, true, false, true, false, false]) s1 k1) [0, 1, 5] fu (s1.keep [0, 1, 5]) k) k)
noncomputable def KA_crc_Table (lf d : Nat) (rec : RT) (dflt : KT) : KT := (kEx 0 (runCur [0, 1, 5, 6] (fun y0 y1 y5 y6 =>
 insB (evLoadA3 PP 204 256 y1) fun v25n6 =>
 insB (evStoreA3 PP 204 256 y0 v25n6) fun u7 =>
 (evLoad PP 204 y0).bind fun vrn8 =>
 outK [vrn8]) (dflt (Ex.exit 0))) dflt)
noncomputable def LB_crc_Table (lf d : Nat) (rec : RT) (k : KT) : Nat → Value → Value → Value → Value → Value → Value → Value → M Value
 | 0, _, _, _, _, _, _, _ => M.fail
 | fu + 1, x0, x1, x2, x3, x5, x6, x11 =>
 optK (q_lss PP 3 x11 (Value.int .i64 8)) fun v12n9 =>
 ifV v12n9 (
 optK (q_shr PP 38 x3 (Value.int .u64 31)) fun v14n10 =>
 optK (q_shl PP 38 x3 (Value.int .u64 1)) fun v16n11 =>
 optK (q_mul PP 38 v14n10 (Value.int .u32 79764919)) fun v18n12 =>
 optK (q_xor PP 38 v16n11 v18n12) fun v19n13 =>
 optK (q_add PP 3 x11 (Value.int .i64 1)) fun v20n14 =>
 LB_crc_Table lf d rec k fu x0 x1 x2 v19n13 x5 x6 v20n14) (
 k (Ex.exit 2) [(0, x0), (1, x1), (2, x2), (3, x3), (5, x5), (6, x6), (11, x11), (12, v12n9)])
noncomputable def KB_crc_Table (lf d : Nat) (rec : RT) (fu : Nat) (k : KT) (again : Value → Value → Value → M Value) (dflt : KT) : KT := (kEx 2 (runCur [0, 1, 2, 3, 5, 6, 11, 12] (fun y0 y1 y2 y3 y5 y6 y11 y12 =>
 optK (evIAP3 PP 204 256 1 y1 y2) fun v23n15 =>
 insB (evStore3 PP 38 v23n15 y3) fun u16 =>
 optK (q_add PP 3 y5 (Value.int .i64 1)) fun v24n17 =>
 again y0 y1 v24n17) (dflt (Ex.exit 2))) dflt)
noncomputable def LA_crc_Table (lf d : Nat) (rec : RT) (k : KT) : Nat → Value → Value → Value → M Value
 | 0, _, _, _ => M.fail
 | fu + 1, x0, x1, x5 =>
 optK (q_lss PP 3 x5 (Value.int .i64 256)) fun v6n3 =>
 ifV v6n3 (
 conv3 PP 3 38 .i64 .u32 x5 fun v9n4 =>
 optK (q_shl PP 38 v9n4 (Value.int .u64 24)) fun v10n5 =>
 LB_crc_Table lf d rec (KB_crc_Table lf d rec fu k (LA_crc_Table lf d rec k fu) (kcB_crc_Table lf d fu k)) lf x0 x1 x5 v10n5 x5 v6n3 (Value.int .i64 0)) (
 k (Ex.exit 0) [(0, x0), (1, x1), (5, x5), (6, v6n3)])
noncomputable def F_crc_Table (lf d : Nat) (rec : RT) : M Value :=
 insB (evAllocZ 204 (repV (Value.int .u32 0) 256)) fun v0n1 =>
 insB (evAllocZ 204 (repV (Value.int .u32 0) 256)) fun v1n2 =>
 LA_crc_Table lf d rec (KA_crc_Table lf d rec (kcA_crc_Table lf d)) lf v0n1 v1n2 (Value.int .i64 0)
set_option maxRecDepth 20000 in
theorem KQA_crc_Table (lf d : Nat) : KA_crc_Table lf d (evC lf d) (kcA_crc_Table lf d) = kcA_crc_Table lf d := by
  unfold KA_crc_Table
  refine Eq.trans (kEx_eq ?_) ?_
  · exact (runCur_eq _ _ _ (by intro y0 y1 y5 y6; show _ = _; (try simp only [clash3_eq, evLoadA3_eq (P := PP) ga204 gs204, evStoreA3_eq (P := PP) gs204, insB_eq]); kernel_rfl))
  rfl
theorem LQB_crc_Table (lf d : Nat) (k : KT) : ∀ fu : Nat, LB_crc_Table lf d (evC lf d) k fu = lpB_crc_Table lf d fu k
  | 0 => by funext x0 x1 x2 x3 x5 x6 x11; kernel_rfl
  | fu + 1 => by
    have ih := LQB_crc_Table lf d k fu
    funext x0 x1 x2 x3 x5 x6 x11; simp only [LB_crc_Table, ih, clash3_eq, insB_eq, q_add_eq (P := PP) nf3, q_lss_eq (P := PP) nf3, q_mul_eq (P := PP) nf38, q_shl_eq (P := PP) nf38, q_shr_eq (P := PP) nf38, q_xor_eq (P := PP) nf38]; kernel_rfl
set_option maxRecDepth 20000 in
theorem KQB_crc_Table (lf d fu : Nat) (k : KT) (again : Value → Value → Value → M Value) (ha : again = lpA_crc_Table lf d fu k) : KB_crc_Table lf d (evC lf d) fu k again (kcB_crc_Table lf d fu k) = kcB_crc_Table lf d fu k := by
  subst ha
  unfold KB_crc_Table
  refine Eq.trans (kEx_eq ?_) ?_
  · exact (runCur_eq _ _ _ (by intro y0 y1 y2 y3 y5 y6 y11 y12; show _ = _; (try simp only [clash3_eq, evIAP3_eq (P := PP) Tryz.underlying204 gs38, evStore3_eq (P := PP) gs38, insB_eq, q_add_eq (P := PP) nf3]); kernel_rfl))
  rfl
theorem LQA_crc_Table (lf d : Nat) (k : KT) : ∀ fu : Nat, LA_crc_Table lf d (evC lf d) k fu = lpA_crc_Table lf d fu k
  | 0 => by funext x0 x1 x5; kernel_rfl
  | fu + 1 => by
    have ih := LQA_crc_Table lf d k fu
    funext x0 x1 x5; simp only [LA_crc_Table, ih, KQB_crc_Table lf d fu k _ rfl, LQB_crc_Table, clash3_eq, conv3_eq cw3x38, insB_eq, q_lss_eq (P := PP) nf3, q_shl_eq (P := PP) nf38]; kernel_rfl
theorem fsh_crc_Table (lf d : Nat) : inside (F_crc_Table lf d (evC lf d)) = evC lf (d + 1) 169 #[] := by
  unfold F_crc_Table; (try simp only [KQA_crc_Table lf d, LQA_crc_Table, az204, clash3_eq, insB_eq]); kernel_rfl

noncomputable def F_feed_Packer_End (lf d : Nat) (rec : RT) (a0 : Value) : M Value :=
 optK (qP_eql PP 161 a0 (Value.pointer none)) fun v4n1 =>
 ifV v4n1 (
 outK [(Value.string { data := #[] })]) (
 (inside (rec 202 #[a0])).bind fun v6n2 =>
 outK [v6n2])
theorem fsh_feed_Packer_End (lf d : Nat) (a0 : Value) : inside (F_feed_Packer_End lf d (evC lf d) a0) = evC lf (d + 1) 170 #[a0] := by
  unfold F_feed_Packer_End; (try simp only [clash3_eq, insB_eq, qP_eql_eq (P := PP) Tryz.underlying161]); kernel_rfl

noncomputable def F_split_Splitter_piece (lf d : Nat) (rec : RT) (a0 a1 a2 : Value) : M Value :=
 insB (evBox3 PP 166 a1) fun v4n1 =>
 insB (evAllocZ 111 [Value.string ⟨⟨[]⟩⟩, Value.int .u32 0, Value.int .i64 0]) fun v6n2 =>
 insB (evAllocZ 111 [Value.string ⟨⟨[]⟩⟩, Value.int .u32 0, Value.int .i64 0]) fun v8n3 =>
 optK (nil2 a0) fun v11n4 =>
 optK (evFA3 PP 164 0 v11n4 0) fun v12n5 =>
 optK (evFA3 PP 160 0 v12n5 0) fun v13n6 =>
 insB (evLoad3 PP 133 v13n6) fun v14n7 =>
 optK (len2 PP #[133] [v14n7]) fun v15n8 =>
 optK (q_add PP 3 v15n8 a2) fun v17n9 =>
 optK (nil2 a0) fun v19n10 =>
 optK (evFA3 PP 164 3 v19n10 1) fun v20n11 =>
 insB (evLoad3 PP 3 v20n11) fun v21n12 =>
 optK (q_gtr PP 3 v17n9 v21n12) fun v22n13 =>
 ifV v22n13 (
 optK (nil2 a0) fun v25n14 =>
 optK (evFA3 PP 164 0 v25n14 0) fun v26n15 =>
 (inside (rec 172 #[v26n15])).bind fun v27n16 =>
 optK (evExtract v27n16 0) fun v28n17 =>
 optK (evExtract v27n16 1) fun v29n18 =>
 insB (evStoreA3 PP 111 3 v8n3 v28n17) fun u19 =>
 optK (nil2 a0) fun v31n20 =>
 optK (evFA3 PP 164 0 v31n20 0) fun v32n21 =>
 insB (evLoadA3 PP 166 2 v4n1) fun v33n22 =>
 (inside (rec 203 #[v32n21, v33n22])).bind fun v34n23 =>
 insB (evLoadA3 PP 111 3 v8n3) fun v35n24 =>
 insB (evStoreA3 PP 111 3 v6n2 v35n24) fun u25 =>
 (evLoad PP 111 v6n2).bind fun vrn26 =>
 outK [vrn26, v29n18]) (
 optK (nil2 a0) fun v31n27 =>
 optK (evFA3 PP 164 0 v31n27 0) fun v32n28 =>
 insB (evLoadA3 PP 166 2 v4n1) fun v33n29 =>
 (inside (rec 203 #[v32n28, v33n29])).bind fun v34n30 =>
 insB (evLoadA3 PP 111 3 v8n3) fun v35n31 =>
 insB (evStoreA3 PP 111 3 v6n2 v35n31) fun u32 =>
 (evLoad PP 111 v6n2).bind fun vrn33 =>
 outK [vrn33, (Value.bool false)])
theorem fsh_split_Splitter_piece (lf d : Nat) (a0 a1 a2 : Value) : inside (F_split_Splitter_piece lf d (evC lf d) a0 a1 a2) = evC lf (d + 1) 171 #[a0, a1, a2] := by
  unfold F_split_Splitter_piece; (try simp only [az111, clash3_eq, evBox3_eq, evFA3_eq (P := PP) gf160f0, evFA3_eq (P := PP) gf164f0, evFA3_eq (P := PP) gf164f1, evLoad3_eq (P := PP) ga133, evLoad3_eq (P := PP) ga3, evLoadA3_eq (P := PP) ga111 gs111, evLoadA3_eq (P := PP) ga166 gs166, evStoreA3_eq (P := PP) gs111, insB_eq, q_add_eq (P := PP) nf3, q_gtr_eq (P := PP) nf3]); kernel_rfl

noncomputable def F_split_begun_close (lf d : Nat) (rec : RT) (a0 : Value) : M Value :=
 insB (evAllocZ 111 [Value.string ⟨⟨[]⟩⟩, Value.int .u32 0, Value.int .i64 0]) fun v2n1 =>
 optK (nil2 a0) fun v6n2 =>
 optK (evFA3 PP 160 0 v6n2 0) fun v7n3 =>
 insB (evLoad3 PP 133 v7n3) fun v8n4 =>
 optK (len2 PP #[133] [v8n4]) fun v9n5 =>
 optK (q_eql PP 3 v9n5 (Value.int .i64 0)) fun v10n6 =>
 ifV v10n6 (
 insB (evBuildZ PP 111 [Value.string ⟨⟨[]⟩⟩, Value.int .u32 0, Value.int .i64 0] []) fun v11n7 =>
 insB (evStoreA3 PP 111 3 v2n1 v11n7) fun u8 =>
 (evLoad PP 111 v2n1).bind fun vrn9 =>
 outK [vrn9, (Value.bool false)]) (
 optK (nil2 a0) fun v13n10 =>
 optK (evFA3 PP 160 0 v13n10 0) fun v14n11 =>
 (timed (
 insB (evLoad3 PP 133 v14n11) fun v15n13 => M.ret v15n13)).bind fun vtn12 =>
 (timed (
 insB (evToStr3 vtn12.1) fun v16n15 => M.ret v16n15)).bind fun vtn14 =>
 optK (nil2 a0) fun v18n16 =>
 optK (evFA3 PP 160 1 v18n16 1) fun v19n17 =>
 (timed (
 insB (evLoad3 PP 157 v19n17) fun v20n19 => M.ret v20n19)).bind fun vtn18 =>
 (timed (
 (inside (rec 204 #[vtn18.1])).bind fun v21n21 => M.ret v21n21)).bind fun vtn20 =>
 optK (nil2 a0) fun v23n22 =>
 optK (evFA3 PP 160 2 v23n22 2) fun v24n23 =>
 (timed (
 insB (evLoad3 PP 3 v24n23) fun v25n25 => M.ret v25n25)).bind fun vtn24 =>
 insB (evBuildZ PP 111 [Value.string ⟨⟨[]⟩⟩, Value.int .u32 0, Value.int .i64 0] [(0, vtn14.1), (1, vtn20.1), (2, vtn24.1)]) fun v26n26 =>
 (timed (
 insB (evAllocZ 111 [Value.string ⟨⟨[]⟩⟩, Value.int .u32 0, Value.int .i64 0]) fun v4n28 => M.ret v4n28)).bind fun vtn27 =>
 (timed (
 insB (evStoreA3 PP 111 3 vtn27.1 v26n26) fun u30 => M.ret u30)).bind fun vtn29 =>
 chkT ((!(clash3 vtn12.2 vtn20.2) && true) && ((!(clash3 vtn14.2 vtn18.2) && (!(clash3 vtn14.2 vtn20.2) && (!(clash3 vtn14.2 vtn24.2) && (!(clash3 vtn14.2 vtn27.2) && true)))) && ((!(clash3 vtn20.2 vtn24.2) && (!(clash3 vtn20.2 vtn27.2) && true)) && true))) (
 optK (nil2 a0) fun v28n31 =>
 optK (evFA3 PP 160 0 v28n31 0) fun v29n32 =>
 insB (evStore3 PP 133 v29n32 (Value.slice none 0 0)) fun u33 =>
 optK (nil2 a0) fun v31n34 =>
 optK (evFA3 PP 160 2 v31n34 2) fun v32n35 =>
 insB (evStore3 PP 3 v32n35 (Value.int .i64 0)) fun u36 =>
 optK (nil2 a0) fun v34n37 =>
 optK (evFA3 PP 160 1 v34n37 1) fun v35n38 =>
 insB (evLoad3 PP 157 v35n38) fun v36n39 =>
 (inside (rec 205 #[v36n39])).bind fun v37n40 =>
 insB (evLoadA3 PP 111 3 vtn27.1) fun v38n41 =>
 insB (evStoreA3 PP 111 3 v2n1 v38n41) fun u42 =>
 (evLoad PP 111 v2n1).bind fun vrn43 =>
 outK [vrn43, (Value.bool true)]))
theorem fsh_split_begun_close (lf d : Nat) (a0 : Value) : inside (F_split_begun_close lf d (evC lf d) a0) = evC lf (d + 1) 172 #[a0] := by
  unfold F_split_begun_close; (try simp only [az111, bz111, clash3_eq, evFA3_eq (P := PP) gf160f0, evFA3_eq (P := PP) gf160f1, evFA3_eq (P := PP) gf160f2, evLoad3_eq (P := PP) ga133, evLoad3_eq (P := PP) ga157, evLoad3_eq (P := PP) ga3, evLoadA3_eq (P := PP) ga111 gs111, evStore3_eq (P := PP) gs133, evStore3_eq (P := PP) gs3, evStoreA3_eq (P := PP) gs111, evToStr3_eq, insB_eq, q_eql_eq (P := PP) nf3]); kernel_rfl

noncomputable def F_split_Splitter_Put (lf d : Nat) (rec : RT) (a0 a1 : Value) : M Value :=
 insB (evAllocZ 111 [Value.string ⟨⟨[]⟩⟩, Value.int .u32 0, Value.int .i64 0]) fun v4n1 =>
 optK (qP_eql PP 101 a0 (Value.pointer none)) fun v9n2 =>
 ifV v9n2 (
 insB (evBuildZ PP 111 [Value.string ⟨⟨[]⟩⟩, Value.int .u32 0, Value.int .i64 0] []) fun v10n3 =>
 insB (evStoreA3 PP 111 3 v4n1 v10n3) fun u4 =>
 (evLoad PP 111 v4n1).bind fun vrn5 =>
 outK [vrn5, (Value.bool false)]) (
 optK (nil2 a0) fun v12n6 =>
 optK (evFA3 PP 164 4 v12n6 2) fun v13n7 =>
 insB (evLoad3 PP 161 v13n7) fun v14n8 =>
 (inside (rec 121 #[v14n8])).bind fun v15n9 =>
 insB (evAllocZ 166 [Value.int .u8 0, Value.int .i64 0]) fun v6n10 =>
 insB (evStoreA3 PP 166 2 v6n10 v15n9) fun u11 =>
 optK (nil2 a0) fun v17n12 =>
 optK (evFA3 PP 164 4 v17n12 2) fun v18n13 =>
 insB (evLoad3 PP 161 v18n13) fun v19n14 =>
 (inside (rec 206 #[v19n14, a1])).bind fun v21n15 =>
 optK (qS_eql PP 9 v21n15 (Value.string { data := #[] })) fun v23n16 =>
 ifV v23n16 (
 insB (evBuildZ PP 111 [Value.string ⟨⟨[]⟩⟩, Value.int .u32 0, Value.int .i64 0] []) fun v24n17 =>
 insB (evStoreA3 PP 111 3 v4n1 v24n17) fun u18 =>
 (evLoad PP 111 v4n1).bind fun vrn19 =>
 outK [vrn19, (Value.bool false)]) (
 optK (evFA3 PP 166 0 v6n10 0) fun v25n20 =>
 insB (evLoad3 PP 5 v25n20) fun v26n21 =>
 optK (q_eql PP 5 v26n21 a1) fun v28n22 =>
 ifV v28n22 (
 optK (evFA3 PP 166 1 v6n10 1) fun v29n23 =>
 insB (evLoad3 PP 3 v29n23) fun v30n24 =>
 optK (q_add PP 3 v30n24 (Value.int .i64 1)) fun v31n25 =>
 optK (evFA3 PP 166 1 v6n10 1) fun v32n26 =>
 insB (evStore3 PP 3 v32n26 v31n25) fun u27 =>
 insB (evLoadA3 PP 166 2 v6n10) fun v34n28 =>
 optK (len2 PP #[9] [v21n15]) fun v36n29 =>
 (inside (rec 171 #[a0, v34n28, v36n29])).bind fun v37n30 =>
 optK (evExtract v37n30 0) fun v38n31 =>
 optK (evExtract v37n30 1) fun v39n32 =>
 insB (evStoreA3 PP 111 3 v4n1 v38n31) fun u33 =>
 (evLoad PP 111 v4n1).bind fun vrn34 =>
 outK [vrn34, v39n32]) (
 insB (evLoadA3 PP 166 2 v6n10) fun v34n35 =>
 optK (len2 PP #[9] [v21n15]) fun v36n36 =>
 (inside (rec 171 #[a0, v34n35, v36n36])).bind fun v37n37 =>
 optK (evExtract v37n37 0) fun v38n38 =>
 optK (evExtract v37n37 1) fun v39n39 =>
 insB (evStoreA3 PP 111 3 v4n1 v38n38) fun u40 =>
 (evLoad PP 111 v4n1).bind fun vrn41 =>
 outK [vrn41, v39n39])))
theorem fsh_split_Splitter_Put (lf d : Nat) (a0 a1 : Value) : inside (F_split_Splitter_Put lf d (evC lf d) a0 a1) = evC lf (d + 1) 173 #[a0, a1] := by
  unfold F_split_Splitter_Put; (try simp only [az111, az166, bz111, clash3_eq, evFA3_eq (P := PP) gf164f2, evFA3_eq (P := PP) gf166f0, evFA3_eq (P := PP) gf166f1, evLoad3_eq (P := PP) ga161, evLoad3_eq (P := PP) ga3, evLoad3_eq (P := PP) ga5, evLoadA3_eq (P := PP) ga166 gs166, evStore3_eq (P := PP) gs3, evStoreA3_eq (P := PP) gs111, evStoreA3_eq (P := PP) gs166, insB_eq, qP_eql_eq (P := PP) Tryz.underlying101, qS_eql_eq (P := PP) nf9, q_add_eq (P := PP) nf3, q_eql_eq (P := PP) nf5]); kernel_rfl

noncomputable def lpA_picks_order_touch (lf d fu : Nat) (k : KT) (x0 x1 x4 x5 x6 : Value) : M Value := loopK (fun s1 k1 => codeK PP (evC lf d) (gtA 175) lf (codeAt (bodyOf PP 175) [true, true, false, true, false, false]) s1 k1) [0, 1, 4, 5, 6] fu [(0, x0), (1, x1), (4, x4), (5, x5), (6, x6)] k
noncomputable def kcA_picks_order_touch (lf d : Nat) : KT := contAt PP (evC lf d) (gtA 175) lf (bodyOf PP 175) [true, true, false, true, false] (endK PP (resOf PP 175))
noncomputable def LA_picks_order_touch (lf d : Nat) (rec : RT) (k : KT) : Nat → Value → Value → Value → Value → Value → M Value
 | 0, _, _, _, _, _ => M.fail
 | fu + 1, x0, x1, x4, x5, x6 =>
 optK (q_gtr PP 3 x6 (Value.int .i64 0)) fun v14n4 =>
 ifV v14n4 (
 optK (q_sub PP 3 x6 (Value.int .i64 1)) fun v21n5 =>
 optK (nil2 x0) fun v22n6 =>
 optK (evIAP3 PP 115 6 1 v22n6 v21n5) fun v23n7 =>
 insB (evLoad3 PP 3 v23n7) fun v24n8 =>
 optK (nil2 x0) fun v25n9 =>
 optK (evIAP3 PP 115 6 1 v25n9 x6) fun v26n10 =>
 insB (evStore3 PP 3 v26n10 v24n8) fun u11 =>
 optK (q_sub PP 3 x6 (Value.int .i64 1)) fun v16n12 =>
 LA_picks_order_touch lf d rec k fu x0 x1 x4 x5 v16n12) (
 k (Ex.exit 0) [(0, x0), (1, x1), (4, x4), (5, x5), (6, x6), (14, v14n4)])
noncomputable def KA_picks_order_touch (lf d : Nat) (rec : RT) (dflt : KT) : KT := (kEx 0 (runCur [0, 1, 4, 5, 6, 14] (fun y0 y1 y4 y5 y6 y14 =>
 optK (nil2 y0) fun v29n13 =>
 optK (evIAP3 PP 115 6 1 v29n13 (Value.int .i64 0)) fun v30n14 =>
 insB (evStore3 PP 3 v30n14 y5) fun u15 =>
 outK [y5]) (dflt (Ex.exit 0))) dflt)
noncomputable def F_picks_order_touch (lf d : Nat) (rec : RT) (a0 a1 : Value) : M Value :=
 optK (nil2 a0) fun v9n1 =>
 optK (evIAP3 PP 115 6 1 v9n1 a1) fun v10n2 =>
 insB (evLoad3 PP 3 v10n2) fun v11n3 =>
 LA_picks_order_touch lf d rec (KA_picks_order_touch lf d rec (kcA_picks_order_touch lf d)) lf a0 a1 (Value.int .i64 0) v11n3 a1
theorem LQA_picks_order_touch (lf d : Nat) (k : KT) : ∀ fu : Nat, LA_picks_order_touch lf d (evC lf d) k fu = lpA_picks_order_touch lf d fu k
  | 0 => by funext x0 x1 x4 x5 x6; kernel_rfl
  | fu + 1 => by
    have ih := LQA_picks_order_touch lf d k fu
    funext x0 x1 x4 x5 x6; simp only [LA_picks_order_touch, ih, clash3_eq, evIAP3_eq (P := PP) Tryz.underlying115 gs3, evLoad3_eq (P := PP) ga3, evStore3_eq (P := PP) gs3, insB_eq, q_gtr_eq (P := PP) nf3, q_sub_eq (P := PP) nf3]; kernel_rfl
set_option maxRecDepth 20000 in
theorem KQA_picks_order_touch (lf d : Nat) : KA_picks_order_touch lf d (evC lf d) (kcA_picks_order_touch lf d) = kcA_picks_order_touch lf d := by
  unfold KA_picks_order_touch
  refine Eq.trans (kEx_eq ?_) ?_
  · exact (runCur_eq _ _ _ (by intro y0 y1 y4 y5 y6 y14; show _ = _; (try simp only [clash3_eq, evIAP3_eq (P := PP) Tryz.underlying115 gs3, evStore3_eq (P := PP) gs3, insB_eq]); kernel_rfl))
  rfl
theorem fsh_picks_order_touch (lf d : Nat) (a0 a1 : Value) : inside (F_picks_order_touch lf d (evC lf d) a0 a1) = evC lf (d + 1) 175 #[a0, a1] := by
  unfold F_picks_order_touch; (try simp only [KQA_picks_order_touch lf d, LQA_picks_order_touch, clash3_eq, evIAP3_eq (P := PP) Tryz.underlying115 gs3, evLoad3_eq (P := PP) ga3, insB_eq]); kernel_rfl

noncomputable def lpA_tables_Number (lf d fu : Nat) (k : KT) (x0 x2 x3 x6 x7 : Value) : M Value := loopK (fun s1 k1 => codeK PP (evC lf d) (gtA 178) lf (codeAt (bodyOf PP 178) [true, true, false, true, false, false]) s1 k1) [0, 2, 3, 6, 7] fu [(0, x0), (2, x2), (3, x3), (6, x6), (7, x7)] k
noncomputable def kcA_tables_Number (lf d : Nat) : KT := contAt PP (evC lf d) (gtA 178) lf (bodyOf PP 178) [true, true, false, true, false] (endK PP (resOf PP 178))
noncomputable def LA_tables_Number (lf d : Nat) (rec : RT) (k : KT) : Nat → Value → Value → Value → Value → Value → M Value
 | 0, _, _, _, _, _ => M.fail
 | fu + 1, x0, x2, x3, x6, x7 =>
 optK (q_lss PP 3 x7 (Value.int .i64 4)) fun v8n2 =>
 ifV v8n2 (
 optK (index2 PP 245 x6 x7) fun v9n3 =>
 optK (q_geq PP 3 x0 v9n3) fun v12n4 =>
 ifV v12n4 (
 optK (q_add PP 3 x3 (Value.int .i64 1)) fun v14n5 =>
 optK (q_add PP 3 x7 (Value.int .i64 1)) fun v15n6 =>
 LA_tables_Number lf d rec k fu x0 x2 v14n5 x6 v15n6) (
 optK (q_add PP 3 x7 (Value.int .i64 1)) fun v15n7 =>
 LA_tables_Number lf d rec k fu x0 x2 x3 x6 v15n7)) (
 k (Ex.exit 0) [(0, x0), (2, x2), (3, x3), (6, x6), (7, x7), (8, v8n2)])
noncomputable def KA_tables_Number (lf d : Nat) (rec : RT) (dflt : KT) : KT := (kEx 0 (runCur [0, 2, 3, 6, 7, 8] (fun y0 y2 y3 y6 y7 y8 =>
 outK [y3]) (dflt (Ex.exit 0))) dflt)
noncomputable def F_tables_Number (lf d : Nat) (rec : RT) (a0 : Value) : M Value :=
 insB (evLoadA3 PP 245 4 (Value.pointer (some ⟨0, 0, none⟩))) fun v6n1 =>
 LA_tables_Number lf d rec (KA_tables_Number lf d rec (kcA_tables_Number lf d)) lf a0 (Value.int .i64 0) (Value.int .i64 2) v6n1 (Value.int .i64 0)
theorem LQA_tables_Number (lf d : Nat) (k : KT) : ∀ fu : Nat, LA_tables_Number lf d (evC lf d) k fu = lpA_tables_Number lf d fu k
  | 0 => by funext x0 x2 x3 x6 x7; kernel_rfl
  | fu + 1 => by
    have ih := LQA_tables_Number lf d k fu
    funext x0 x2 x3 x6 x7; simp only [LA_tables_Number, ih, clash3_eq, insB_eq, q_add_eq (P := PP) nf3, q_geq_eq (P := PP) nf3, q_lss_eq (P := PP) nf3]; kernel_rfl
set_option maxRecDepth 20000 in
theorem KQA_tables_Number (lf d : Nat) : KA_tables_Number lf d (evC lf d) (kcA_tables_Number lf d) = kcA_tables_Number lf d := by
  unfold KA_tables_Number
  refine Eq.trans (kEx_eq ?_) ?_
  · exact (runCur_eq _ _ _ (by intro y0 y2 y3 y6 y7 y8; show _ = _; (try simp only [clash3_eq, insB_eq]); kernel_rfl))
  rfl
theorem fsh_tables_Number (lf d : Nat) (a0 : Value) : inside (F_tables_Number lf d (evC lf d) a0) = evC lf (d + 1) 178 #[a0] := by
  unfold F_tables_Number; (try simp only [KQA_tables_Number lf d, LQA_tables_Number, clash3_eq, evLoadA3_eq (P := PP) ga245 gs245, insB_eq]); kernel_rfl

noncomputable def lpA_tables_pick (lf d fu : Nat) (k : KT) (x0 x1 x4 x5 x6 x11 x12 x13 : Value) : M Value := loopK (fun s1 k1 => codeK PP (evC lf d) (gtA 179) lf (codeAt (bodyOf PP 179) [true, true, false, true, false, false]) s1 k1) [0, 1, 4, 5, 6, 11, 12, 13] fu [(0, x0), (1, x1), (4, x4), (5, x5), (6, x6), (11, x11), (12, x12), (13, x13)] k
noncomputable def kcA_tables_pick (lf d : Nat) : KT := contAt PP (evC lf d) (gtA 179) lf (bodyOf PP 179) [true, true, false, true, false] (endK PP (resOf PP 179))
noncomputable def LA_tables_pick (lf d : Nat) (rec : RT) (k : KT) : Nat → Value → Value → Value → Value → Value → Value → Value → Value → M Value
 | 0, _, _, _, _, _, _, _, _ => M.fail
 | fu + 1, x0, x1, x4, x5, x6, x11, x12, x13 =>
 optK (q_lss PP 3 x13 x12) fun v14n2 =>
 ifV v14n2 (
 optK (evIA3 PP 72 1 x11 x13) fun v16n3 =>
 insB (evLoad3 PP 22 v16n3) fun v17n4 =>
 (inside (rec 145 #[x0, v17n4])).bind fun v21n5 =>
 optK (evExtract v21n5 0) fun v22n6 =>
 optK (evExtract v21n5 1) fun v23n7 =>
 optK (q_lss PP 3 v22n6 x6) fun v26n8 =>
 ifV v26n8 (
 optK (q_add PP 3 x13 (Value.int .i64 1)) fun v29n9 =>
 LA_tables_pick lf d rec k fu x0 x1 x4 x13 v22n6 x11 x12 v29n9) (
 optK (q_add PP 3 x13 (Value.int .i64 1)) fun v29n10 =>
 LA_tables_pick lf d rec k fu x0 x1 x4 x5 x6 x11 x12 v29n10)) (
 k (Ex.exit 0) [(0, x0), (1, x1), (4, x4), (5, x5), (6, x6), (11, x11), (12, x12), (13, x13), (14, v14n2)])
noncomputable def KA_tables_pick (lf d : Nat) (rec : RT) (dflt : KT) : KT := (kEx 0 (runCur [0, 1, 4, 5, 6, 11, 12, 13, 14] (fun y0 y1 y4 y5 y6 y11 y12 y13 y14 =>
 outK [y5]) (dflt (Ex.exit 0))) dflt)
noncomputable def F_tables_pick (lf d : Nat) (rec : RT) (a0 a1 : Value) : M Value :=
 optK (len2 PP #[72] [a1]) fun v12n1 =>
 LA_tables_pick lf d rec (KA_tables_pick lf d rec (kcA_tables_pick lf d)) lf a0 a1 (Value.int .i64 0) (Value.int .i64 0) (Value.int .i64 1099511627776) a1 v12n1 (Value.int .i64 0)
theorem LQA_tables_pick (lf d : Nat) (k : KT) : ∀ fu : Nat, LA_tables_pick lf d (evC lf d) k fu = lpA_tables_pick lf d fu k
  | 0 => by funext x0 x1 x4 x5 x6 x11 x12 x13; kernel_rfl
  | fu + 1 => by
    have ih := LQA_tables_pick lf d k fu
    funext x0 x1 x4 x5 x6 x11 x12 x13; simp only [LA_tables_pick, ih, clash3_eq, evIA3_eq (P := PP) Tryz.underlying72 gs22, evLoad3_eq (P := PP) ga22, insB_eq, q_add_eq (P := PP) nf3, q_lss_eq (P := PP) nf3]; kernel_rfl
set_option maxRecDepth 20000 in
theorem KQA_tables_pick (lf d : Nat) : KA_tables_pick lf d (evC lf d) (kcA_tables_pick lf d) = kcA_tables_pick lf d := by
  unfold KA_tables_pick
  refine Eq.trans (kEx_eq ?_) ?_
  · exact (runCur_eq _ _ _ (by intro y0 y1 y4 y5 y6 y11 y12 y13 y14; show _ = _; (try simp only [clash3_eq, insB_eq]); kernel_rfl))
  rfl
theorem fsh_tables_pick (lf d : Nat) (a0 a1 : Value) : inside (F_tables_pick lf d (evC lf d) a0 a1) = evC lf (d + 1) 179 #[a0, a1] := by
  unfold F_tables_pick; (try simp only [KQA_tables_pick lf d, LQA_tables_pick, clash3_eq, insB_eq]); kernel_rfl

noncomputable def lpA_freq_Add (lf d fu : Nat) (k : KT) (x0 x1 x4 x5 x6 x22 x27 x28 : Value) : M Value := loopK (fun s1 k1 => codeK PP (evC lf d) (gtA 180) lf (codeAt (bodyOf PP 180) [true, true, true, false, true, false, false]) s1 k1) [0, 1, 4, 5, 6, 22, 27, 28] fu [(0, x0), (1, x1), (4, x4), (5, x5), (6, x6), (22, x22), (27, x27), (28, x28)] k
noncomputable def kcA_freq_Add (lf d : Nat) : KT := contAt PP (evC lf d) (gtA 180) lf (bodyOf PP 180) [true, true, true, false, true, false] (endK PP (resOf PP 180))
noncomputable def LA_freq_Add (lf d : Nat) (rec : RT) (k : KT) : Nat → Value → Value → Value → Value → Value → Value → Value → Value → M Value
 | 0, _, _, _, _, _, _, _, _ => M.fail
 | fu + 1, x0, x1, x4, x5, x6, x22, x27, x28 =>
 optK (q_lss PP 3 x28 x27) fun v29n11 =>
 ifV v29n11 (
 optK (evIA3 PP 22 1 x0 x28) fun v35n12 =>
 insB (evLoad3 PP 3 v35n12) fun v36n13 =>
 optK (evIA3 PP 22 1 x1 x28) fun v39n14 =>
 insB (evLoad3 PP 3 v39n14) fun v40n15 =>
 (inside (rec 186 #[v36n13, v40n15])).bind fun v41n16 =>
 optK (evIA3 PP 22 1 x6 x28) fun v42n17 =>
 insB (evStore3 PP 3 v42n17 v41n16) fun u18 =>
 optK (q_add PP 3 x28 (Value.int .i64 1)) fun v43n19 =>
 LA_freq_Add lf d rec k fu x0 x1 x4 x5 x6 x22 x27 v43n19) (
 k (Ex.exit 0) [(0, x0), (1, x1), (4, x4), (5, x5), (6, x6), (22, x22), (27, x27), (28, x28), (29, v29n11)])
noncomputable def KA_freq_Add (lf d : Nat) (rec : RT) (dflt : KT) : KT := (kEx 0 (runCur [0, 1, 4, 5, 6, 22, 27, 28, 29] (fun y0 y1 y4 y5 y6 y22 y27 y28 y29 =>
 outK [y6, (Value.int .i64 0)]) (dflt (Ex.exit 0))) dflt)
noncomputable def F_freq_Add (lf d : Nat) (rec : RT) (a0 a1 : Value) : M Value :=
 optK (len2 PP #[22] [a0]) fun v9n1 =>
 optK (len2 PP #[22] [a1]) fun v11n2 =>
 optK (q_neq PP 3 v9n1 v11n2) fun v12n3 =>
 ifV v12n3 (
 outK [(Value.slice none 0 0), (Value.int .i64 1)]) (
 (inside (rec 185 #[a0])).bind fun v15n4 =>
 optK (un3 PP .not v15n4) fun v16n5 =>
 ifV v16n5 (
 outK [(Value.slice none 0 0), (Value.int .i64 1)]) (
 (inside (rec 185 #[a1])).bind fun v20n6 =>
 optK (un3 PP .not v20n6) fun v21n7 =>
 ifV v21n7 (
 outK [(Value.slice none 0 0), (Value.int .i64 1)]) (
 optK (len2 PP #[22] [a0]) fun v24n8 =>
 insB (evMake3 PP 22 v24n8 v24n8) fun v25n9 =>
 optK (len2 PP #[22] [v25n9]) fun v27n10 =>
 LA_freq_Add lf d rec (KA_freq_Add lf d rec (kcA_freq_Add lf d)) lf a0 a1 (Value.slice none 0 0) (Value.int .i64 0) v25n9 v21n7 v27n10 (Value.int .i64 0))))
theorem LQA_freq_Add (lf d : Nat) (k : KT) : ∀ fu : Nat, LA_freq_Add lf d (evC lf d) k fu = lpA_freq_Add lf d fu k
  | 0 => by funext x0 x1 x4 x5 x6 x22 x27 x28; kernel_rfl
  | fu + 1 => by
    have ih := LQA_freq_Add lf d k fu
    funext x0 x1 x4 x5 x6 x22 x27 x28; simp only [LA_freq_Add, ih, clash3_eq, evIA3_eq (P := PP) Tryz.underlying22 gs3, evLoad3_eq (P := PP) ga3, evStore3_eq (P := PP) gs3, insB_eq, q_add_eq (P := PP) nf3, q_lss_eq (P := PP) nf3]; kernel_rfl
set_option maxRecDepth 20000 in
theorem KQA_freq_Add (lf d : Nat) : KA_freq_Add lf d (evC lf d) (kcA_freq_Add lf d) = kcA_freq_Add lf d := by
  unfold KA_freq_Add
  refine Eq.trans (kEx_eq ?_) ?_
  · exact (runCur_eq _ _ _ (by intro y0 y1 y4 y5 y6 y22 y27 y28 y29; show _ = _; (try simp only [clash3_eq, insB_eq]); kernel_rfl))
  rfl
theorem fsh_freq_Add (lf d : Nat) (a0 a1 : Value) : inside (F_freq_Add lf d (evC lf d) a0 a1) = evC lf (d + 1) 180 #[a0, a1] := by
  unfold F_freq_Add; (try simp only [KQA_freq_Add lf d, LQA_freq_Add, clash3_eq, evMake3_eq, insB_eq, q_neq_eq (P := PP) nf3, un3_eq]); kernel_rfl

noncomputable def lpA_lens_Of (lf d fu : Nat) (k : KT) (x0 x2 x3 x4 x20 x24 x25 x26 : Value) : M Value := loopK (fun s1 k1 => codeK PP (evC lf d) (gtA 181) lf (codeAt (bodyOf PP 181) [true, true, true, false, true, false, false]) s1 k1) [0, 2, 3, 4, 20, 24, 25, 26] fu [(0, x0), (2, x2), (3, x3), (4, x4), (20, x20), (24, x24), (25, x25), (26, x26)] k
noncomputable def kcA_lens_Of (lf d : Nat) : KT := contAt PP (evC lf d) (gtA 181) lf (bodyOf PP 181) [true, true, true, false, true, false] (endK PP (resOf PP 181))
noncomputable def lpB_lens_Of (lf d fu : Nat) (k : KT) (x0 x2 x3 x4 x20 x24 x25 x26 x27 : Value) : M Value := loopK (fun s1 k1 => codeK PP (evC lf d) (gtA 181) lf (codeAt (bodyOf PP 181) [true, true, true, true, false, false]) s1 k1) [0, 2, 3, 4, 20, 24, 25, 26, 27] fu [(0, x0), (2, x2), (3, x3), (4, x4), (20, x20), (24, x24), (25, x25), (26, x26), (27, x27)] k
noncomputable def kcB_lens_Of (lf d : Nat) : KT := contAt PP (evC lf d) (gtA 181) lf (bodyOf PP 181) [true, true, true, true, false] (endK PP (resOf PP 181))
noncomputable def LA_lens_Of (lf d : Nat) (rec : RT) (k : KT) : Nat → Value → Value → Value → Value → Value → Value → Value → Value → M Value
 | 0, _, _, _, _, _, _, _, _ => M.fail
 | fu + 1, x0, x2, x3, x4, x20, x24, x25, x26 =>
 optK (q_lss PP 3 x26 x25) fun v27n10 =>
 ifV v27n10 (
 optK (evIA3 PP 22 1 x24 x26) fun v29n11 =>
 insB (evLoad3 PP 3 v29n11) fun v30n12 =>
 optK (max2 [v30n12, (Value.int .i64 1)]) fun v34n13 =>
 optK (evIA3 PP 22 1 x4 x26) fun v35n14 =>
 insB (evStore3 PP 3 v35n14 v34n13) fun u15 =>
 optK (q_add PP 3 x26 (Value.int .i64 1)) fun v36n16 =>
 LA_lens_Of lf d rec k fu x0 x2 x3 x4 x20 x24 x25 v36n16) (
 k (Ex.exit 0) [(0, x0), (2, x2), (3, x3), (4, x4), (20, x20), (24, x24), (25, x25), (26, x26), (27, v27n10)])
noncomputable def LB_lens_Of (lf d : Nat) (rec : RT) (k : KT) : Nat → Value → Value → Value → Value → Value → Value → Value → Value → Value → M Value
 | 0, _, _, _, _, _, _, _, _, _ => M.fail
 | fu + 1, x0, x2, x3, x4, x20, x24, x25, x26, x27 =>
 (inside (rec 209 #[x4])).bind fun v38n17 =>
 (inside (rec 210 #[v38n17])).bind fun v40n18 =>
 optK (q_leq PP 3 v40n18 (Value.int .i64 20)) fun v41n19 =>
 ifV v41n19 (
 (inside (rec 95 #[v38n17])).bind fun v43n20 =>
 k Ex.ret [(0, x0), (2, v43n20), (3, (Value.int .i64 0)), (4, x4), (7, v38n17), (20, x20), (24, x24), (25, x25), (26, x26), (27, x27), (41, v41n19)]) (
 (inside (rec 211 #[x4])).bind fun v45n21 =>
 LB_lens_Of lf d rec k fu x0 x2 x3 v45n21 x20 x24 x25 x26 x27)
noncomputable def KB_lens_Of (lf d : Nat) (rec : RT) (dflt : KT) : KT := (kRt (runCur [0, 2, 3, 4, 7, 20, 24, 25, 26, 27, 41] (fun y0 y2 y3 y4 y7 y20 y24 y25 y26 y27 y41 =>
 outK [y2, y3]) (dflt Ex.ret)) dflt)
noncomputable def KA_lens_Of (lf d : Nat) (rec : RT) (dflt : KT) : KT := (kEx 0 (runCur [0, 2, 3, 4, 20, 24, 25, 26, 27] (fun y0 y2 y3 y4 y20 y24 y25 y26 y27 =>
 LB_lens_Of lf d rec (KB_lens_Of lf d rec (kcB_lens_Of lf d)) lf y0 y2 y3 y4 y20 y24 y25 y26 y27) (dflt (Ex.exit 0))) dflt)
noncomputable def F_lens_Of (lf d : Nat) (rec : RT) (a0 : Value) : M Value :=
 optK (len2 PP #[22] [a0]) fun v9n1 =>
 optK (q_lss PP 3 v9n1 (Value.int .i64 3)) fun v10n2 =>
 ifV v10n2 (
 outK [(Value.slice none 0 0), (Value.int .i64 1)]) (
 optK (len2 PP #[22] [a0]) fun v13n3 =>
 optK (q_gtr PP 3 v13n3 (Value.int .i64 258)) fun v14n4 =>
 ifV v14n4 (
 outK [(Value.slice none 0 0), (Value.int .i64 1)]) (
 (inside (rec 183 #[a0, (Value.int .i64 0), (Value.int .i64 1099511627776)])).bind fun v18n5 =>
 optK (un3 PP .not v18n5) fun v19n6 =>
 ifV v19n6 (
 outK [(Value.slice none 0 0), (Value.int .i64 1)]) (
 optK (len2 PP #[22] [a0]) fun v22n7 =>
 insB (evMake3 PP 22 v22n7 v22n7) fun v23n8 =>
 optK (len2 PP #[22] [a0]) fun v25n9 =>
 LA_lens_Of lf d rec (KA_lens_Of lf d rec (kcA_lens_Of lf d)) lf a0 (Value.slice none 0 0) (Value.int .i64 0) v23n8 v19n6 a0 v25n9 (Value.int .i64 0))))
theorem LQA_lens_Of (lf d : Nat) (k : KT) : ∀ fu : Nat, LA_lens_Of lf d (evC lf d) k fu = lpA_lens_Of lf d fu k
  | 0 => by funext x0 x2 x3 x4 x20 x24 x25 x26; kernel_rfl
  | fu + 1 => by
    have ih := LQA_lens_Of lf d k fu
    funext x0 x2 x3 x4 x20 x24 x25 x26; simp only [LA_lens_Of, ih, clash3_eq, evIA3_eq (P := PP) Tryz.underlying22 gs3, evLoad3_eq (P := PP) ga3, evStore3_eq (P := PP) gs3, insB_eq, q_add_eq (P := PP) nf3, q_lss_eq (P := PP) nf3]; kernel_rfl
theorem LQB_lens_Of (lf d : Nat) (k : KT) : ∀ fu : Nat, LB_lens_Of lf d (evC lf d) k fu = lpB_lens_Of lf d fu k
  | 0 => by funext x0 x2 x3 x4 x20 x24 x25 x26 x27; kernel_rfl
  | fu + 1 => by
    have ih := LQB_lens_Of lf d k fu
    funext x0 x2 x3 x4 x20 x24 x25 x26 x27; simp only [LB_lens_Of, ih, clash3_eq, insB_eq, q_leq_eq (P := PP) nf3]; kernel_rfl
set_option maxRecDepth 20000 in
theorem KQB_lens_Of (lf d : Nat) : KB_lens_Of lf d (evC lf d) (kcB_lens_Of lf d) = kcB_lens_Of lf d := by
  unfold KB_lens_Of
  refine Eq.trans (kRt_eq ?_) ?_
  · exact (runCur_eq _ _ _ (by intro y0 y2 y3 y4 y7 y20 y24 y25 y26 y27 y41; show _ = _; (try simp only [clash3_eq, insB_eq]); kernel_rfl))
  rfl
set_option maxRecDepth 20000 in
theorem KQA_lens_Of (lf d : Nat) : KA_lens_Of lf d (evC lf d) (kcA_lens_Of lf d) = kcA_lens_Of lf d := by
  unfold KA_lens_Of
  refine Eq.trans (kEx_eq ?_) ?_
  · exact (runCur_eq _ _ _ (by intro y0 y2 y3 y4 y20 y24 y25 y26 y27; show _ = _; (try simp only [KQB_lens_Of lf d, LQB_lens_Of, clash3_eq, insB_eq]); kernel_rfl))
  rfl
theorem fsh_lens_Of (lf d : Nat) (a0 : Value) : inside (F_lens_Of lf d (evC lf d) a0) = evC lf (d + 1) 181 #[a0] := by
  unfold F_lens_Of; (try simp only [KQA_lens_Of lf d, LQA_lens_Of, clash3_eq, evMake3_eq, insB_eq, q_gtr_eq (P := PP) nf3, q_lss_eq (P := PP) nf3, un3_eq]); kernel_rfl

noncomputable def lpA_slices_IndexFunc_int_int (lf d fu : Nat) (k : KT) (x0 x1 x4 x7 x8 : Value) : M Value := loopK (fun s1 k1 => codeK PP (evC lf d) (gtA 182) lf (codeAt (bodyOf PP 182) [true, false, true, false, false]) s1 k1) [0, 1, 4, 7, 8] fu [(0, x0), (1, x1), (4, x4), (7, x7), (8, x8)] k
noncomputable def kcA_slices_IndexFunc_int_int (lf d : Nat) : KT := contAt PP (evC lf d) (gtA 182) lf (bodyOf PP 182) [true, false, true, false] (endK PP (resOf PP 182))
noncomputable def LA_slices_IndexFunc_int_int (lf d : Nat) (rec : RT) (k : KT) : Nat → Value → Value → Value → Value → Value → M Value
 | 0, _, _, _, _, _ => M.fail
 | fu + 1, x0, x1, x4, x7, x8 =>
 optK (q_lss PP 3 x8 x7) fun v9n2 =>
 ifV v9n2 (
 optK (evIA3 PP 22 1 x0 x8) fun v14n3 =>
 insB (evLoad3 PP 3 v14n3) fun v15n4 =>
 callV PP rec x1 [v15n4] fun v16n5 =>
 ifV v16n5 (
 k Ex.ret [(0, x0), (1, x1), (4, x8), (5, x8), (7, x7), (8, x8), (9, v9n2), (16, v16n5)]) (
 optK (q_add PP 3 x8 (Value.int .i64 1)) fun v18n6 =>
 LA_slices_IndexFunc_int_int lf d rec k fu x0 x1 x4 x7 v18n6)) (
 k (Ex.exit 0) [(0, x0), (1, x1), (4, x4), (7, x7), (8, x8), (9, v9n2)])
noncomputable def KA_slices_IndexFunc_int_int (lf d : Nat) (rec : RT) (dflt : KT) : KT := (kEx 0 (runCur [0, 1, 4, 7, 8, 9] (fun y0 y1 y4 y7 y8 y9 =>
 outK [(Value.int .i64 (-1))]) (dflt (Ex.exit 0))) (kRt (runCur [0, 1, 4, 5, 7, 8, 9, 16] (fun y0 y1 y4 y5 y7 y8 y9 y16 =>
 outK [y4]) (dflt Ex.ret)) dflt))
noncomputable def F_slices_IndexFunc_int_int (lf d : Nat) (rec : RT) (a0 a1 : Value) : M Value :=
 optK (len2 PP #[22] [a0]) fun v7n1 =>
 LA_slices_IndexFunc_int_int lf d rec (KA_slices_IndexFunc_int_int lf d rec (kcA_slices_IndexFunc_int_int lf d)) lf a0 a1 (Value.int .i64 0) v7n1 (Value.int .i64 0)
theorem LQA_slices_IndexFunc_int_int (lf d : Nat) (k : KT) : ∀ fu : Nat, LA_slices_IndexFunc_int_int lf d (evC lf d) k fu = lpA_slices_IndexFunc_int_int lf d fu k
  | 0 => by funext x0 x1 x4 x7 x8; kernel_rfl
  | fu + 1 => by
    have ih := LQA_slices_IndexFunc_int_int lf d k fu
    funext x0 x1 x4 x7 x8; simp only [LA_slices_IndexFunc_int_int, ih, clash3_eq, evIA3_eq (P := PP) Tryz.underlying22 gs3, evLoad3_eq (P := PP) ga3, insB_eq, q_add_eq (P := PP) nf3, q_lss_eq (P := PP) nf3]; kernel_rfl
set_option maxRecDepth 20000 in
theorem KQA_slices_IndexFunc_int_int (lf d : Nat) : KA_slices_IndexFunc_int_int lf d (evC lf d) (kcA_slices_IndexFunc_int_int lf d) = kcA_slices_IndexFunc_int_int lf d := by
  unfold KA_slices_IndexFunc_int_int
  refine Eq.trans (kEx_eq ?_) ?_
  · exact (runCur_eq _ _ _ (by intro y0 y1 y4 y7 y8 y9; show _ = _; (try simp only [clash3_eq, insB_eq]); kernel_rfl))
  refine Eq.trans (kRt_eq ?_) ?_
  · exact (runCur_eq _ _ _ (by intro y0 y1 y4 y5 y7 y8 y9 y16; show _ = _; (try simp only [clash3_eq, insB_eq]); kernel_rfl))
  rfl
theorem fsh_slices_IndexFunc_int_int (lf d : Nat) (a0 a1 : Value) : inside (F_slices_IndexFunc_int_int lf d (evC lf d) a0 a1) = evC lf (d + 1) 182 #[a0, a1] := by
  unfold F_slices_IndexFunc_int_int; (try simp only [KQA_slices_IndexFunc_int_int lf d, LQA_slices_IndexFunc_int_int, clash3_eq, insB_eq]); kernel_rfl

noncomputable def F_lens_between (lf d : Nat) (rec : RT) (a0 a1 a2 : Value) : M Value :=
 insB (evBox3 PP 3 a1) fun v4n1 =>
 insB (evBox3 PP 3 a2) fun v5n2 =>
 (inside (rec 136 #[a0, (Value.func (Go.Fn.func 212) #[] #[v4n1, v5n2])])).bind fun v9n3 =>
 optK (un3 PP .not v9n3) fun v10n4 =>
 outK [v10n4]
theorem fsh_lens_between (lf d : Nat) (a0 a1 a2 : Value) : inside (F_lens_between lf d (evC lf d) a0 a1 a2) = evC lf (d + 1) 183 #[a0, a1, a2] := by
  unfold F_lens_between; (try simp only [clash3_eq, evBox3_eq, insB_eq, un3_eq]); kernel_rfl

noncomputable def F_freq_part_int (lf d : Nat) (rec : RT) (a0 a1 a2 : Value) : M Value :=
 optK (q_mul PP 3 a1 a2) fun v10n1 =>
 optK (len2 PP #[22] [a0]) fun v12n2 =>
 optK (q_add PP 3 a1 (Value.int .i64 1)) fun v14n3 =>
 optK (q_mul PP 3 v14n3 a2) fun v16n4 =>
 optK (min2 [v12n2, v16n4]) fun v17n5 =>
 slice2 PP 22 a0 (some v10n1) (some v17n5) none fun v18n6 =>
 (inside (rec 95 #[v18n6])).bind fun v19n7 =>
 outK [v19n7]
theorem fsh_freq_part_int (lf d : Nat) (a0 a1 a2 : Value) : inside (F_freq_part_int lf d (evC lf d) a0 a1 a2) = evC lf (d + 1) 184 #[a0, a1, a2] := by
  unfold F_freq_part_int; (try simp only [clash3_eq, insB_eq, q_add_eq (P := PP) nf3, q_mul_eq (P := PP) nf3]); kernel_rfl

noncomputable def F_freq_all (lf d : Nat) (rec : RT) (a0 : Value) : M Value :=
 (inside (rec 136 #[a0, (Value.func (.func 213) #[] #[])])).bind fun v4n1 =>
 optK (un3 PP .not v4n1) fun v5n2 =>
 outK [v5n2]
theorem fsh_freq_all (lf d : Nat) (a0 : Value) : inside (F_freq_all lf d (evC lf d) a0) = evC lf (d + 1) 185 #[a0] := by
  unfold F_freq_all; (try simp only [clash3_eq, insB_eq, un3_eq]); kernel_rfl

noncomputable def F_freq_together (lf d : Nat) (rec : RT) (a0 a1 : Value) : M Value :=
 optK (q_add PP 3 a0 a1) fun v7n1 =>
 optK (min2 [v7n1, (Value.int .i64 1099511627776)]) fun v8n2 =>
 outK [v8n2]
theorem fsh_freq_together (lf d : Nat) (a0 a1 : Value) : inside (F_freq_together lf d (evC lf d) a0 a1) = evC lf (d + 1) 186 #[a0, a1] := by
  unfold F_freq_together; (try simp only [clash3_eq, insB_eq, q_add_eq (P := PP) nf3]); kernel_rfl

noncomputable def F_sorter_Sorter_step (lf d : Nat) (rec : RT) (a0 : Value) : M Value :=
 (inside (rec 215 #[a0])).bind fun v3n1 =>
 optK (nil2 a0) fun v8n2 =>
 optK (evFA3 PP 214 6 v8n2 6) fun v9n3 =>
 optK (evFA3 PP 212 2 v9n3 2) fun v10n4 =>
 insB (evLoad3 PP 3 v10n4) fun v11n5 =>
 optK (q_gtr PP 3 v11n5 (Value.int .i64 0)) fun v12n6 =>
 ifV v12n6 (
 optK (nil2 a0) fun v15n7 =>
 optK (evFA3 PP 214 9 v15n7 7) fun v16n8 =>
 insB (evLoad3 PP 3 v16n8) fun v17n9 =>
 optK (nil2 a0) fun v19n10 =>
 optK (evFA3 PP 214 6 v19n10 6) fun v20n11 =>
 optK (evFA3 PP 212 1 v20n11 1) fun v21n12 =>
 insB (evLoad3 PP 3 v21n12) fun v22n13 =>
 optK (nil2 a0) fun v24n14 =>
 optK (evFA3 PP 214 6 v24n14 6) fun v25n15 =>
 optK (evFA3 PP 212 0 v25n15 0) fun v26n16 =>
 insB (evLoad3 PP 3 v26n16) fun v27n17 =>
 optK (q_sub PP 3 v22n13 v27n17) fun v28n18 =>
 optK (q_lss PP 3 v17n9 v28n18) fun v29n19 =>
 ifV v29n19 (
 (inside (rec 216 #[a0])).bind fun v32n20 =>
 optK (nil2 a0) fun v52n21 =>
 optK (evFA3 PP 214 14 v52n21 12) fun v53n22 =>
 insB (evLoad3 PP 3 v53n22) fun v54n23 =>
 optK (q_add PP 3 v54n23 (Value.int .i64 1)) fun v55n24 =>
 optK (nil2 a0) fun v56n25 =>
 optK (evFA3 PP 214 14 v56n25 12) fun v57n26 =>
 insB (evStore3 PP 3 v57n26 v55n24) fun u27 =>
 outK []) (
 optK (nil2 a0) fun v35n28 =>
 optK (evFA3 PP 214 6 v35n28 6) fun v36n29 =>
 optK (evFA3 PP 212 2 v36n29 2) fun v37n30 =>
 insB (evLoad3 PP 3 v37n30) fun v38n31 =>
 optK (q_gtr PP 3 v38n31 (Value.int .i64 0)) fun v39n32 =>
 ifV v39n32 (
 (inside (rec 217 #[a0])).bind fun v41n33 =>
 optK (nil2 a0) fun v52n34 =>
 optK (evFA3 PP 214 14 v52n34 12) fun v53n35 =>
 insB (evLoad3 PP 3 v53n35) fun v54n36 =>
 optK (q_add PP 3 v54n36 (Value.int .i64 1)) fun v55n37 =>
 optK (nil2 a0) fun v56n38 =>
 optK (evFA3 PP 214 14 v56n38 12) fun v57n39 =>
 insB (evStore3 PP 3 v57n39 v55n37) fun u40 =>
 outK []) (
 optK (nil2 a0) fun v44n41 =>
 optK (evFA3 PP 214 5 v44n41 5) fun v45n42 =>
 insB (evLoad3 PP 210 v45n42) fun v46n43 =>
 optK (len2 PP #[210] [v46n43]) fun v47n44 =>
 optK (q_gtr PP 3 v47n44 (Value.int .i64 0)) fun v48n45 =>
 ifV v48n45 (
 (inside (rec 218 #[a0])).bind fun v50n46 =>
 optK (nil2 a0) fun v52n47 =>
 optK (evFA3 PP 214 14 v52n47 12) fun v53n48 =>
 insB (evLoad3 PP 3 v53n48) fun v54n49 =>
 optK (q_add PP 3 v54n49 (Value.int .i64 1)) fun v55n50 =>
 optK (nil2 a0) fun v56n51 =>
 optK (evFA3 PP 214 14 v56n51 12) fun v57n52 =>
 insB (evStore3 PP 3 v57n52 v55n50) fun u53 =>
 outK []) (
 (inside (rec 219 #[a0])).bind fun v5n54 =>
 optK (nil2 a0) fun v52n55 =>
 optK (evFA3 PP 214 14 v52n55 12) fun v53n56 =>
 insB (evLoad3 PP 3 v53n56) fun v54n57 =>
 optK (q_add PP 3 v54n57 (Value.int .i64 1)) fun v55n58 =>
 optK (nil2 a0) fun v56n59 =>
 optK (evFA3 PP 214 14 v56n59 12) fun v57n60 =>
 insB (evStore3 PP 3 v57n60 v55n58) fun u61 =>
 outK [])))) (
 optK (nil2 a0) fun v35n62 =>
 optK (evFA3 PP 214 6 v35n62 6) fun v36n63 =>
 optK (evFA3 PP 212 2 v36n63 2) fun v37n64 =>
 insB (evLoad3 PP 3 v37n64) fun v38n65 =>
 optK (q_gtr PP 3 v38n65 (Value.int .i64 0)) fun v39n66 =>
 ifV v39n66 (
 (inside (rec 217 #[a0])).bind fun v41n67 =>
 optK (nil2 a0) fun v52n68 =>
 optK (evFA3 PP 214 14 v52n68 12) fun v53n69 =>
 insB (evLoad3 PP 3 v53n69) fun v54n70 =>
 optK (q_add PP 3 v54n70 (Value.int .i64 1)) fun v55n71 =>
 optK (nil2 a0) fun v56n72 =>
 optK (evFA3 PP 214 14 v56n72 12) fun v57n73 =>
 insB (evStore3 PP 3 v57n73 v55n71) fun u74 =>
 outK []) (
 optK (nil2 a0) fun v44n75 =>
 optK (evFA3 PP 214 5 v44n75 5) fun v45n76 =>
 insB (evLoad3 PP 210 v45n76) fun v46n77 =>
 optK (len2 PP #[210] [v46n77]) fun v47n78 =>
 optK (q_gtr PP 3 v47n78 (Value.int .i64 0)) fun v48n79 =>
 ifV v48n79 (
 (inside (rec 218 #[a0])).bind fun v50n80 =>
 optK (nil2 a0) fun v52n81 =>
 optK (evFA3 PP 214 14 v52n81 12) fun v53n82 =>
 insB (evLoad3 PP 3 v53n82) fun v54n83 =>
 optK (q_add PP 3 v54n83 (Value.int .i64 1)) fun v55n84 =>
 optK (nil2 a0) fun v56n85 =>
 optK (evFA3 PP 214 14 v56n85 12) fun v57n86 =>
 insB (evStore3 PP 3 v57n86 v55n84) fun u87 =>
 outK []) (
 (inside (rec 219 #[a0])).bind fun v5n88 =>
 optK (nil2 a0) fun v52n89 =>
 optK (evFA3 PP 214 14 v52n89 12) fun v53n90 =>
 insB (evLoad3 PP 3 v53n90) fun v54n91 =>
 optK (q_add PP 3 v54n91 (Value.int .i64 1)) fun v55n92 =>
 optK (nil2 a0) fun v56n93 =>
 optK (evFA3 PP 214 14 v56n93 12) fun v57n94 =>
 insB (evStore3 PP 3 v57n94 v55n92) fun u95 =>
 outK [])))
theorem fsh_sorter_Sorter_step (lf d : Nat) (a0 : Value) : inside (F_sorter_Sorter_step lf d (evC lf d) a0) = evC lf (d + 1) 187 #[a0] := by
  unfold F_sorter_Sorter_step; (try simp only [clash3_eq, evFA3_eq (P := PP) gf212f0, evFA3_eq (P := PP) gf212f1, evFA3_eq (P := PP) gf212f2, evFA3_eq (P := PP) gf214f12, evFA3_eq (P := PP) gf214f5, evFA3_eq (P := PP) gf214f6, evFA3_eq (P := PP) gf214f7, evLoad3_eq (P := PP) ga210, evLoad3_eq (P := PP) ga3, evStore3_eq (P := PP) gs3, insB_eq, q_add_eq (P := PP) nf3, q_gtr_eq (P := PP) nf3, q_lss_eq (P := PP) nf3, q_sub_eq (P := PP) nf3]); kernel_rfl

noncomputable def F_bwt_ahead (lf d : Nat) (rec : RT) (a0 a1 : Value) : M Value :=
 optK (q_eql PP 3 a1 (Value.int .i64 0)) fun v6n1 =>
 ifV v6n1 (
 optK (len2 PP #[9] [a0]) fun v9n2 =>
 optK (q_sub PP 3 v9n2 (Value.int .i64 1)) fun v10n3 =>
 optK (index3 PP 9 a0 v10n3) fun v11n4 =>
 outK [v11n4]) (
 optK (q_sub PP 3 a1 (Value.int .i64 1)) fun v14n5 =>
 optK (index3 PP 9 a0 v14n5) fun v15n6 =>
 outK [v15n6])
theorem fsh_bwt_ahead (lf d : Nat) (a0 a1 : Value) : inside (F_bwt_ahead lf d (evC lf d) a0 a1) = evC lf (d + 1) 188 #[a0, a1] := by
  unfold F_bwt_ahead; (try simp only [clash3_eq, index3_eq (P := PP) Tryz.underlying9, insB_eq, q_eql_eq (P := PP) nf3, q_sub_eq (P := PP) nf3]); kernel_rfl

noncomputable def F_mtf_List_touch (lf d : Nat) (rec : RT) (a0 a1 : Value) : M Value :=
 optK (nil2 a0) fun v7n1 =>
 optK (evFA3 PP 231 0 v7n1 0) fun v8n2 =>
 insB (evLoad3 PP 133 v8n2) fun v9n3 =>
 optK (evIA3 PP 133 1 v9n3 a1) fun v11n4 =>
 insB (evLoad3 PP 5 v11n4) fun v12n5 =>
 optK (nil2 a0) fun v14n6 =>
 optK (evFA3 PP 231 0 v14n6 0) fun v15n7 =>
 insB (evLoad3 PP 133 v15n7) fun v16n8 =>
 optK (q_add PP 3 a1 (Value.int .i64 1)) fun v18n9 =>
 slice2 PP 133 v16n8 (some (Value.int .i64 1)) (some v18n9) none fun v19n10 =>
 optK (nil2 a0) fun v21n11 =>
 optK (evFA3 PP 231 0 v21n11 0) fun v22n12 =>
 insB (evLoad3 PP 133 v22n12) fun v23n13 =>
 slice2 PP 133 v23n13 none (some a1) none fun v25n14 =>
 (inside (evCopy PP 133 v19n10 v25n14)).bind fun v26n15 =>
 optK (nil2 a0) fun v28n16 =>
 optK (evFA3 PP 231 0 v28n16 0) fun v29n17 =>
 insB (evLoad3 PP 133 v29n17) fun v30n18 =>
 optK (evIA3 PP 133 1 v30n18 (Value.int .i64 0)) fun v32n19 =>
 insB (evStore3 PP 5 v32n19 v12n5) fun u20 =>
 outK [v12n5]
theorem fsh_mtf_List_touch (lf d : Nat) (a0 a1 : Value) : inside (F_mtf_List_touch lf d (evC lf d) a0 a1) = evC lf (d + 1) 190 #[a0, a1] := by
  unfold F_mtf_List_touch; (try simp only [clash3_eq, evFA3_eq (P := PP) gf231f0, evIA3_eq (P := PP) Tryz.underlying133 gs5, evLoad3_eq (P := PP) ga133, evLoad3_eq (P := PP) ga5, evStore3_eq (P := PP) gs5, insB_eq, q_add_eq (P := PP) nf3]); kernel_rfl

noncomputable def lpA_balerref03_row (lf d fu : Nat) (k : KT) (x0 x2 x3 : Value) : M Value := loopK (fun s1 k1 => codeK PP (evC lf d) (gtA 191) lf (codeAt (bodyOf PP 191) [true, true, false, false, false]) s1 k1) [0, 2, 3] fu [(0, x0), (2, x2), (3, x3)] k
noncomputable def kcA_balerref03_row (lf d : Nat) : KT := contAt PP (evC lf d) (gtA 191) lf (bodyOf PP 191) [true, true, false, false] (endK PP (resOf PP 191))
noncomputable def LA_balerref03_row (lf d : Nat) (rec : RT) (k : KT) : Nat → Value → Value → Value → M Value
 | 0, _, _, _ => M.fail
 | fu + 1, x0, x2, x3 =>
 optK (len2 PP #[9] [x0]) fun v6n1 =>
 optK (q_lss PP 3 x3 v6n1) fun v7n2 =>
 ifV v7n2 (
 optK (q_lss PP 3 x3 (Value.int .i64 255)) fun v10n3 =>
 ifV v10n3 (
 optK (index3 PP 9 x0 x3) fun v15n4 =>
 optK (index3 PP 9 x0 (Value.int .i64 0)) fun v17n5 =>
 optK (q_eql PP 5 v15n4 v17n5) fun v18n6 =>
 ifV v18n6 (
 optK (q_add PP 3 x3 (Value.int .i64 1)) fun v21n7 =>
 LA_balerref03_row lf d rec k fu x0 x2 v21n7) (
 k (Ex.exit 0) [(0, x0), (2, x2), (3, x3), (19, v18n6)])) (
 k (Ex.exit 0) [(0, x0), (2, x2), (3, x3), (19, (Value.bool false))])) (
 k (Ex.exit 0) [(0, x0), (2, x2), (3, x3), (19, (Value.bool false))])
noncomputable def KA_balerref03_row (lf d : Nat) (rec : RT) (dflt : KT) : KT := (kEx 0 (runCur [0, 2, 3, 19] (fun y0 y2 y3 y19 =>
 outK [y3]) (dflt (Ex.exit 0))) dflt)
noncomputable def F_balerref03_row (lf d : Nat) (rec : RT) (a0 : Value) : M Value :=
 LA_balerref03_row lf d rec (KA_balerref03_row lf d rec (kcA_balerref03_row lf d)) lf a0 (Value.int .i64 0) (Value.int .i64 0)
theorem LQA_balerref03_row (lf d : Nat) (k : KT) : ∀ fu : Nat, LA_balerref03_row lf d (evC lf d) k fu = lpA_balerref03_row lf d fu k
  | 0 => by funext x0 x2 x3; kernel_rfl
  | fu + 1 => by
    have ih := LQA_balerref03_row lf d k fu
    funext x0 x2 x3; simp only [LA_balerref03_row, ih, clash3_eq, index3_eq (P := PP) Tryz.underlying9, insB_eq, q_add_eq (P := PP) nf3, q_eql_eq (P := PP) nf5, q_lss_eq (P := PP) nf3]; kernel_rfl
set_option maxRecDepth 20000 in
theorem KQA_balerref03_row (lf d : Nat) : KA_balerref03_row lf d (evC lf d) (kcA_balerref03_row lf d) = kcA_balerref03_row lf d := by
  unfold KA_balerref03_row
  refine Eq.trans (kEx_eq ?_) ?_
  · exact (runCur_eq _ _ _ (by intro y0 y2 y3 y19; show _ = _; (try simp only [clash3_eq, insB_eq]); kernel_rfl))
  rfl
theorem fsh_balerref03_row (lf d : Nat) (a0 : Value) : inside (F_balerref03_row lf d (evC lf d) a0) = evC lf (d + 1) 191 #[a0] := by
  unfold F_balerref03_row; (try simp only [KQA_balerref03_row lf d, LQA_balerref03_row, clash3_eq, insB_eq]); kernel_rfl

noncomputable def lpA_balerref17_From (lf d fu : Nat) (k : KT) (x0 x1 x4 x5 x10 x11 x12 : Value) : M Value := loopK (fun s1 k1 => codeK PP (evC lf d) (gtA 192) lf (codeAt (bodyOf PP 192) [true, true, false, true, false, false]) s1 k1) [0, 1, 4, 5, 10, 11, 12] fu [(0, x0), (1, x1), (4, x4), (5, x5), (10, x10), (11, x11), (12, x12)] k
noncomputable def kcA_balerref17_From (lf d : Nat) : KT := contAt PP (evC lf d) (gtA 192) lf (bodyOf PP 192) [true, true, false, true, false] (endK PP (resOf PP 192))
noncomputable def LA_balerref17_From (lf d : Nat) (rec : RT) (k : KT) : Nat → Value → Value → Value → Value → Value → Value → Value → M Value
 | 0, _, _, _, _, _, _, _ => M.fail
 | fu + 1, x0, x1, x4, x5, x10, x11, x12 =>
 optK (q_lss PP 3 x12 x11) fun v13n6 =>
 ifV v13n6 (
 optK (evIA3 PP 22 1 x10 x12) fun v15n7 =>
 insB (evLoad3 PP 3 v15n7) fun v16n8 =>
 (inside (rec 221 #[x0, v16n8])).bind fun v19n9 =>
 optK (evFA3 PP 196 0 x5 0) fun v20n10 =>
 insB (evLoad3 PP 9 v20n10) fun v21n11 =>
 optK (len2 PP #[9] [v19n9]) fun v24n12 =>
 optK (q_sub PP 3 v24n12 (Value.int .i64 1)) fun v25n13 =>
 slice3 PP 9 v19n9 (some v25n13) none none fun v26n14 =>
 optK (qS_add PP 9 v21n11 v26n14) fun v27n15 =>
 optK (evFA3 PP 196 0 x5 0) fun v28n16 =>
 insB (evStore3 PP 9 v28n16 v27n15) fun u17 =>
 optK (q_eql PP 3 v16n8 (Value.int .i64 0)) fun v30n18 =>
 ifV v30n18 (
 optK (evFA3 PP 196 1 x5 1) fun v32n19 =>
 insB (evStore3 PP 3 v32n19 x12) fun u20 =>
 optK (q_add PP 3 x12 (Value.int .i64 1)) fun v33n21 =>
 LA_balerref17_From lf d rec k fu x0 x1 x4 x5 x10 x11 v33n21) (
 optK (q_add PP 3 x12 (Value.int .i64 1)) fun v33n22 =>
 LA_balerref17_From lf d rec k fu x0 x1 x4 x5 x10 x11 v33n22)) (
 k (Ex.exit 0) [(0, x0), (1, x1), (4, x4), (5, x5), (10, x10), (11, x11), (12, x12), (13, v13n6)])
noncomputable def KA_balerref17_From (lf d : Nat) (rec : RT) (dflt : KT) : KT := (kEx 0 (runCur [0, 1, 4, 5, 10, 11, 12, 13] (fun y0 y1 y4 y5 y10 y11 y12 y13 =>
 insB (evLoadA3 PP 196 2 y5) fun v34n23 =>
 insB (evStoreA3 PP 196 2 y4 v34n23) fun u24 =>
 (evLoad PP 196 y4).bind fun vrn25 =>
 outK [vrn25]) (dflt (Ex.exit 0))) dflt)
noncomputable def F_balerref17_From (lf d : Nat) (rec : RT) (a0 a1 : Value) : M Value :=
 insB (evAllocZ 196 [Value.string ⟨⟨[]⟩⟩, Value.int .i64 0]) fun v4n1 =>
 insB (evBuildZ PP 196 [Value.string ⟨⟨[]⟩⟩, Value.int .i64 0] []) fun v9n2 =>
 insB (evAllocZ 196 [Value.string ⟨⟨[]⟩⟩, Value.int .i64 0]) fun v5n3 =>
 insB (evStoreA3 PP 196 2 v5n3 v9n2) fun u4 =>
 optK (len2 PP #[22] [a1]) fun v11n5 =>
 LA_balerref17_From lf d rec (KA_balerref17_From lf d rec (kcA_balerref17_From lf d)) lf a0 a1 v4n1 v5n3 a1 v11n5 (Value.int .i64 0)
theorem LQA_balerref17_From (lf d : Nat) (k : KT) : ∀ fu : Nat, LA_balerref17_From lf d (evC lf d) k fu = lpA_balerref17_From lf d fu k
  | 0 => by funext x0 x1 x4 x5 x10 x11 x12; kernel_rfl
  | fu + 1 => by
    have ih := LQA_balerref17_From lf d k fu
    funext x0 x1 x4 x5 x10 x11 x12; simp only [LA_balerref17_From, ih, clash3_eq, evFA3_eq (P := PP) gf196f0, evFA3_eq (P := PP) gf196f1, evIA3_eq (P := PP) Tryz.underlying22 gs3, evLoad3_eq (P := PP) ga3, evLoad3_eq (P := PP) ga9, evStore3_eq (P := PP) gs3, evStore3_eq (P := PP) gs9, insB_eq, qS_add_eq (P := PP) nf9, q_add_eq (P := PP) nf3, q_eql_eq (P := PP) nf3, q_lss_eq (P := PP) nf3, q_sub_eq (P := PP) nf3, slice3_eq (P := PP) Tryz.underlying9]; kernel_rfl
set_option maxRecDepth 20000 in
theorem KQA_balerref17_From (lf d : Nat) : KA_balerref17_From lf d (evC lf d) (kcA_balerref17_From lf d) = kcA_balerref17_From lf d := by
  unfold KA_balerref17_From
  refine Eq.trans (kEx_eq ?_) ?_
  · exact (runCur_eq _ _ _ (by intro y0 y1 y4 y5 y10 y11 y12 y13; show _ = _; (try simp only [clash3_eq, evLoadA3_eq (P := PP) ga196 gs196, evStoreA3_eq (P := PP) gs196, insB_eq]); kernel_rfl))
  rfl
theorem fsh_balerref17_From (lf d : Nat) (a0 a1 : Value) : inside (F_balerref17_From lf d (evC lf d) a0 a1) = evC lf (d + 1) 192 #[a0, a1] := by
  unfold F_balerref17_From; (try simp only [KQA_balerref17_From lf d, LQA_balerref17_From, az196, bz196, clash3_eq, evStoreA3_eq (P := PP) gs196, insB_eq]); kernel_rfl

noncomputable def lpA_balerref15_Sorted (lf d fu : Nat) (k : KT) (x0 x2 x3 x10 x11 : Value) : M Value := loopK (fun s1 k1 => codeK PP (evC lf d) (gtA 193) lf (codeAt (bodyOf PP 193) [true, true, false, true, false, false]) s1 k1) [0, 2, 3, 10, 11] fu [(0, x0), (2, x2), (3, x3), (10, x10), (11, x11)] k
noncomputable def kcA_balerref15_Sorted (lf d : Nat) : KT := contAt PP (evC lf d) (gtA 193) lf (bodyOf PP 193) [true, true, false, true, false] (endK PP (resOf PP 193))
noncomputable def lpB_balerref15_Sorted (lf d fu : Nat) (k : KT) (x0 x2 x3 x4 x5 x6 x10 x11 x12 x14 x15 x16 : Value) : M Value := loopK (fun s1 k1 => codeK PP (evC lf d) (gtA 193) lf (codeAt (bodyOf PP 193) [true, true, false, true, false, false, true, true, false, false, true, true, true, false, true, false, false]) s1 k1) [0, 2, 3, 4, 5, 6, 10, 11, 12, 14, 15, 16] fu [(0, x0), (2, x2), (3, x3), (4, x4), (5, x5), (6, x6), (10, x10), (11, x11), (12, x12), (14, x14), (15, x15), (16, x16)] k
noncomputable def kcB_balerref15_Sorted (lf d fu : Nat) (k : KT) : KT := contAt PP (evC lf d) (gtA 193) lf (codeAt (bodyOf PP 193) [true, true, false, true, false, false]) [true, true, false, false, true, true, true, false, true, false] (againK (fun s1 => loopK (fun s1 k1 => codeK PP (evC lf d) (gtA 193) lf (codeAt (bodyOf PP 193) [true, true, false, true, false, false]) s1 k1) [0, 2, 3, 10, 11] fu (s1.keep [0, 2, 3, 10, 11]) k) k)
noncomputable def KA_balerref15_Sorted (lf d : Nat) (rec : RT) (dflt : KT) : KT := (kEx 0 (runCur [0, 2, 3, 10, 11, 12] (fun y0 y2 y3 y10 y11 y12 =>
 outK [y3]) (dflt (Ex.exit 0))) dflt)
noncomputable def LB_balerref15_Sorted (lf d : Nat) (rec : RT) (k : KT) : Nat → Value → Value → Value → Value → Value → Value → Value → Value → Value → Value → Value → Value → M Value
 | 0, _, _, _, _, _, _, _, _, _, _, _, _ => M.fail
 | fu + 1, x0, x2, x3, x4, x5, x6, x10, x11, x12, x14, x15, x16 =>
 optK (q_lss PP 3 x16 x15) fun v17n4 =>
 ifV v17n4 (
 optK (evIA3 PP 22 1 x14 x16) fun v18n5 =>
 insB (evLoad3 PP 3 v18n5) fun v19n6 =>
 optK (un3 PP .not x6) fun v21n7 =>
 ifV v21n7 (
 (inside (rec 222 #[x0, x4, v19n6])).bind fun v26n8 =>
 ifV v26n8 (
 insB (evBS3 PP 22 1 [(0, x4)]) fun v30n9 =>
 insB (evAppend3 PP 22 x5 v30n9) fun v31n10 =>
 insB (evBS3 PP 22 1 [(0, v19n6)]) fun v34n11 =>
 insB (evAppend3 PP 22 v31n10 v34n11) fun v35n12 =>
 optK (q_add PP 3 x16 (Value.int .i64 1)) fun v36n13 =>
 LB_balerref15_Sorted lf d rec k fu x0 x2 x3 x4 v35n12 (Value.bool true) x10 x11 x12 x14 x15 v36n13) (
 insB (evBS3 PP 22 1 [(0, v19n6)]) fun v34n14 =>
 insB (evAppend3 PP 22 x5 v34n14) fun v35n15 =>
 optK (q_add PP 3 x16 (Value.int .i64 1)) fun v36n16 =>
 LB_balerref15_Sorted lf d rec k fu x0 x2 x3 x4 v35n15 x6 x10 x11 x12 x14 x15 v36n16)) (
 insB (evBS3 PP 22 1 [(0, v19n6)]) fun v34n17 =>
 insB (evAppend3 PP 22 x5 v34n17) fun v35n18 =>
 optK (q_add PP 3 x16 (Value.int .i64 1)) fun v36n19 =>
 LB_balerref15_Sorted lf d rec k fu x0 x2 x3 x4 v35n18 x6 x10 x11 x12 x14 x15 v36n19)) (
 k (Ex.exit 2) [(0, x0), (2, x2), (3, x3), (4, x4), (5, x5), (6, x6), (10, x10), (11, x11), (12, x12), (14, x14), (15, x15), (16, x16), (17, v17n4)])
noncomputable def KB_balerref15_Sorted (lf d : Nat) (rec : RT) (fu : Nat) (k : KT) (again : Value → Value → Value → Value → Value → M Value) (dflt : KT) : KT := (kEx 2 (runCur [0, 2, 3, 4, 5, 6, 10, 11, 12, 14, 15, 16, 17] (fun y0 y2 y3 y4 y5 y6 y10 y11 y12 y14 y15 y16 y17 =>
 optK (un3 PP .not y6) fun v38n20 =>
 ifV v38n20 (
 insB (evBS3 PP 22 1 [(0, y4)]) fun v41n21 =>
 insB (evAppend3 PP 22 y5 v41n21) fun v42n22 =>
 optK (q_add PP 3 y11 (Value.int .i64 1)) fun v44n23 =>
 again y0 y2 v42n22 y10 v44n23) (
 optK (q_add PP 3 y11 (Value.int .i64 1)) fun v44n24 =>
 again y0 y2 y5 y10 v44n24)) (dflt (Ex.exit 2))) dflt)
noncomputable def LA_balerref15_Sorted (lf d : Nat) (rec : RT) (k : KT) : Nat → Value → Value → Value → Value → Value → M Value
 | 0, _, _, _, _, _ => M.fail
 | fu + 1, x0, x2, x3, x10, x11 =>
 optK (q_lss PP 3 x11 x10) fun v12n2 =>
 ifV v12n2 (
 optK (len2 PP #[22] [x3]) fun v15n3 =>
 LB_balerref15_Sorted lf d rec (KB_balerref15_Sorted lf d rec fu k (LA_balerref15_Sorted lf d rec k fu) (kcB_balerref15_Sorted lf d fu k)) lf x0 x2 x3 x11 (Value.slice none 0 0) (Value.bool false) x10 x11 v12n2 x3 v15n3 (Value.int .i64 0)) (
 k (Ex.exit 0) [(0, x0), (2, x2), (3, x3), (10, x10), (11, x11), (12, v12n2)])
noncomputable def F_balerref15_Sorted (lf d : Nat) (rec : RT) (a0 : Value) : M Value :=
 optK (len2 PP #[9] [a0]) fun v10n1 =>
 LA_balerref15_Sorted lf d rec (KA_balerref15_Sorted lf d rec (kcA_balerref15_Sorted lf d)) lf a0 (Value.slice none 0 0) (Value.slice none 0 0) v10n1 (Value.int .i64 0)
set_option maxRecDepth 20000 in
theorem KQA_balerref15_Sorted (lf d : Nat) : KA_balerref15_Sorted lf d (evC lf d) (kcA_balerref15_Sorted lf d) = kcA_balerref15_Sorted lf d := by
  unfold KA_balerref15_Sorted
  refine Eq.trans (kEx_eq ?_) ?_
  · exact (runCur_eq _ _ _ (by intro y0 y2 y3 y10 y11 y12; show _ = _; (try simp only [clash3_eq, insB_eq]); kernel_rfl))
  rfl
theorem LQB_balerref15_Sorted (lf d : Nat) (k : KT) : ∀ fu : Nat, LB_balerref15_Sorted lf d (evC lf d) k fu = lpB_balerref15_Sorted lf d fu k
  | 0 => by funext x0 x2 x3 x4 x5 x6 x10 x11 x12 x14 x15 x16; kernel_rfl
  | fu + 1 => by
    have ih := LQB_balerref15_Sorted lf d k fu
    funext x0 x2 x3 x4 x5 x6 x10 x11 x12 x14 x15 x16; simp only [LB_balerref15_Sorted, ih, clash3_eq, evAppend3_eq, evBS3_eq, evIA3_eq (P := PP) Tryz.underlying22 gs3, evLoad3_eq (P := PP) ga3, insB_eq, q_add_eq (P := PP) nf3, q_lss_eq (P := PP) nf3, un3_eq]; kernel_rfl
set_option maxRecDepth 20000 in
theorem KQB_balerref15_Sorted (lf d fu : Nat) (k : KT) (again : Value → Value → Value → Value → Value → M Value) (ha : again = lpA_balerref15_Sorted lf d fu k) : KB_balerref15_Sorted lf d (evC lf d) fu k again (kcB_balerref15_Sorted lf d fu k) = kcB_balerref15_Sorted lf d fu k := by
  subst ha
  unfold KB_balerref15_Sorted
  refine Eq.trans (kEx_eq ?_) ?_
  · exact (runCur_eq _ _ _ (by intro y0 y2 y3 y4 y5 y6 y10 y11 y12 y14 y15 y16 y17; show _ = _; (try simp only [clash3_eq, evAppend3_eq, evBS3_eq, insB_eq, q_add_eq (P := PP) nf3, un3_eq]); kernel_rfl))
  rfl
theorem LQA_balerref15_Sorted (lf d : Nat) (k : KT) : ∀ fu : Nat, LA_balerref15_Sorted lf d (evC lf d) k fu = lpA_balerref15_Sorted lf d fu k
  | 0 => by funext x0 x2 x3 x10 x11; kernel_rfl
  | fu + 1 => by
    have ih := LQA_balerref15_Sorted lf d k fu
    funext x0 x2 x3 x10 x11; simp only [LA_balerref15_Sorted, ih, KQB_balerref15_Sorted lf d fu k _ rfl, LQB_balerref15_Sorted, clash3_eq, insB_eq, q_lss_eq (P := PP) nf3]; kernel_rfl
theorem fsh_balerref15_Sorted (lf d : Nat) (a0 : Value) : inside (F_balerref15_Sorted lf d (evC lf d) a0) = evC lf (d + 1) 193 #[a0] := by
  unfold F_balerref15_Sorted; (try simp only [KQA_balerref15_Sorted lf d, LQA_balerref15_Sorted, clash3_eq, insB_eq]); kernel_rfl

noncomputable def lpA_balerref05_Symbols (lf d fu : Nat) (k : KT) (x0 x2 x3 x5 : Value) : M Value := loopK (fun s1 k1 => codeK PP (evC lf d) (gtA 194) lf (codeAt (bodyOf PP 194) [true, true, false, true, false, false]) s1 k1) [0, 2, 3, 5] fu [(0, x0), (2, x2), (3, x3), (5, x5)] k
noncomputable def kcA_balerref05_Symbols (lf d : Nat) : KT := contAt PP (evC lf d) (gtA 194) lf (bodyOf PP 194) [true, true, false, true, false] (endK PP (resOf PP 194))
noncomputable def LA_balerref05_Symbols (lf d : Nat) (rec : RT) (k : KT) : Nat → Value → Value → Value → Value → M Value
 | 0, _, _, _, _ => M.fail
 | fu + 1, x0, x2, x3, x5 =>
 optK (q_lss PP 3 x5 (Value.int .i64 256)) fun v6n1 =>
 ifV v6n1 (
 (inside (rec 223 #[x0, x5])).bind fun v10n2 =>
 ifV v10n2 (
 conv3 PP 3 5 .i64 .u8 x5 fun v13n3 =>
 insB (evBS3 PP 133 1 [(0, v13n3)]) fun v14n4 =>
 insB (evToStr3 v14n4) fun v15n5 =>
 optK (qS_add PP 9 x3 v15n5) fun v16n6 =>
 optK (q_add PP 3 x5 (Value.int .i64 1)) fun v17n7 =>
 LA_balerref05_Symbols lf d rec k fu x0 x2 v16n6 v17n7) (
 optK (q_add PP 3 x5 (Value.int .i64 1)) fun v17n8 =>
 LA_balerref05_Symbols lf d rec k fu x0 x2 x3 v17n8)) (
 k (Ex.exit 0) [(0, x0), (2, x2), (3, x3), (5, x5), (6, v6n1)])
noncomputable def KA_balerref05_Symbols (lf d : Nat) (rec : RT) (dflt : KT) : KT := (kEx 0 (runCur [0, 2, 3, 5, 6] (fun y0 y2 y3 y5 y6 =>
 outK [y3]) (dflt (Ex.exit 0))) dflt)
noncomputable def F_balerref05_Symbols (lf d : Nat) (rec : RT) (a0 : Value) : M Value :=
 LA_balerref05_Symbols lf d rec (KA_balerref05_Symbols lf d rec (kcA_balerref05_Symbols lf d)) lf a0 (Value.string { data := #[] }) (Value.string { data := #[] }) (Value.int .i64 0)
theorem LQA_balerref05_Symbols (lf d : Nat) (k : KT) : ∀ fu : Nat, LA_balerref05_Symbols lf d (evC lf d) k fu = lpA_balerref05_Symbols lf d fu k
  | 0 => by funext x0 x2 x3 x5; kernel_rfl
  | fu + 1 => by
    have ih := LQA_balerref05_Symbols lf d k fu
    funext x0 x2 x3 x5; simp only [LA_balerref05_Symbols, ih, clash3_eq, conv3_eq cw3x5, evBS3_eq, evToStr3_eq, insB_eq, qS_add_eq (P := PP) nf9, q_add_eq (P := PP) nf3, q_lss_eq (P := PP) nf3]; kernel_rfl
set_option maxRecDepth 20000 in
theorem KQA_balerref05_Symbols (lf d : Nat) : KA_balerref05_Symbols lf d (evC lf d) (kcA_balerref05_Symbols lf d) = kcA_balerref05_Symbols lf d := by
  unfold KA_balerref05_Symbols
  refine Eq.trans (kEx_eq ?_) ?_
  · exact (runCur_eq _ _ _ (by intro y0 y2 y3 y5 y6; show _ = _; (try simp only [clash3_eq, insB_eq]); kernel_rfl))
  rfl
theorem fsh_balerref05_Symbols (lf d : Nat) (a0 : Value) : inside (F_balerref05_Symbols lf d (evC lf d) a0) = evC lf (d + 1) 194 #[a0] := by
  unfold F_balerref05_Symbols; (try simp only [KQA_balerref05_Symbols lf d, LQA_balerref05_Symbols, clash3_eq, insB_eq]); kernel_rfl

noncomputable def lpA_balerref06_Encode (lf d fu : Nat) (k : KT) (x0 x1 x4 x5 x6 x7 x8 x12 : Value) : M Value := loopK (fun s1 k1 => codeK PP (evC lf d) (gtA 195) lf (codeAt (bodyOf PP 195) [true, true, true, true, false, true, false, false]) s1 k1) [0, 1, 4, 5, 6, 7, 8, 12] fu [(0, x0), (1, x1), (4, x4), (5, x5), (6, x6), (7, x7), (8, x8), (12, x12)] k
noncomputable def kcA_balerref06_Encode (lf d : Nat) : KT := contAt PP (evC lf d) (gtA 195) lf (bodyOf PP 195) [true, true, true, true, false, true, false] (endK PP (resOf PP 195))
noncomputable def LA_balerref06_Encode (lf d : Nat) (rec : RT) (k : KT) : Nat → Value → Value → Value → Value → Value → Value → Value → Value → M Value
 | 0, _, _, _, _, _, _, _, _ => M.fail
 | fu + 1, x0, x1, x4, x5, x6, x7, x8, x12 =>
 optK (len2 PP #[9] [x0]) fun v16n3 =>
 optK (q_lss PP 3 x8 v16n3) fun v17n4 =>
 ifV v17n4 (
 optK (index3 PP 9 x0 x8) fun v23n5 =>
 (inside (rec 225 #[x7, v23n5])).bind fun v24n6 =>
 optK (q_lss PP 3 v24n6 (Value.int .i64 0)) fun v26n7 =>
 ifV v26n7 (
 k Ex.ret [(0, x0), (1, x1), (4, (Value.slice none 0 0)), (5, (Value.int .i64 6)), (6, x6), (7, x7), (8, x8), (9, v24n6), (12, x12), (17, v17n4), (26, v26n7)]) (
 insB (evBS3 PP 22 1 [(0, v24n6)]) fun v29n8 =>
 insB (evAppend3 PP 22 x6 v29n8) fun v30n9 =>
 (inside (rec 226 #[x7, v24n6])).bind fun v33n10 =>
 optK (q_add PP 3 x8 (Value.int .i64 1)) fun v19n11 =>
 LA_balerref06_Encode lf d rec k fu x0 x1 x4 x5 v30n9 v33n10 v19n11 x12)) (
 k (Ex.exit 0) [(0, x0), (1, x1), (4, x4), (5, x5), (6, x6), (7, x7), (8, x8), (12, x12), (17, v17n4)])
noncomputable def KA_balerref06_Encode (lf d : Nat) (rec : RT) (dflt : KT) : KT := (kEx 0 (runCur [0, 1, 4, 5, 6, 7, 8, 12, 17] (fun y0 y1 y4 y5 y6 y7 y8 y12 y17 =>
 outK [y6, (Value.int .i64 0)]) (dflt (Ex.exit 0))) (kRt (runCur [0, 1, 4, 5, 6, 7, 8, 9, 12, 17, 26] (fun y0 y1 y4 y5 y6 y7 y8 y9 y12 y17 y26 =>
 outK [y4, y5]) (dflt Ex.ret)) dflt))
noncomputable def F_balerref06_Encode (lf d : Nat) (rec : RT) (a0 a1 : Value) : M Value :=
 (inside (rec 224 #[a1])).bind fun v11n1 =>
 optK (un3 PP .not v11n1) fun v12n2 =>
 ifV v12n2 (
 outK [(Value.slice none 0 0), (Value.int .i64 1)]) (
 LA_balerref06_Encode lf d rec (KA_balerref06_Encode lf d rec (kcA_balerref06_Encode lf d)) lf a0 a1 (Value.slice none 0 0) (Value.int .i64 0) (Value.slice none 0 0) a1 (Value.int .i64 0) v12n2)
theorem LQA_balerref06_Encode (lf d : Nat) (k : KT) : ∀ fu : Nat, LA_balerref06_Encode lf d (evC lf d) k fu = lpA_balerref06_Encode lf d fu k
  | 0 => by funext x0 x1 x4 x5 x6 x7 x8 x12; kernel_rfl
  | fu + 1 => by
    have ih := LQA_balerref06_Encode lf d k fu
    funext x0 x1 x4 x5 x6 x7 x8 x12; simp only [LA_balerref06_Encode, ih, clash3_eq, evAppend3_eq, evBS3_eq, index3_eq (P := PP) Tryz.underlying9, insB_eq, q_add_eq (P := PP) nf3, q_lss_eq (P := PP) nf3]; kernel_rfl
set_option maxRecDepth 20000 in
theorem KQA_balerref06_Encode (lf d : Nat) : KA_balerref06_Encode lf d (evC lf d) (kcA_balerref06_Encode lf d) = kcA_balerref06_Encode lf d := by
  unfold KA_balerref06_Encode
  refine Eq.trans (kEx_eq ?_) ?_
  · exact (runCur_eq _ _ _ (by intro y0 y1 y4 y5 y6 y7 y8 y12 y17; show _ = _; (try simp only [clash3_eq, insB_eq]); kernel_rfl))
  refine Eq.trans (kRt_eq ?_) ?_
  · exact (runCur_eq _ _ _ (by intro y0 y1 y4 y5 y6 y7 y8 y9 y12 y17 y26; show _ = _; (try simp only [clash3_eq, insB_eq]); kernel_rfl))
  rfl
theorem fsh_balerref06_Encode (lf d : Nat) (a0 a1 : Value) : inside (F_balerref06_Encode lf d (evC lf d) a0 a1) = evC lf (d + 1) 195 #[a0, a1] := by
  unfold F_balerref06_Encode; (try simp only [KQA_balerref06_Encode lf d, LQA_balerref06_Encode, clash3_eq, insB_eq, un3_eq]); kernel_rfl

noncomputable def lpA_balerref07_Encode (lf d fu : Nat) (k : KT) (x0 x1 x4 x5 x6 x7 x15 x16 x17 x18 : Value) : M Value := loopK (fun s1 k1 => codeK PP (evC lf d) (gtA 196) lf (codeAt (bodyOf PP 196) [true, true, true, true, false, true, false, false]) s1 k1) [0, 1, 4, 5, 6, 7, 15, 16, 17, 18] fu [(0, x0), (1, x1), (4, x4), (5, x5), (6, x6), (7, x7), (15, x15), (16, x16), (17, x17), (18, x18)] k
noncomputable def kcA_balerref07_Encode (lf d : Nat) : KT := contAt PP (evC lf d) (gtA 196) lf (bodyOf PP 196) [true, true, true, true, false, true, false] (endK PP (resOf PP 196))
noncomputable def LA_balerref07_Encode (lf d : Nat) (rec : RT) (k : KT) : Nat → Value → Value → Value → Value → Value → Value → Value → Value → Value → Value → M Value
 | 0, _, _, _, _, _, _, _, _, _, _ => M.fail
 | fu + 1, x0, x1, x4, x5, x6, x7, x15, x16, x17, x18 =>
 optK (q_lss PP 3 x18 x17) fun v19n4 =>
 ifV v19n4 (
 optK (evIA3 PP 22 1 x16 x18) fun v20n5 =>
 insB (evLoad3 PP 3 v20n5) fun v21n6 =>
 optK (q_lss PP 3 v21n6 (Value.int .i64 0)) fun v23n7 =>
 ifV v23n7 (
 k Ex.ret [(0, x0), (1, x1), (4, (Value.slice none 0 0)), (5, (Value.int .i64 1)), (6, x6), (7, x7), (9, v21n6), (15, x15), (16, x16), (17, x17), (18, x18), (19, v19n4), (28, (Value.bool true))]) (
 optK (q_geq PP 3 v21n6 x1) fun v27n8 =>
 ifV v27n8 (
 k Ex.ret [(0, x0), (1, x1), (4, (Value.slice none 0 0)), (5, (Value.int .i64 1)), (6, x6), (7, x7), (9, v21n6), (15, x15), (16, x16), (17, x17), (18, x18), (19, v19n4), (28, v27n8)]) (
 optK (q_eql PP 3 v21n6 (Value.int .i64 0)) fun v30n9 =>
 ifV v30n9 (
 optK (q_add PP 3 x7 (Value.int .i64 1)) fun v32n10 =>
 optK (q_add PP 3 x18 (Value.int .i64 1)) fun v42n11 =>
 LA_balerref07_Encode lf d rec k fu x0 x1 x4 x5 x6 v32n10 x15 x16 x17 v42n11) (
 (inside (rec 227 #[x7])).bind fun v35n12 =>
 insB (evAppend3 PP 22 x6 v35n12) fun v36n13 =>
 optK (q_add PP 3 v21n6 (Value.int .i64 1)) fun v39n14 =>
 insB (evBS3 PP 22 1 [(0, v39n14)]) fun v40n15 =>
 insB (evAppend3 PP 22 v36n13 v40n15) fun v41n16 =>
 optK (q_add PP 3 x18 (Value.int .i64 1)) fun v42n17 =>
 LA_balerref07_Encode lf d rec k fu x0 x1 x4 x5 v41n16 (Value.int .i64 0) x15 x16 x17 v42n17)))) (
 k (Ex.exit 0) [(0, x0), (1, x1), (4, x4), (5, x5), (6, x6), (7, x7), (15, x15), (16, x16), (17, x17), (18, x18), (19, v19n4)])
noncomputable def KA_balerref07_Encode (lf d : Nat) (rec : RT) (dflt : KT) : KT := (kEx 0 (runCur [0, 1, 4, 5, 6, 7, 15, 16, 17, 18, 19] (fun y0 y1 y4 y5 y6 y7 y15 y16 y17 y18 y19 =>
 (inside (rec 227 #[y7])).bind fun v45n18 =>
 insB (evAppend3 PP 22 y6 v45n18) fun v46n19 =>
 optK (q_add PP 3 y1 (Value.int .i64 1)) fun v49n20 =>
 insB (evBS3 PP 22 1 [(0, v49n20)]) fun v50n21 =>
 insB (evAppend3 PP 22 v46n19 v50n21) fun v51n22 =>
 outK [v51n22, (Value.int .i64 0)]) (dflt (Ex.exit 0))) (kRt (runCur [0, 1, 4, 5, 6, 7, 9, 15, 16, 17, 18, 19, 28] (fun y0 y1 y4 y5 y6 y7 y9 y15 y16 y17 y18 y19 y28 =>
 outK [y4, y5]) (dflt Ex.ret)) dflt))
noncomputable def F_balerref07_Encode (lf d : Nat) (rec : RT) (a0 a1 : Value) : M Value :=
 optK (q_lss PP 3 a1 (Value.int .i64 1)) fun v11n1 =>
 ifV v11n1 (
 outK [(Value.slice none 0 0), (Value.int .i64 1)]) (
 optK (q_gtr PP 3 a1 (Value.int .i64 256)) fun v14n2 =>
 ifV v14n2 (
 outK [(Value.slice none 0 0), (Value.int .i64 1)]) (
 optK (len2 PP #[22] [a0]) fun v17n3 =>
 LA_balerref07_Encode lf d rec (KA_balerref07_Encode lf d rec (kcA_balerref07_Encode lf d)) lf a0 a1 (Value.slice none 0 0) (Value.int .i64 0) (Value.slice none 0 0) (Value.int .i64 0) v14n2 a0 v17n3 (Value.int .i64 0)))
theorem LQA_balerref07_Encode (lf d : Nat) (k : KT) : ∀ fu : Nat, LA_balerref07_Encode lf d (evC lf d) k fu = lpA_balerref07_Encode lf d fu k
  | 0 => by funext x0 x1 x4 x5 x6 x7 x15 x16 x17 x18; kernel_rfl
  | fu + 1 => by
    have ih := LQA_balerref07_Encode lf d k fu
    funext x0 x1 x4 x5 x6 x7 x15 x16 x17 x18; simp only [LA_balerref07_Encode, ih, clash3_eq, evAppend3_eq, evBS3_eq, evIA3_eq (P := PP) Tryz.underlying22 gs3, evLoad3_eq (P := PP) ga3, insB_eq, q_add_eq (P := PP) nf3, q_eql_eq (P := PP) nf3, q_geq_eq (P := PP) nf3, q_lss_eq (P := PP) nf3]; kernel_rfl
set_option maxRecDepth 20000 in
theorem KQA_balerref07_Encode (lf d : Nat) : KA_balerref07_Encode lf d (evC lf d) (kcA_balerref07_Encode lf d) = kcA_balerref07_Encode lf d := by
  unfold KA_balerref07_Encode
  refine Eq.trans (kEx_eq ?_) ?_
  · exact (runCur_eq _ _ _ (by intro y0 y1 y4 y5 y6 y7 y15 y16 y17 y18 y19; show _ = _; (try simp only [clash3_eq, evAppend3_eq, evBS3_eq, insB_eq, q_add_eq (P := PP) nf3]); kernel_rfl))
  refine Eq.trans (kRt_eq ?_) ?_
  · exact (runCur_eq _ _ _ (by intro y0 y1 y4 y5 y6 y7 y9 y15 y16 y17 y18 y19 y28; show _ = _; (try simp only [clash3_eq, evAppend3_eq, evBS3_eq, insB_eq, q_add_eq (P := PP) nf3]); kernel_rfl))
  rfl
theorem fsh_balerref07_Encode (lf d : Nat) (a0 a1 : Value) : inside (F_balerref07_Encode lf d (evC lf d) a0 a1) = evC lf (d + 1) 196 #[a0, a1] := by
  unfold F_balerref07_Encode; (try simp only [KQA_balerref07_Encode lf d, LQA_balerref07_Encode, clash3_eq, insB_eq, q_gtr_eq (P := PP) nf3, q_lss_eq (P := PP) nf3]); kernel_rfl

noncomputable def lpA_balerref05_Bits (lf d fu : Nat) (k : KT) (x0 x2 x3 x4 x9 : Value) : M Value := loopK (fun s1 k1 => codeK PP (evC lf d) (gtA 197) lf (codeAt (bodyOf PP 197) [true, true, true, false, true, false, false]) s1 k1) [0, 2, 3, 4, 9] fu [(0, x0), (2, x2), (3, x3), (4, x4), (9, x9)] k
noncomputable def kcA_balerref05_Bits (lf d : Nat) : KT := contAt PP (evC lf d) (gtA 197) lf (bodyOf PP 197) [true, true, true, false, true, false] (endK PP (resOf PP 197))
noncomputable def lpB_balerref05_Bits (lf d fu : Nat) (k : KT) (x0 x2 x3 x4 x5 x6 x7 x9 x10 x12 : Value) : M Value := loopK (fun s1 k1 => codeK PP (evC lf d) (gtA 197) lf (codeAt (bodyOf PP 197) [true, true, true, false, true, false, false, true, true, false, false, true, true, true, false, true, false, false]) s1 k1) [0, 2, 3, 4, 5, 6, 7, 9, 10, 12] fu [(0, x0), (2, x2), (3, x3), (4, x4), (5, x5), (6, x6), (7, x7), (9, x9), (10, x10), (12, x12)] k
noncomputable def kcB_balerref05_Bits (lf d fu : Nat) (k : KT) : KT := contAt PP (evC lf d) (gtA 197) lf (codeAt (bodyOf PP 197) [true, true, true, false, true, false, false]) [true, true, false, false, true, true, true, false, true, false] (againK (fun s1 => loopK (fun s1 k1 => codeK PP (evC lf d) (gtA 197) lf (codeAt (bodyOf PP 197) [true, true, true, false, true, false, false]) s1 k1) [0, 2, 3, 4, 9] fu (s1.keep [0, 2, 3, 4, 9]) k) k)
noncomputable def KA_balerref05_Bits (lf d : Nat) (rec : RT) (dflt : KT) : KT := (kEx 0 (runCur [0, 2, 3, 4, 9, 10] (fun y0 y2 y3 y4 y9 y10 =>
 optK (qS_add PP 9 y3 y4) fun v37n2 =>
 outK [v37n2]) (dflt (Ex.exit 0))) dflt)
noncomputable def LB_balerref05_Bits (lf d : Nat) (rec : RT) (k : KT) : Nat → Value → Value → Value → Value → Value → Value → Value → Value → Value → Value → M Value
 | 0, _, _, _, _, _, _, _, _, _, _ => M.fail
 | fu + 1, x0, x2, x3, x4, x5, x6, x7, x9, x10, x12 =>
 optK (q_lss PP 3 x12 (Value.int .i64 16)) fun v13n3 =>
 ifV v13n3 (
 optK (q_mul PP 3 (Value.int .i64 16) x5) fun v17n4 =>
 optK (q_add PP 3 v17n4 x12) fun v19n5 =>
 (inside (rec 223 #[x0, v19n5])).bind fun v20n6 =>
 ifV v20n6 (
 optK (qS_add PP 9 x6 (Value.string { data := #[49] })) fun v22n7 =>
 optK (q_add PP 3 x12 (Value.int .i64 1)) fun v25n8 =>
 LB_balerref05_Bits lf d rec k fu x0 x2 x3 x4 x5 v22n7 (Value.bool true) x9 x10 v25n8) (
 optK (qS_add PP 9 x6 (Value.string { data := #[48] })) fun v24n9 =>
 optK (q_add PP 3 x12 (Value.int .i64 1)) fun v25n10 =>
 LB_balerref05_Bits lf d rec k fu x0 x2 x3 x4 x5 v24n9 x7 x9 x10 v25n10)) (
 k (Ex.exit 2) [(0, x0), (2, x2), (3, x3), (4, x4), (5, x5), (6, x6), (7, x7), (9, x9), (10, x10), (12, x12), (13, v13n3)])
noncomputable def KB_balerref05_Bits (lf d : Nat) (rec : RT) (fu : Nat) (k : KT) (again : Value → Value → Value → Value → Value → M Value) (dflt : KT) : KT := (kEx 2 (runCur [0, 2, 3, 4, 5, 6, 7, 9, 10, 12, 13] (fun y0 y2 y3 y4 y5 y6 y7 y9 y10 y12 y13 =>
 ifV y7 (
 optK (qS_add PP 9 y3 (Value.string { data := #[49] })) fun v28n11 =>
 optK (qS_add PP 9 y4 y6) fun v31n12 =>
 optK (q_add PP 3 y9 (Value.int .i64 1)) fun v34n13 =>
 again y0 y2 v28n11 v31n12 v34n13) (
 optK (qS_add PP 9 y3 (Value.string { data := #[48] })) fun v33n14 =>
 optK (q_add PP 3 y9 (Value.int .i64 1)) fun v34n15 =>
 again y0 y2 v33n14 y4 v34n15)) (dflt (Ex.exit 2))) dflt)
noncomputable def LA_balerref05_Bits (lf d : Nat) (rec : RT) (k : KT) : Nat → Value → Value → Value → Value → Value → M Value
 | 0, _, _, _, _, _ => M.fail
 | fu + 1, x0, x2, x3, x4, x9 =>
 optK (q_lss PP 3 x9 (Value.int .i64 16)) fun v10n1 =>
 ifV v10n1 (
 LB_balerref05_Bits lf d rec (KB_balerref05_Bits lf d rec fu k (LA_balerref05_Bits lf d rec k fu) (kcB_balerref05_Bits lf d fu k)) lf x0 x2 x3 x4 x9 (Value.string { data := #[] }) (Value.bool false) x9 v10n1 (Value.int .i64 0)) (
 k (Ex.exit 0) [(0, x0), (2, x2), (3, x3), (4, x4), (9, x9), (10, v10n1)])
noncomputable def F_balerref05_Bits (lf d : Nat) (rec : RT) (a0 : Value) : M Value :=
 LA_balerref05_Bits lf d rec (KA_balerref05_Bits lf d rec (kcA_balerref05_Bits lf d)) lf a0 (Value.string { data := #[] }) (Value.string { data := #[] }) (Value.string { data := #[] }) (Value.int .i64 0)
set_option maxRecDepth 20000 in
theorem KQA_balerref05_Bits (lf d : Nat) : KA_balerref05_Bits lf d (evC lf d) (kcA_balerref05_Bits lf d) = kcA_balerref05_Bits lf d := by
  unfold KA_balerref05_Bits
  refine Eq.trans (kEx_eq ?_) ?_
  · exact (runCur_eq _ _ _ (by intro y0 y2 y3 y4 y9 y10; show _ = _; (try simp only [clash3_eq, insB_eq, qS_add_eq (P := PP) nf9]); kernel_rfl))
  rfl
theorem LQB_balerref05_Bits (lf d : Nat) (k : KT) : ∀ fu : Nat, LB_balerref05_Bits lf d (evC lf d) k fu = lpB_balerref05_Bits lf d fu k
  | 0 => by funext x0 x2 x3 x4 x5 x6 x7 x9 x10 x12; kernel_rfl
  | fu + 1 => by
    have ih := LQB_balerref05_Bits lf d k fu
    funext x0 x2 x3 x4 x5 x6 x7 x9 x10 x12; simp only [LB_balerref05_Bits, ih, clash3_eq, insB_eq, qS_add_eq (P := PP) nf9, q_add_eq (P := PP) nf3, q_lss_eq (P := PP) nf3, q_mul_eq (P := PP) nf3]; kernel_rfl
set_option maxRecDepth 20000 in
theorem KQB_balerref05_Bits (lf d fu : Nat) (k : KT) (again : Value → Value → Value → Value → Value → M Value) (ha : again = lpA_balerref05_Bits lf d fu k) : KB_balerref05_Bits lf d (evC lf d) fu k again (kcB_balerref05_Bits lf d fu k) = kcB_balerref05_Bits lf d fu k := by
  subst ha
  unfold KB_balerref05_Bits
  refine Eq.trans (kEx_eq ?_) ?_
  · exact (runCur_eq _ _ _ (by intro y0 y2 y3 y4 y5 y6 y7 y9 y10 y12 y13; show _ = _; (try simp only [clash3_eq, insB_eq, qS_add_eq (P := PP) nf9, q_add_eq (P := PP) nf3]); kernel_rfl))
  rfl
theorem LQA_balerref05_Bits (lf d : Nat) (k : KT) : ∀ fu : Nat, LA_balerref05_Bits lf d (evC lf d) k fu = lpA_balerref05_Bits lf d fu k
  | 0 => by funext x0 x2 x3 x4 x9; kernel_rfl
  | fu + 1 => by
    have ih := LQA_balerref05_Bits lf d k fu
    funext x0 x2 x3 x4 x9; simp only [LA_balerref05_Bits, ih, KQB_balerref05_Bits lf d fu k _ rfl, LQB_balerref05_Bits, clash3_eq, insB_eq, q_lss_eq (P := PP) nf3]; kernel_rfl
theorem fsh_balerref05_Bits (lf d : Nat) (a0 : Value) : inside (F_balerref05_Bits lf d (evC lf d) a0) = evC lf (d + 1) 197 #[a0] := by
  unfold F_balerref05_Bits; (try simp only [KQA_balerref05_Bits lf d, LQA_balerref05_Bits, clash3_eq, insB_eq]); kernel_rfl

noncomputable def lpA_balerref14_Bits (lf d fu : Nat) (k : KT) (x0 x1 x4 x5 x6 x7 x22 x23 x24 : Value) : M Value := loopK (fun s1 k1 => codeK PP (evC lf d) (gtA 198) lf (codeAt (bodyOf PP 198) [true, true, true, true, false, true, false, false]) s1 k1) [0, 1, 4, 5, 6, 7, 22, 23, 24] fu [(0, x0), (1, x1), (4, x4), (5, x5), (6, x6), (7, x7), (22, x22), (23, x23), (24, x24)] k
noncomputable def kcA_balerref14_Bits (lf d : Nat) : KT := contAt PP (evC lf d) (gtA 198) lf (bodyOf PP 198) [true, true, true, true, false, true, false] (endK PP (resOf PP 198))
noncomputable def lpB_balerref14_Bits (lf d fu : Nat) (k : KT) (x0 x1 x4 x5 x6 x7 x22 x23 x24 x25 x38 x39 x40 : Value) : M Value := loopK (fun s1 k1 => codeK PP (evC lf d) (gtA 198) lf (codeAt (bodyOf PP 198) [true, true, true, true, true, false, true, false, false]) s1 k1) [0, 1, 4, 5, 6, 7, 22, 23, 24, 25, 38, 39, 40] fu [(0, x0), (1, x1), (4, x4), (5, x5), (6, x6), (7, x7), (22, x22), (23, x23), (24, x24), (25, x25), (38, x38), (39, x39), (40, x40)] k
noncomputable def kcB_balerref14_Bits (lf d : Nat) : KT := contAt PP (evC lf d) (gtA 198) lf (bodyOf PP 198) [true, true, true, true, true, false, true, false] (endK PP (resOf PP 198))
noncomputable def LA_balerref14_Bits (lf d : Nat) (rec : RT) (k : KT) : Nat → Value → Value → Value → Value → Value → Value → Value → Value → Value → M Value
 | 0, _, _, _, _, _, _, _, _, _ => M.fail
 | fu + 1, x0, x1, x4, x5, x6, x7, x22, x23, x24 =>
 optK (q_lss PP 3 x24 x23) fun v25n13 =>
 ifV v25n13 (
 optK (evIA3 PP 72 1 x22 x24) fun v26n14 =>
 insB (evLoad3 PP 22 v26n14) fun v27n15 =>
 (inside (rec 230 #[v27n15])).bind fun v30n16 =>
 optK (qS_add PP 9 x6 v30n16) fun v31n17 =>
 (inside (rec 231 #[v27n15])).bind fun v34n18 =>
 insB (evBS3 PP 252 1 [(0, v34n18)]) fun v35n19 =>
 insB (evAppend3 PP 252 x7 v35n19) fun v36n20 =>
 optK (q_add PP 3 x24 (Value.int .i64 1)) fun v37n21 =>
 LA_balerref14_Bits lf d rec k fu x0 x1 x4 x5 v31n17 v36n20 x22 x23 v37n21) (
 k (Ex.exit 0) [(0, x0), (1, x1), (4, x4), (5, x5), (6, x6), (7, x7), (22, x22), (23, x23), (24, x24), (25, v25n13)])
noncomputable def LB_balerref14_Bits (lf d : Nat) (rec : RT) (k : KT) : Nat → Value → Value → Value → Value → Value → Value → Value → Value → Value → Value → Value → Value → Value → M Value
 | 0, _, _, _, _, _, _, _, _, _, _, _, _, _ => M.fail
 | fu + 1, x0, x1, x4, x5, x6, x7, x22, x23, x24, x25, x38, x39, x40 =>
 optK (q_lss PP 3 x40 x39) fun v41n23 =>
 ifV v41n23 (
 optK (evIA3 PP 22 1 x38 x40) fun v43n24 =>
 insB (evLoad3 PP 3 v43n24) fun v44n25 =>
 optK (evFA3 PP 250 1 x5 1) fun v47n26 =>
 insB (evLoad3 PP 22 v47n26) fun v48n27 =>
 optK (q_quo PP 3 x40 (Value.int .i64 50)) fun v50n28 =>
 optK (evIA3 PP 22 1 v48n27 v50n28) fun v51n29 =>
 insB (evLoad3 PP 3 v51n29) fun v52n30 =>
 optK (evIA3 PP 252 1 x7 v52n30) fun v53n31 =>
 insB (evLoad3 PP 47 v53n31) fun v54n32 =>
 optK (evIA3 PP 47 1 v54n32 v44n25) fun v56n33 =>
 insB (evLoad3 PP 9 v56n33) fun v57n34 =>
 optK (qS_add PP 9 x6 v57n34) fun v58n35 =>
 optK (q_add PP 3 x40 (Value.int .i64 1)) fun v59n36 =>
 LB_balerref14_Bits lf d rec k fu x0 x1 x4 x5 v58n35 x7 x22 x23 x24 x25 x38 x39 v59n36) (
 k (Ex.exit 2) [(0, x0), (1, x1), (4, x4), (5, x5), (6, x6), (7, x7), (22, x22), (23, x23), (24, x24), (25, x25), (38, x38), (39, x39), (40, x40), (41, v41n23)])
noncomputable def KB_balerref14_Bits (lf d : Nat) (rec : RT) (dflt : KT) : KT := (kEx 2 (runCur [0, 1, 4, 5, 6, 7, 22, 23, 24, 25, 38, 39, 40, 41] (fun y0 y1 y4 y5 y6 y7 y22 y23 y24 y25 y38 y39 y40 y41 =>
 outK [y6]) (dflt (Ex.exit 2))) dflt)
noncomputable def KA_balerref14_Bits (lf d : Nat) (rec : RT) (dflt : KT) : KT := (kEx 0 (runCur [0, 1, 4, 5, 6, 7, 22, 23, 24, 25] (fun y0 y1 y4 y5 y6 y7 y22 y23 y24 y25 =>
 optK (len2 PP #[22] [y0]) fun v39n22 =>
 LB_balerref14_Bits lf d rec (KB_balerref14_Bits lf d rec (kcB_balerref14_Bits lf d)) lf y0 y1 y4 y5 y6 y7 y22 y23 y24 y25 y0 v39n22 (Value.int .i64 0)) (dflt (Ex.exit 0))) dflt)
noncomputable def F_balerref14_Bits (lf d : Nat) (rec : RT) (a0 a1 : Value) : M Value :=
 (inside (rec 228 #[a0, a1])).bind fun v14n1 =>
 insB (evAllocZ 250 [Value.slice none 0 0, Value.slice none 0 0]) fun v5n2 =>
 insB (evStoreA3 PP 250 2 v5n2 v14n1) fun u3 =>
 optK (evFA3 PP 250 1 v5n2 1) fun v15n4 =>
 insB (evLoad3 PP 22 v15n4) fun v16n5 =>
 optK (evFA3 PP 250 0 v5n2 0) fun v17n6 =>
 insB (evLoad3 PP 72 v17n6) fun v18n7 =>
 optK (len2 PP #[72] [v18n7]) fun v19n8 =>
 (inside (rec 229 #[v16n5, v19n8])).bind fun v20n9 =>
 optK (evFA3 PP 250 0 v5n2 0) fun v21n10 =>
 insB (evLoad3 PP 72 v21n10) fun v22n11 =>
 optK (len2 PP #[72] [v22n11]) fun v23n12 =>
 LA_balerref14_Bits lf d rec (KA_balerref14_Bits lf d rec (kcA_balerref14_Bits lf d)) lf a0 a1 (Value.string { data := #[] }) v5n2 v20n9 (Value.slice none 0 0) v22n11 v23n12 (Value.int .i64 0)
theorem LQA_balerref14_Bits (lf d : Nat) (k : KT) : ∀ fu : Nat, LA_balerref14_Bits lf d (evC lf d) k fu = lpA_balerref14_Bits lf d fu k
  | 0 => by funext x0 x1 x4 x5 x6 x7 x22 x23 x24; kernel_rfl
  | fu + 1 => by
    have ih := LQA_balerref14_Bits lf d k fu
    funext x0 x1 x4 x5 x6 x7 x22 x23 x24; simp only [LA_balerref14_Bits, ih, clash3_eq, evAppend3_eq, evBS3_eq, evIA3_eq (P := PP) Tryz.underlying72 gs22, evLoad3_eq (P := PP) ga22, insB_eq, qS_add_eq (P := PP) nf9, q_add_eq (P := PP) nf3, q_lss_eq (P := PP) nf3]; kernel_rfl
theorem LQB_balerref14_Bits (lf d : Nat) (k : KT) : ∀ fu : Nat, LB_balerref14_Bits lf d (evC lf d) k fu = lpB_balerref14_Bits lf d fu k
  | 0 => by funext x0 x1 x4 x5 x6 x7 x22 x23 x24 x25 x38 x39 x40; kernel_rfl
  | fu + 1 => by
    have ih := LQB_balerref14_Bits lf d k fu
    funext x0 x1 x4 x5 x6 x7 x22 x23 x24 x25 x38 x39 x40; simp only [LB_balerref14_Bits, ih, clash3_eq, evFA3_eq (P := PP) gf250f1, evIA3_eq (P := PP) Tryz.underlying22 gs3, evIA3_eq (P := PP) Tryz.underlying252 gs47, evIA3_eq (P := PP) Tryz.underlying47 gs9, evLoad3_eq (P := PP) ga22, evLoad3_eq (P := PP) ga3, evLoad3_eq (P := PP) ga47, evLoad3_eq (P := PP) ga9, insB_eq, qS_add_eq (P := PP) nf9, q_add_eq (P := PP) nf3, q_lss_eq (P := PP) nf3, q_quo_eq (P := PP) nf3]; kernel_rfl
set_option maxRecDepth 20000 in
theorem KQB_balerref14_Bits (lf d : Nat) : KB_balerref14_Bits lf d (evC lf d) (kcB_balerref14_Bits lf d) = kcB_balerref14_Bits lf d := by
  unfold KB_balerref14_Bits
  refine Eq.trans (kEx_eq ?_) ?_
  · exact (runCur_eq _ _ _ (by intro y0 y1 y4 y5 y6 y7 y22 y23 y24 y25 y38 y39 y40 y41; show _ = _; (try simp only [clash3_eq, insB_eq]); kernel_rfl))
  rfl
set_option maxRecDepth 20000 in
theorem KQA_balerref14_Bits (lf d : Nat) : KA_balerref14_Bits lf d (evC lf d) (kcA_balerref14_Bits lf d) = kcA_balerref14_Bits lf d := by
  unfold KA_balerref14_Bits
  refine Eq.trans (kEx_eq ?_) ?_
  · exact (runCur_eq _ _ _ (by intro y0 y1 y4 y5 y6 y7 y22 y23 y24 y25; show _ = _; (try simp only [KQB_balerref14_Bits lf d, LQB_balerref14_Bits, clash3_eq, insB_eq]); kernel_rfl))
  rfl
theorem fsh_balerref14_Bits (lf d : Nat) (a0 a1 : Value) : inside (F_balerref14_Bits lf d (evC lf d) a0 a1) = evC lf (d + 1) 198 #[a0, a1] := by
  unfold F_balerref14_Bits; (try simp only [KQA_balerref14_Bits lf d, LQA_balerref14_Bits, az250, clash3_eq, evFA3_eq (P := PP) gf250f0, evFA3_eq (P := PP) gf250f1, evLoad3_eq (P := PP) ga22, evLoad3_eq (P := PP) ga72, evStoreA3_eq (P := PP) gs250, insB_eq]); kernel_rfl

noncomputable def F_balerref02_Step (lf d : Nat) (rec : RT) (a0 a1 : Value) : M Value :=
 conv3 PP 5 38 .u8 .u32 a1 fun v7n1 =>
 optK (q_mul PP 38 v7n1 (Value.int .u32 16777216)) fun v8n2 =>
 optK (q_xor PP 38 a0 v8n2) fun v9n3 =>
 (inside (rec 232 #[v9n3])).bind fun v10n4 =>
 outK [v10n4]
theorem fsh_balerref02_Step (lf d : Nat) (a0 a1 : Value) : inside (F_balerref02_Step lf d (evC lf d) a0 a1) = evC lf (d + 1) 199 #[a0, a1] := by
  unfold F_balerref02_Step; (try simp only [clash3_eq, conv3_eq cw5x38, insB_eq, q_mul_eq (P := PP) nf38, q_xor_eq (P := PP) nf38]); kernel_rfl

noncomputable def lpA_balerref01_Number (lf d fu : Nat) (k : KT) (x0 x2 x3 x4 : Value) : M Value := loopK (fun s1 k1 => codeK PP (evC lf d) (gtA 200) lf (codeAt (bodyOf PP 200) [true, true, false, true, false, false]) s1 k1) [0, 2, 3, 4] fu [(0, x0), (2, x2), (3, x3), (4, x4)] k
noncomputable def kcA_balerref01_Number (lf d : Nat) : KT := contAt PP (evC lf d) (gtA 200) lf (bodyOf PP 200) [true, true, false, true, false] (endK PP (resOf PP 200))
noncomputable def LA_balerref01_Number (lf d : Nat) (rec : RT) (k : KT) : Nat → Value → Value → Value → Value → M Value
 | 0, _, _, _, _ => M.fail
 | fu + 1, x0, x2, x3, x4 =>
 optK (len2 PP #[9] [x0]) fun v7n1 =>
 optK (q_lss PP 3 x4 v7n1) fun v8n2 =>
 ifV v8n2 (
 optK (q_mul PP 38 (Value.int .u32 2) x3) fun v12n3 =>
 optK (index3 PP 9 x0 x4) fun v15n4 =>
 optK (q_sub PP 5 v15n4 (Value.int .u8 48)) fun v16n5 =>
 conv3 PP 5 38 .u8 .u32 v16n5 fun v17n6 =>
 optK (q_add PP 38 v12n3 v17n6) fun v18n7 =>
 optK (q_add PP 3 x4 (Value.int .i64 1)) fun v10n8 =>
 LA_balerref01_Number lf d rec k fu x0 x2 v18n7 v10n8) (
 k (Ex.exit 0) [(0, x0), (2, x2), (3, x3), (4, x4), (8, v8n2)])
noncomputable def KA_balerref01_Number (lf d : Nat) (rec : RT) (dflt : KT) : KT := (kEx 0 (runCur [0, 2, 3, 4, 8] (fun y0 y2 y3 y4 y8 =>
 outK [y3]) (dflt (Ex.exit 0))) dflt)
noncomputable def F_balerref01_Number (lf d : Nat) (rec : RT) (a0 : Value) : M Value :=
 LA_balerref01_Number lf d rec (KA_balerref01_Number lf d rec (kcA_balerref01_Number lf d)) lf a0 (Value.int .u32 0) (Value.int .u32 0) (Value.int .i64 0)
theorem LQA_balerref01_Number (lf d : Nat) (k : KT) : ∀ fu : Nat, LA_balerref01_Number lf d (evC lf d) k fu = lpA_balerref01_Number lf d fu k
  | 0 => by funext x0 x2 x3 x4; kernel_rfl
  | fu + 1 => by
    have ih := LQA_balerref01_Number lf d k fu
    funext x0 x2 x3 x4; simp only [LA_balerref01_Number, ih, clash3_eq, conv3_eq cw5x38, index3_eq (P := PP) Tryz.underlying9, insB_eq, q_add_eq (P := PP) nf3, q_add_eq (P := PP) nf38, q_lss_eq (P := PP) nf3, q_mul_eq (P := PP) nf38, q_sub_eq (P := PP) nf5]; kernel_rfl
set_option maxRecDepth 20000 in
theorem KQA_balerref01_Number (lf d : Nat) : KA_balerref01_Number lf d (evC lf d) (kcA_balerref01_Number lf d) = kcA_balerref01_Number lf d := by
  unfold KA_balerref01_Number
  refine Eq.trans (kEx_eq ?_) ?_
  · exact (runCur_eq _ _ _ (by intro y0 y2 y3 y4 y8; show _ = _; (try simp only [clash3_eq, insB_eq]); kernel_rfl))
  rfl
theorem fsh_balerref01_Number (lf d : Nat) (a0 : Value) : inside (F_balerref01_Number lf d (evC lf d) a0) = evC lf (d + 1) 200 #[a0] := by
  unfold F_balerref01_Number; (try simp only [KQA_balerref01_Number lf d, LQA_balerref01_Number, clash3_eq, insB_eq]); kernel_rfl

noncomputable def F_balerref02_Combine (lf d : Nat) (rec : RT) (a0 a1 : Value) : M Value :=
 optK (q_mul PP 38 a0 (Value.int .u32 2)) fun v7n1 =>
 optK (q_geq PP 38 a0 (Value.int .u32 2147483648)) fun v9n2 =>
 ifV v9n2 (
 optK (q_add PP 38 v7n1 (Value.int .u32 1)) fun v11n3 =>
 optK (q_xor PP 38 v11n3 a1) fun v14n4 =>
 outK [v14n4]) (
 optK (q_xor PP 38 v7n1 a1) fun v14n5 =>
 outK [v14n5])
theorem fsh_balerref02_Combine (lf d : Nat) (a0 a1 : Value) : inside (F_balerref02_Combine lf d (evC lf d) a0 a1) = evC lf (d + 1) 201 #[a0, a1] := by
  unfold F_balerref02_Combine; (try simp only [clash3_eq, insB_eq, q_add_eq (P := PP) nf38, q_geq_eq (P := PP) nf38, q_mul_eq (P := PP) nf38, q_xor_eq (P := PP) nf38]); kernel_rfl

noncomputable def F_feed_Packer_close (lf d : Nat) (rec : RT) (a0 : Value) : M Value :=
 optK (nil2 a0) fun v7n1 =>
 optK (evFA3 PP 209 0 v7n1 0) fun v8n2 =>
 insB (evLoadA3 PP 166 2 v8n2) fun v9n3 =>
 (inside (rec 233 #[v9n3])).bind fun v10n4 =>
 optK (evExtract v10n4 0) fun v11n5 =>
 optK (evExtract v10n4 1) fun v12n6 =>
 insB (evBuildZ PP 166 [Value.int .u8 0, Value.int .i64 0] []) fun v14n7 =>
 optK (nil2 a0) fun v15n8 =>
 optK (evFA3 PP 209 0 v15n8 0) fun v16n9 =>
 insB (evStoreA3 PP 166 2 v16n9 v14n7) fun u10 =>
 outK [v11n5]
theorem fsh_feed_Packer_close (lf d : Nat) (a0 : Value) : inside (F_feed_Packer_close lf d (evC lf d) a0) = evC lf (d + 1) 202 #[a0] := by
  unfold F_feed_Packer_close; (try simp only [bz166, clash3_eq, evFA3_eq (P := PP) gf209f0, evLoadA3_eq (P := PP) ga166 gs166, evStoreA3_eq (P := PP) gs166, insB_eq]); kernel_rfl

noncomputable def lpA_split_begun_take (lf d fu : Nat) (k : KT) (x0 x1 x3 x4 x30 x31 : Value) : M Value := loopK (fun s1 k1 => codeK PP (evC lf d) (gtA 203) lf (codeAt (bodyOf PP 203) [true, true, true, true, true, false, false]) s1 k1) [0, 1, 3, 4, 30, 31] fu [(0, x0), (1, x1), (3, x3), (4, x4), (30, x30), (31, x31)] k
noncomputable def kcA_split_begun_take (lf d : Nat) : KT := contAt PP (evC lf d) (gtA 203) lf (bodyOf PP 203) [true, true, true, true, true, false] (endK PP (resOf PP 203))
noncomputable def LA_split_begun_take (lf d : Nat) (rec : RT) (k : KT) : Nat → Value → Value → Value → Value → Value → Value → M Value
 | 0, _, _, _, _, _, _ => M.fail
 | fu + 1, x0, x1, x3, x4, x30, x31 =>
 optK (q_lss PP 3 x31 x30) fun v32n24 =>
 ifV v32n24 (
 optK (nil2 x0) fun v34n25 =>
 optK (evFA3 PP 160 1 v34n25 1) fun v35n26 =>
 insB (evLoad3 PP 157 v35n26) fun v36n27 =>
 optK (evFA3 PP 166 0 x3 0) fun v37n28 =>
 insB (evLoad3 PP 5 v37n28) fun v38n29 =>
 (inside (rec 234 #[v36n27, v38n29])).bind fun v39n30 =>
 optK (q_add PP 3 x31 (Value.int .i64 1)) fun v40n31 =>
 LA_split_begun_take lf d rec k fu x0 x1 x3 x4 x30 v40n31) (
 k (Ex.exit 0) [(0, x0), (1, x1), (3, x3), (4, x4), (30, x30), (31, x31), (32, v32n24)])
noncomputable def KA_split_begun_take (lf d : Nat) (rec : RT) (dflt : KT) : KT := (kEx 0 (runCur [0, 1, 3, 4, 30, 31, 32] (fun y0 y1 y3 y4 y30 y31 y32 =>
 outK []) (dflt (Ex.exit 0))) dflt)
noncomputable def F_split_begun_take (lf d : Nat) (rec : RT) (a0 a1 : Value) : M Value :=
 insB (evBox3 PP 166 a1) fun v3n1 =>
 insB (evLoadA3 PP 166 2 v3n1) fun v7n2 =>
 (inside (rec 233 #[v7n2])).bind fun v8n3 =>
 optK (evExtract v8n3 0) fun v9n4 =>
 optK (evExtract v8n3 1) fun v10n5 =>
 optK (nil2 a0) fun v13n6 =>
 optK (evFA3 PP 160 0 v13n6 0) fun v14n7 =>
 insB (evLoad3 PP 133 v14n7) fun v15n8 =>
 insB (evAppend3 PP 133 v15n8 v9n4) fun v17n9 =>
 optK (nil2 a0) fun v18n10 =>
 optK (evFA3 PP 160 0 v18n10 0) fun v19n11 =>
 insB (evStore3 PP 133 v19n11 v17n9) fun u12 =>
 optK (nil2 a0) fun v21n13 =>
 optK (evFA3 PP 160 2 v21n13 2) fun v22n14 =>
 insB (evLoad3 PP 3 v22n14) fun v23n15 =>
 optK (evFA3 PP 166 1 v3n1 1) fun v24n16 =>
 insB (evLoad3 PP 3 v24n16) fun v25n17 =>
 optK (q_add PP 3 v23n15 v25n17) fun v26n18 =>
 optK (nil2 a0) fun v27n19 =>
 optK (evFA3 PP 160 2 v27n19 2) fun v28n20 =>
 insB (evStore3 PP 3 v28n20 v26n18) fun u21 =>
 optK (evFA3 PP 166 1 v3n1 1) fun v29n22 =>
 insB (evLoad3 PP 3 v29n22) fun v30n23 =>
 LA_split_begun_take lf d rec (KA_split_begun_take lf d rec (kcA_split_begun_take lf d)) lf a0 a1 v3n1 v9n4 v30n23 (Value.int .i64 0)
theorem LQA_split_begun_take (lf d : Nat) (k : KT) : ∀ fu : Nat, LA_split_begun_take lf d (evC lf d) k fu = lpA_split_begun_take lf d fu k
  | 0 => by funext x0 x1 x3 x4 x30 x31; kernel_rfl
  | fu + 1 => by
    have ih := LQA_split_begun_take lf d k fu
    funext x0 x1 x3 x4 x30 x31; simp only [LA_split_begun_take, ih, clash3_eq, evFA3_eq (P := PP) gf160f1, evFA3_eq (P := PP) gf166f0, evLoad3_eq (P := PP) ga157, evLoad3_eq (P := PP) ga5, insB_eq, q_add_eq (P := PP) nf3, q_lss_eq (P := PP) nf3]; kernel_rfl
set_option maxRecDepth 20000 in
theorem KQA_split_begun_take (lf d : Nat) : KA_split_begun_take lf d (evC lf d) (kcA_split_begun_take lf d) = kcA_split_begun_take lf d := by
  unfold KA_split_begun_take
  refine Eq.trans (kEx_eq ?_) ?_
  · exact (runCur_eq _ _ _ (by intro y0 y1 y3 y4 y30 y31 y32; show _ = _; (try simp only [clash3_eq, insB_eq]); kernel_rfl))
  rfl
theorem fsh_split_begun_take (lf d : Nat) (a0 a1 : Value) : inside (F_split_begun_take lf d (evC lf d) a0 a1) = evC lf (d + 1) 203 #[a0, a1] := by
  unfold F_split_begun_take; (try simp only [KQA_split_begun_take lf d, LQA_split_begun_take, clash3_eq, evAppend3_eq, evBox3_eq, evFA3_eq (P := PP) gf160f0, evFA3_eq (P := PP) gf160f2, evFA3_eq (P := PP) gf166f1, evLoad3_eq (P := PP) ga133, evLoad3_eq (P := PP) ga3, evLoadA3_eq (P := PP) ga166 gs166, evStore3_eq (P := PP) gs133, evStore3_eq (P := PP) gs3, insB_eq, q_add_eq (P := PP) nf3]); kernel_rfl

noncomputable def F_crc_Sum_Value (lf d : Nat) (rec : RT) (a0 : Value) : M Value :=
 optK (qP_eql PP 157 a0 (Value.pointer none)) fun v4n1 =>
 ifV v4n1 (
 outK [(Value.int .u32 0)]) (
 optK (nil2 a0) fun v6n2 =>
 optK (evFA3 PP 207 256 v6n2 1) fun v7n3 =>
 insB (evLoad3 PP 38 v7n3) fun v8n4 =>
 optK (un3 PP .xor v8n4) fun v9n5 =>
 outK [v9n5])
theorem fsh_crc_Sum_Value (lf d : Nat) (a0 : Value) : inside (F_crc_Sum_Value lf d (evC lf d) a0) = evC lf (d + 1) 204 #[a0] := by
  unfold F_crc_Sum_Value; (try simp only [clash3_eq, evFA3_eq (P := PP) gf207f1, evLoad3_eq (P := PP) ga38, insB_eq, qP_eql_eq (P := PP) Tryz.underlying157, un3_eq]); kernel_rfl

noncomputable def F_crc_Sum_Reset (lf d : Nat) (rec : RT) (a0 : Value) : M Value :=
 optK (qP_neq PP 157 a0 (Value.pointer none)) fun v3n1 =>
 ifV v3n1 (
 optK (nil2 a0) fun v5n2 =>
 optK (evFA3 PP 207 256 v5n2 1) fun v6n3 =>
 insB (evStore3 PP 38 v6n3 (Value.int .u32 4294967295)) fun u4 =>
 outK []) (
 outK [])
theorem fsh_crc_Sum_Reset (lf d : Nat) (a0 : Value) : inside (F_crc_Sum_Reset lf d (evC lf d) a0) = evC lf (d + 1) 205 #[a0] := by
  unfold F_crc_Sum_Reset; (try simp only [clash3_eq, evFA3_eq (P := PP) gf207f1, evStore3_eq (P := PP) gs38, insB_eq, qP_neq_eq (P := PP) Tryz.underlying157]); kernel_rfl

noncomputable def F_feed_Packer_Put (lf d : Nat) (rec : RT) (a0 a1 : Value) : M Value :=
 optK (qP_eql PP 161 a0 (Value.pointer none)) fun v7n1 =>
 ifV v7n1 (
 outK [(Value.string { data := #[] })]) (
 optK (nil2 a0) fun v9n2 =>
 optK (evFA3 PP 209 0 v9n2 0) fun v10n3 =>
 optK (evFA3 PP 166 1 v10n3 1) fun v11n4 =>
 insB (evLoad3 PP 3 v11n4) fun v12n5 =>
 optK (q_gtr PP 3 v12n5 (Value.int .i64 0)) fun v13n6 =>
 ifV v13n6 (
 optK (nil2 a0) fun v16n7 =>
 optK (evFA3 PP 209 0 v16n7 0) fun v17n8 =>
 optK (evFA3 PP 166 0 v17n8 0) fun v18n9 =>
 insB (evLoad3 PP 5 v18n9) fun v19n10 =>
 optK (q_neq PP 5 v19n10 a1) fun v21n11 =>
 ifV v21n11 (
 (inside (rec 202 #[a0])).bind fun v24n12 =>
 optK (nil2 a0) fun v27n13 =>
 optK (evFA3 PP 209 0 v27n13 0) fun v28n14 =>
 optK (evFA3 PP 166 0 v28n14 0) fun v29n15 =>
 insB (evStore3 PP 5 v29n15 a1) fun u16 =>
 optK (nil2 a0) fun v31n17 =>
 optK (evFA3 PP 209 0 v31n17 0) fun v32n18 =>
 optK (evFA3 PP 166 1 v32n18 1) fun v33n19 =>
 insB (evLoad3 PP 3 v33n19) fun v34n20 =>
 optK (q_add PP 3 v34n20 (Value.int .i64 1)) fun v35n21 =>
 optK (nil2 a0) fun v36n22 =>
 optK (evFA3 PP 209 0 v36n22 0) fun v37n23 =>
 optK (evFA3 PP 166 1 v37n23 1) fun v38n24 =>
 insB (evStore3 PP 3 v38n24 v35n21) fun u25 =>
 optK (nil2 a0) fun v40n26 =>
 optK (evFA3 PP 209 0 v40n26 0) fun v41n27 =>
 optK (evFA3 PP 166 1 v41n27 1) fun v42n28 =>
 insB (evLoad3 PP 3 v42n28) fun v43n29 =>
 optK (q_eql PP 3 v43n29 (Value.int .i64 255)) fun v44n30 =>
 ifV v44n30 (
 (inside (rec 202 #[a0])).bind fun v47n31 =>
 optK (qS_add PP 9 v24n12 v47n31) fun v48n32 =>
 outK [v48n32]) (
 outK [v24n12])) (
 optK (nil2 a0) fun v27n33 =>
 optK (evFA3 PP 209 0 v27n33 0) fun v28n34 =>
 optK (evFA3 PP 166 0 v28n34 0) fun v29n35 =>
 insB (evStore3 PP 5 v29n35 a1) fun u36 =>
 optK (nil2 a0) fun v31n37 =>
 optK (evFA3 PP 209 0 v31n37 0) fun v32n38 =>
 optK (evFA3 PP 166 1 v32n38 1) fun v33n39 =>
 insB (evLoad3 PP 3 v33n39) fun v34n40 =>
 optK (q_add PP 3 v34n40 (Value.int .i64 1)) fun v35n41 =>
 optK (nil2 a0) fun v36n42 =>
 optK (evFA3 PP 209 0 v36n42 0) fun v37n43 =>
 optK (evFA3 PP 166 1 v37n43 1) fun v38n44 =>
 insB (evStore3 PP 3 v38n44 v35n41) fun u45 =>
 optK (nil2 a0) fun v40n46 =>
 optK (evFA3 PP 209 0 v40n46 0) fun v41n47 =>
 optK (evFA3 PP 166 1 v41n47 1) fun v42n48 =>
 insB (evLoad3 PP 3 v42n48) fun v43n49 =>
 optK (q_eql PP 3 v43n49 (Value.int .i64 255)) fun v44n50 =>
 ifV v44n50 (
 (inside (rec 202 #[a0])).bind fun v47n51 =>
 optK (qS_add PP 9 (Value.string { data := #[] }) v47n51) fun v48n52 =>
 outK [v48n52]) (
 outK [(Value.string { data := #[] })]))) (
 optK (nil2 a0) fun v27n53 =>
 optK (evFA3 PP 209 0 v27n53 0) fun v28n54 =>
 optK (evFA3 PP 166 0 v28n54 0) fun v29n55 =>
 insB (evStore3 PP 5 v29n55 a1) fun u56 =>
 optK (nil2 a0) fun v31n57 =>
 optK (evFA3 PP 209 0 v31n57 0) fun v32n58 =>
 optK (evFA3 PP 166 1 v32n58 1) fun v33n59 =>
 insB (evLoad3 PP 3 v33n59) fun v34n60 =>
 optK (q_add PP 3 v34n60 (Value.int .i64 1)) fun v35n61 =>
 optK (nil2 a0) fun v36n62 =>
 optK (evFA3 PP 209 0 v36n62 0) fun v37n63 =>
 optK (evFA3 PP 166 1 v37n63 1) fun v38n64 =>
 insB (evStore3 PP 3 v38n64 v35n61) fun u65 =>
 optK (nil2 a0) fun v40n66 =>
 optK (evFA3 PP 209 0 v40n66 0) fun v41n67 =>
 optK (evFA3 PP 166 1 v41n67 1) fun v42n68 =>
 insB (evLoad3 PP 3 v42n68) fun v43n69 =>
 optK (q_eql PP 3 v43n69 (Value.int .i64 255)) fun v44n70 =>
 ifV v44n70 (
 (inside (rec 202 #[a0])).bind fun v47n71 =>
 optK (qS_add PP 9 (Value.string { data := #[] }) v47n71) fun v48n72 =>
 outK [v48n72]) (
 outK [(Value.string { data := #[] })])))
theorem fsh_feed_Packer_Put (lf d : Nat) (a0 a1 : Value) : inside (F_feed_Packer_Put lf d (evC lf d) a0 a1) = evC lf (d + 1) 206 #[a0, a1] := by
  unfold F_feed_Packer_Put; (try simp only [clash3_eq, evFA3_eq (P := PP) gf166f0, evFA3_eq (P := PP) gf166f1, evFA3_eq (P := PP) gf209f0, evLoad3_eq (P := PP) ga3, evLoad3_eq (P := PP) ga5, evStore3_eq (P := PP) gs3, evStore3_eq (P := PP) gs5, insB_eq, qP_eql_eq (P := PP) Tryz.underlying161, qS_add_eq (P := PP) nf9, q_add_eq (P := PP) nf3, q_eql_eq (P := PP) nf3, q_gtr_eq (P := PP) nf3, q_neq_eq (P := PP) nf5]); kernel_rfl

noncomputable def lpA_lens_depths (lf d fu : Nat) (k : KT) (x0 x2 x3 x11 x12 : Value) : M Value := loopK (fun s1 k1 => codeK PP (evC lf d) (gtA 209) lf (codeAt (bodyOf PP 209) [true, true, false, true, false, false]) s1 k1) [0, 2, 3, 11, 12] fu [(0, x0), (2, x2), (3, x3), (11, x11), (12, x12)] k
noncomputable def kcA_lens_depths (lf d : Nat) : KT := contAt PP (evC lf d) (gtA 209) lf (bodyOf PP 209) [true, true, false, true, false] (endK PP (resOf PP 209))
noncomputable def lpB_lens_depths (lf d fu : Nat) (k : KT) (x0 x2 x3 x5 x6 x11 x12 x13 : Value) : M Value := loopK (fun s1 k1 => codeK PP (evC lf d) (gtA 209) lf (codeAt (bodyOf PP 209) [true, true, true, true, false, true, false, false]) s1 k1) [0, 2, 3, 5, 6, 11, 12, 13] fu [(0, x0), (2, x2), (3, x3), (5, x5), (6, x6), (11, x11), (12, x12), (13, x13)] k
noncomputable def kcB_lens_depths (lf d : Nat) : KT := contAt PP (evC lf d) (gtA 209) lf (bodyOf PP 209) [true, true, true, true, false, true, false] (endK PP (resOf PP 209))
noncomputable def LA_lens_depths (lf d : Nat) (rec : RT) (k : KT) : Nat → Value → Value → Value → Value → Value → M Value
 | 0, _, _, _, _, _ => M.fail
 | fu + 1, x0, x2, x3, x11, x12 =>
 optK (q_lss PP 3 x12 x11) fun v13n4 =>
 ifV v13n4 (
 (inside (rec 236 #[x3])).bind fun v15n5 =>
 (inside (rec 236 #[x3])).bind fun v19n6 =>
 (inside (rec 237 #[x3, v15n5, v19n6])).bind fun v20n7 =>
 optK (q_add PP 3 x12 (Value.int .i64 1)) fun v21n8 =>
 LA_lens_depths lf d rec k fu x0 x2 x3 x11 v21n8) (
 k (Ex.exit 0) [(0, x0), (2, x2), (3, x3), (11, x11), (12, x12), (13, v13n4)])
noncomputable def LB_lens_depths (lf d : Nat) (rec : RT) (k : KT) : Nat → Value → Value → Value → Value → Value → Value → Value → Value → M Value
 | 0, _, _, _, _, _, _, _, _ => M.fail
 | fu + 1, x0, x2, x3, x5, x6, x11, x12, x13 =>
 optK (q_geq PP 3 x6 (Value.int .i64 0)) fun v32n16 =>
 ifV v32n16 (
 optK (nil2 x3) fun v39n17 =>
 optK (evFA3 PP 260 1 v39n17 1) fun v40n18 =>
 insB (evLoad3 PP 22 v40n18) fun v41n19 =>
 optK (evIA3 PP 22 1 v41n19 x6) fun v43n20 =>
 insB (evLoad3 PP 3 v43n20) fun v44n21 =>
 optK (evIA3 PP 22 1 x5 v44n21) fun v45n22 =>
 insB (evLoad3 PP 3 v45n22) fun v46n23 =>
 optK (q_add PP 3 v46n23 (Value.int .i64 1)) fun v47n24 =>
 optK (evIA3 PP 22 1 x5 x6) fun v48n25 =>
 insB (evStore3 PP 3 v48n25 v47n24) fun u26 =>
 optK (q_sub PP 3 x6 (Value.int .i64 1)) fun v34n27 =>
 LB_lens_depths lf d rec k fu x0 x2 x3 x5 v34n27 x11 x12 x13) (
 k (Ex.exit 2) [(0, x0), (2, x2), (3, x3), (5, x5), (6, x6), (11, x11), (12, x12), (13, x13), (32, v32n16)])
noncomputable def KB_lens_depths (lf d : Nat) (rec : RT) (dflt : KT) : KT := (kEx 2 (runCur [0, 2, 3, 5, 6, 11, 12, 13, 32] (fun y0 y2 y3 y5 y6 y11 y12 y13 y32 =>
 optK (len2 PP #[22] [y0]) fun v51n28 =>
 slice2 PP 22 y5 none (some v51n28) none fun v52n29 =>
 outK [v52n29]) (dflt (Ex.exit 2))) dflt)
noncomputable def KA_lens_depths (lf d : Nat) (rec : RT) (dflt : KT) : KT := (kEx 0 (runCur [0, 2, 3, 11, 12, 13] (fun y0 y2 y3 y11 y12 y13 =>
 optK (nil2 y3) fun v23n9 =>
 optK (evFA3 PP 260 0 v23n9 0) fun v24n10 =>
 insB (evLoad3 PP 22 v24n10) fun v25n11 =>
 optK (len2 PP #[22] [v25n11]) fun v26n12 =>
 insB (evMake3 PP 22 v26n12 v26n12) fun v27n13 =>
 optK (len2 PP #[22] [v27n13]) fun v29n14 =>
 optK (q_sub PP 3 v29n14 (Value.int .i64 2)) fun v30n15 =>
 LB_lens_depths lf d rec (KB_lens_depths lf d rec (kcB_lens_depths lf d)) lf y0 y2 y3 v27n13 v30n15 y11 y12 y13) (dflt (Ex.exit 0))) dflt)
noncomputable def F_lens_depths (lf d : Nat) (rec : RT) (a0 : Value) : M Value :=
 (inside (rec 235 #[a0])).bind fun v8n1 =>
 optK (len2 PP #[22] [a0]) fun v10n2 =>
 optK (q_sub PP 3 v10n2 (Value.int .i64 1)) fun v11n3 =>
 LA_lens_depths lf d rec (KA_lens_depths lf d rec (kcA_lens_depths lf d)) lf a0 (Value.slice none 0 0) v8n1 v11n3 (Value.int .i64 0)
theorem LQA_lens_depths (lf d : Nat) (k : KT) : ∀ fu : Nat, LA_lens_depths lf d (evC lf d) k fu = lpA_lens_depths lf d fu k
  | 0 => by funext x0 x2 x3 x11 x12; kernel_rfl
  | fu + 1 => by
    have ih := LQA_lens_depths lf d k fu
    funext x0 x2 x3 x11 x12; simp only [LA_lens_depths, ih, clash3_eq, insB_eq, q_add_eq (P := PP) nf3, q_lss_eq (P := PP) nf3]; kernel_rfl
theorem LQB_lens_depths (lf d : Nat) (k : KT) : ∀ fu : Nat, LB_lens_depths lf d (evC lf d) k fu = lpB_lens_depths lf d fu k
  | 0 => by funext x0 x2 x3 x5 x6 x11 x12 x13; kernel_rfl
  | fu + 1 => by
    have ih := LQB_lens_depths lf d k fu
    funext x0 x2 x3 x5 x6 x11 x12 x13; simp only [LB_lens_depths, ih, clash3_eq, evFA3_eq (P := PP) gf260f1, evIA3_eq (P := PP) Tryz.underlying22 gs3, evLoad3_eq (P := PP) ga22, evLoad3_eq (P := PP) ga3, evStore3_eq (P := PP) gs3, insB_eq, q_add_eq (P := PP) nf3, q_geq_eq (P := PP) nf3, q_sub_eq (P := PP) nf3]; kernel_rfl
set_option maxRecDepth 20000 in
theorem KQB_lens_depths (lf d : Nat) : KB_lens_depths lf d (evC lf d) (kcB_lens_depths lf d) = kcB_lens_depths lf d := by
  unfold KB_lens_depths
  refine Eq.trans (kEx_eq ?_) ?_
  · exact (runCur_eq _ _ _ (by intro y0 y2 y3 y5 y6 y11 y12 y13 y32; show _ = _; (try simp only [clash3_eq, insB_eq]); kernel_rfl))
  rfl
set_option maxRecDepth 20000 in
theorem KQA_lens_depths (lf d : Nat) : KA_lens_depths lf d (evC lf d) (kcA_lens_depths lf d) = kcA_lens_depths lf d := by
  unfold KA_lens_depths
  refine Eq.trans (kEx_eq ?_) ?_
  · exact (runCur_eq _ _ _ (by intro y0 y2 y3 y11 y12 y13; show _ = _; (try simp only [KQB_lens_depths lf d, LQB_lens_depths, clash3_eq, evFA3_eq (P := PP) gf260f0, evLoad3_eq (P := PP) ga22, evMake3_eq, insB_eq, q_sub_eq (P := PP) nf3]); kernel_rfl))
  rfl
theorem fsh_lens_depths (lf d : Nat) (a0 : Value) : inside (F_lens_depths lf d (evC lf d) a0) = evC lf (d + 1) 209 #[a0] := by
  unfold F_lens_depths; (try simp only [KQA_lens_depths lf d, LQA_lens_depths, clash3_eq, insB_eq, q_sub_eq (P := PP) nf3]); kernel_rfl

noncomputable def lpA_lens_Longest (lf d fu : Nat) (k : KT) (x0 x2 x3 x6 x7 x8 : Value) : M Value := loopK (fun s1 k1 => codeK PP (evC lf d) (gtA 210) lf (codeAt (bodyOf PP 210) [true, true, false, true, false, false]) s1 k1) [0, 2, 3, 6, 7, 8] fu [(0, x0), (2, x2), (3, x3), (6, x6), (7, x7), (8, x8)] k
noncomputable def kcA_lens_Longest (lf d : Nat) : KT := contAt PP (evC lf d) (gtA 210) lf (bodyOf PP 210) [true, true, false, true, false] (endK PP (resOf PP 210))
noncomputable def LA_lens_Longest (lf d : Nat) (rec : RT) (k : KT) : Nat → Value → Value → Value → Value → Value → Value → M Value
 | 0, _, _, _, _, _, _ => M.fail
 | fu + 1, x0, x2, x3, x6, x7, x8 =>
 optK (q_lss PP 3 x8 x7) fun v9n2 =>
 ifV v9n2 (
 optK (evIA3 PP 22 1 x6 x8) fun v10n3 =>
 insB (evLoad3 PP 3 v10n3) fun v11n4 =>
 optK (max2 [x3, v11n4]) fun v14n5 =>
 optK (q_add PP 3 x8 (Value.int .i64 1)) fun v15n6 =>
 LA_lens_Longest lf d rec k fu x0 x2 v14n5 x6 x7 v15n6) (
 k (Ex.exit 0) [(0, x0), (2, x2), (3, x3), (6, x6), (7, x7), (8, x8), (9, v9n2)])
noncomputable def KA_lens_Longest (lf d : Nat) (rec : RT) (dflt : KT) : KT := (kEx 0 (runCur [0, 2, 3, 6, 7, 8, 9] (fun y0 y2 y3 y6 y7 y8 y9 =>
 outK [y3]) (dflt (Ex.exit 0))) dflt)
noncomputable def F_lens_Longest (lf d : Nat) (rec : RT) (a0 : Value) : M Value :=
 optK (len2 PP #[22] [a0]) fun v7n1 =>
 LA_lens_Longest lf d rec (KA_lens_Longest lf d rec (kcA_lens_Longest lf d)) lf a0 (Value.int .i64 0) (Value.int .i64 0) a0 v7n1 (Value.int .i64 0)
theorem LQA_lens_Longest (lf d : Nat) (k : KT) : ∀ fu : Nat, LA_lens_Longest lf d (evC lf d) k fu = lpA_lens_Longest lf d fu k
  | 0 => by funext x0 x2 x3 x6 x7 x8; kernel_rfl
  | fu + 1 => by
    have ih := LQA_lens_Longest lf d k fu
    funext x0 x2 x3 x6 x7 x8; simp only [LA_lens_Longest, ih, clash3_eq, evIA3_eq (P := PP) Tryz.underlying22 gs3, evLoad3_eq (P := PP) ga3, insB_eq, q_add_eq (P := PP) nf3, q_lss_eq (P := PP) nf3]; kernel_rfl
set_option maxRecDepth 20000 in
theorem KQA_lens_Longest (lf d : Nat) : KA_lens_Longest lf d (evC lf d) (kcA_lens_Longest lf d) = kcA_lens_Longest lf d := by
  unfold KA_lens_Longest
  refine Eq.trans (kEx_eq ?_) ?_
  · exact (runCur_eq _ _ _ (by intro y0 y2 y3 y6 y7 y8 y9; show _ = _; (try simp only [clash3_eq, insB_eq]); kernel_rfl))
  rfl
theorem fsh_lens_Longest (lf d : Nat) (a0 : Value) : inside (F_lens_Longest lf d (evC lf d) a0) = evC lf (d + 1) 210 #[a0] := by
  unfold F_lens_Longest; (try simp only [KQA_lens_Longest lf d, LQA_lens_Longest, clash3_eq, insB_eq]); kernel_rfl

noncomputable def lpA_lens_Halved (lf d fu : Nat) (k : KT) (x0 x2 x3 x9 x10 x11 : Value) : M Value := loopK (fun s1 k1 => codeK PP (evC lf d) (gtA 211) lf (codeAt (bodyOf PP 211) [true, true, false, true, false, false]) s1 k1) [0, 2, 3, 9, 10, 11] fu [(0, x0), (2, x2), (3, x3), (9, x9), (10, x10), (11, x11)] k
noncomputable def kcA_lens_Halved (lf d : Nat) : KT := contAt PP (evC lf d) (gtA 211) lf (bodyOf PP 211) [true, true, false, true, false] (endK PP (resOf PP 211))
noncomputable def LA_lens_Halved (lf d : Nat) (rec : RT) (k : KT) : Nat → Value → Value → Value → Value → Value → Value → M Value
 | 0, _, _, _, _, _, _ => M.fail
 | fu + 1, x0, x2, x3, x9, x10, x11 =>
 optK (q_lss PP 3 x11 x10) fun v12n4 =>
 ifV v12n4 (
 optK (evIA3 PP 22 1 x9 x11) fun v14n5 =>
 insB (evLoad3 PP 3 v14n5) fun v15n6 =>
 optK (max2 [v15n6, (Value.int .i64 0)]) fun v19n7 =>
 optK (q_quo PP 3 v19n7 (Value.int .i64 2)) fun v20n8 =>
 optK (q_add PP 3 v20n8 (Value.int .i64 1)) fun v21n9 =>
 optK (evIA3 PP 22 1 x3 x11) fun v22n10 =>
 insB (evStore3 PP 3 v22n10 v21n9) fun u11 =>
 optK (q_add PP 3 x11 (Value.int .i64 1)) fun v23n12 =>
 LA_lens_Halved lf d rec k fu x0 x2 x3 x9 x10 v23n12) (
 k (Ex.exit 0) [(0, x0), (2, x2), (3, x3), (9, x9), (10, x10), (11, x11), (12, v12n4)])
noncomputable def KA_lens_Halved (lf d : Nat) (rec : RT) (dflt : KT) : KT := (kEx 0 (runCur [0, 2, 3, 9, 10, 11, 12] (fun y0 y2 y3 y9 y10 y11 y12 =>
 outK [y3]) (dflt (Ex.exit 0))) dflt)
noncomputable def F_lens_Halved (lf d : Nat) (rec : RT) (a0 : Value) : M Value :=
 optK (len2 PP #[22] [a0]) fun v7n1 =>
 insB (evMake3 PP 22 v7n1 v7n1) fun v8n2 =>
 optK (len2 PP #[22] [a0]) fun v10n3 =>
 LA_lens_Halved lf d rec (KA_lens_Halved lf d rec (kcA_lens_Halved lf d)) lf a0 (Value.slice none 0 0) v8n2 a0 v10n3 (Value.int .i64 0)
theorem LQA_lens_Halved (lf d : Nat) (k : KT) : ∀ fu : Nat, LA_lens_Halved lf d (evC lf d) k fu = lpA_lens_Halved lf d fu k
  | 0 => by funext x0 x2 x3 x9 x10 x11; kernel_rfl
  | fu + 1 => by
    have ih := LQA_lens_Halved lf d k fu
    funext x0 x2 x3 x9 x10 x11; simp only [LA_lens_Halved, ih, clash3_eq, evIA3_eq (P := PP) Tryz.underlying22 gs3, evLoad3_eq (P := PP) ga3, evStore3_eq (P := PP) gs3, insB_eq, q_add_eq (P := PP) nf3, q_lss_eq (P := PP) nf3, q_quo_eq (P := PP) nf3]; kernel_rfl
set_option maxRecDepth 20000 in
theorem KQA_lens_Halved (lf d : Nat) : KA_lens_Halved lf d (evC lf d) (kcA_lens_Halved lf d) = kcA_lens_Halved lf d := by
  unfold KA_lens_Halved
  refine Eq.trans (kEx_eq ?_) ?_
  · exact (runCur_eq _ _ _ (by intro y0 y2 y3 y9 y10 y11 y12; show _ = _; (try simp only [clash3_eq, insB_eq]); kernel_rfl))
  rfl
theorem fsh_lens_Halved (lf d : Nat) (a0 : Value) : inside (F_lens_Halved lf d (evC lf d) a0) = evC lf (d + 1) 211 #[a0] := by
  unfold F_lens_Halved; (try simp only [KQA_lens_Halved lf d, LQA_lens_Halved, clash3_eq, evMake3_eq, insB_eq]); kernel_rfl

noncomputable def F_lens_between_1 (lf d : Nat) (rec : RT) (a0 a1 a2 : Value) : M Value :=
 insB (evLoad3 PP 3 a1) fun v6n1 =>
 optK (q_lss PP 3 a0 v6n1) fun v7n2 =>
 ifV v7n2 (
 outK [(Value.bool true)]) (
 insB (evLoad3 PP 3 a2) fun v10n3 =>
 optK (q_gtr PP 3 a0 v10n3) fun v11n4 =>
 outK [v11n4])
theorem fsh_lens_between_1 (lf d : Nat) (a0 a1 a2 : Value) : inside (F_lens_between_1 lf d (evC lf d) a0 a1 a2) = evC lf (d + 1) 212 #[a0, a1, a2] := by
  unfold F_lens_between_1; (try simp only [clash3_eq, evLoad3_eq (P := PP) ga3, insB_eq, q_gtr_eq (P := PP) nf3, q_lss_eq (P := PP) nf3]); kernel_rfl

noncomputable def F_freq_all_1 (lf d : Nat) (rec : RT) (a0 : Value) : M Value :=
 (inside (rec 214 #[a0])).bind fun v4n1 =>
 optK (un3 PP .not v4n1) fun v5n2 =>
 outK [v5n2]
theorem fsh_freq_all_1 (lf d : Nat) (a0 : Value) : inside (F_freq_all_1 lf d (evC lf d) a0) = evC lf (d + 1) 213 #[a0] := by
  unfold F_freq_all_1; (try simp only [clash3_eq, insB_eq, un3_eq]); kernel_rfl

noncomputable def F_freq_may (lf d : Nat) (rec : RT) (a0 : Value) : M Value :=
 optK (q_geq PP 3 a0 (Value.int .i64 0)) fun v4n1 =>
 ifV v4n1 (
 optK (q_leq PP 3 a0 (Value.int .i64 1099511627776)) fun v7n2 =>
 outK [v7n2]) (
 outK [(Value.bool false)])
theorem fsh_freq_may (lf d : Nat) (a0 : Value) : inside (F_freq_may lf d (evC lf d) a0) = evC lf (d + 1) 214 #[a0] := by
  unfold F_freq_may; (try simp only [clash3_eq, insB_eq, q_geq_eq (P := PP) nf3, q_leq_eq (P := PP) nf3]); kernel_rfl

noncomputable def F_sorter_Sorter_join (lf d : Nat) (rec : RT) (a0 : Value) : M Value :=
 optK (nil2 a0) fun v4n1 =>
 optK (evFA3 PP 214 5 v4n1 5) fun v5n2 =>
 insB (evLoad3 PP 210 v5n2) fun v6n3 =>
 optK (len2 PP #[210] [v6n3]) fun v7n4 =>
 optK (q_sub PP 3 v7n4 (Value.int .i64 1)) fun v8n5 =>
 optK (q_lss PP 3 v8n5 (Value.int .i64 0)) fun v10n6 =>
 ifV v10n6 (
 outK []) (
 optK (nil2 a0) fun v13n7 =>
 optK (evFA3 PP 214 6 v13n7 6) fun v14n8 =>
 optK (evFA3 PP 212 2 v14n8 2) fun v15n9 =>
 insB (evLoad3 PP 3 v15n9) fun v16n10 =>
 optK (q_gtr PP 3 v16n10 (Value.int .i64 0)) fun v17n11 =>
 ifV v17n11 (
 outK []) (
 optK (nil2 a0) fun v21n12 =>
 optK (evFA3 PP 214 5 v21n12 5) fun v22n13 =>
 insB (evLoad3 PP 210 v22n13) fun v23n14 =>
 optK (evIA3 PP 210 3 v23n14 v8n5) fun v25n15 =>
 optK (evFA3 PP 212 1 v25n15 1) fun v26n16 =>
 insB (evLoad3 PP 3 v26n16) fun v27n17 =>
 optK (q_eql PP 3 v27n17 (Value.int .i64 0)) fun v28n18 =>
 ifV v28n18 (
 outK []) (
 optK (nil2 a0) fun v32n19 =>
 optK (evFA3 PP 214 5 v32n19 5) fun v33n20 =>
 insB (evLoad3 PP 210 v33n20) fun v34n21 =>
 optK (evIA3 PP 210 3 v34n21 v8n5) fun v36n22 =>
 insB (evLoadA3 PP 212 3 v36n22) fun v37n23 =>
 optK (nil2 a0) fun v38n24 =>
 optK (evFA3 PP 214 6 v38n24 6) fun v39n25 =>
 insB (evStoreA3 PP 212 3 v39n25 v37n23) fun u26 =>
 optK (nil2 a0) fun v42n27 =>
 optK (evFA3 PP 214 5 v42n27 5) fun v43n28 =>
 insB (evLoad3 PP 210 v43n28) fun v44n29 =>
 slice2 PP 210 v44n29 none (some v8n5) none fun v46n30 =>
 optK (nil2 a0) fun v47n31 =>
 optK (evFA3 PP 214 5 v47n31 5) fun v48n32 =>
 insB (evStore3 PP 210 v48n32 v46n30) fun u33 =>
 optK (nil2 a0) fun v50n34 =>
 optK (evFA3 PP 214 9 v50n34 7) fun v51n35 =>
 insB (evStore3 PP 3 v51n35 (Value.int .i64 0)) fun u36 =>
 optK (nil2 a0) fun v53n37 =>
 optK (evFA3 PP 214 10 v53n37 8) fun v54n38 =>
 insB (evStore3 PP 3 v54n38 (Value.int .i64 0)) fun u39 =>
 optK (nil2 a0) fun v57n40 =>
 optK (evFA3 PP 214 6 v57n40 6) fun v58n41 =>
 optK (evFA3 PP 212 1 v58n41 1) fun v59n42 =>
 insB (evLoad3 PP 3 v59n42) fun v60n43 =>
 optK (nil2 a0) fun v61n44 =>
 optK (evFA3 PP 214 11 v61n44 9) fun v62n45 =>
 insB (evStore3 PP 3 v62n45 v60n43) fun u46 =>
 outK [])))
theorem fsh_sorter_Sorter_join (lf d : Nat) (a0 : Value) : inside (F_sorter_Sorter_join lf d (evC lf d) a0) = evC lf (d + 1) 215 #[a0] := by
  unfold F_sorter_Sorter_join; (try simp only [clash3_eq, evFA3_eq (P := PP) gf212f1, evFA3_eq (P := PP) gf212f2, evFA3_eq (P := PP) gf214f5, evFA3_eq (P := PP) gf214f6, evFA3_eq (P := PP) gf214f7, evFA3_eq (P := PP) gf214f8, evFA3_eq (P := PP) gf214f9, evIA3_eq (P := PP) Tryz.underlying210 gs212, evLoad3_eq (P := PP) ga210, evLoad3_eq (P := PP) ga3, evLoadA3_eq (P := PP) ga212 gs212, evStore3_eq (P := PP) gs210, evStore3_eq (P := PP) gs3, evStoreA3_eq (P := PP) gs212, insB_eq, q_eql_eq (P := PP) nf3, q_gtr_eq (P := PP) nf3, q_lss_eq (P := PP) nf3, q_sub_eq (P := PP) nf3]); kernel_rfl

noncomputable def F_sorter_Sorter_lay (lf d : Nat) (rec : RT) (a0 : Value) : M Value :=
 optK (nil2 a0) fun v3n1 =>
 optK (evFA3 PP 214 3 v3n1 3) fun v4n2 =>
 insB (evLoad3 PP 22 v4n2) fun v5n3 =>
 optK (nil2 a0) fun v7n4 =>
 optK (evFA3 PP 214 9 v7n4 7) fun v8n5 =>
 insB (evLoad3 PP 3 v8n5) fun v9n6 =>
 optK (nil2 a0) fun v11n7 =>
 optK (evFA3 PP 214 1 v11n7 1) fun v12n8 =>
 insB (evLoad3 PP 22 v12n8) fun v13n9 =>
 optK (nil2 a0) fun v15n10 =>
 optK (evFA3 PP 214 6 v15n10 6) fun v16n11 =>
 optK (evFA3 PP 212 0 v16n11 0) fun v17n12 =>
 insB (evLoad3 PP 3 v17n12) fun v18n13 =>
 optK (nil2 a0) fun v20n14 =>
 optK (evFA3 PP 214 9 v20n14 7) fun v21n15 =>
 insB (evLoad3 PP 3 v21n15) fun v22n16 =>
 optK (q_add PP 3 v18n13 v22n16) fun v23n17 =>
 optK (evIA3 PP 22 1 v13n9 v23n17) fun v24n18 =>
 insB (evLoad3 PP 3 v24n18) fun v25n19 =>
 optK (evIA3 PP 22 1 v5n3 v9n6) fun v26n20 =>
 insB (evStore3 PP 3 v26n20 v25n19) fun u21 =>
 optK (nil2 a0) fun v28n22 =>
 optK (evFA3 PP 214 9 v28n22 7) fun v29n23 =>
 insB (evLoad3 PP 3 v29n23) fun v30n24 =>
 optK (q_add PP 3 v30n24 (Value.int .i64 1)) fun v31n25 =>
 optK (nil2 a0) fun v32n26 =>
 optK (evFA3 PP 214 9 v32n26 7) fun v33n27 =>
 insB (evStore3 PP 3 v33n27 v31n25) fun u28 =>
 outK []
theorem fsh_sorter_Sorter_lay (lf d : Nat) (a0 : Value) : inside (F_sorter_Sorter_lay lf d (evC lf d) a0) = evC lf (d + 1) 216 #[a0] := by
  unfold F_sorter_Sorter_lay; (try simp only [clash3_eq, evFA3_eq (P := PP) gf212f0, evFA3_eq (P := PP) gf214f1, evFA3_eq (P := PP) gf214f3, evFA3_eq (P := PP) gf214f6, evFA3_eq (P := PP) gf214f7, evIA3_eq (P := PP) Tryz.underlying22 gs3, evLoad3_eq (P := PP) ga22, evLoad3_eq (P := PP) ga3, evStore3_eq (P := PP) gs3, insB_eq, q_add_eq (P := PP) nf3]); kernel_rfl

noncomputable def F_sorter_Sorter_put (lf d : Nat) (rec : RT) (a0 : Value) : M Value :=
 optK (nil2 a0) fun v5n1 =>
 optK (evFA3 PP 214 6 v5n1 6) fun v6n2 =>
 insB (evLoadA3 PP 212 3 v6n2) fun v7n3 =>
 insB (evAllocZ 212 [Value.int .i64 0, Value.int .i64 0, Value.int .i64 0]) fun v2n4 =>
 insB (evStoreA3 PP 212 3 v2n4 v7n3) fun u5 =>
 optK (evFA3 PP 212 0 v2n4 0) fun v8n6 =>
 insB (evLoad3 PP 3 v8n6) fun v9n7 =>
 optK (nil2 a0) fun v11n8 =>
 optK (evFA3 PP 214 10 v11n8 8) fun v12n9 =>
 insB (evLoad3 PP 3 v12n9) fun v13n10 =>
 optK (q_add PP 3 v9n7 v13n10) fun v14n11 =>
 optK (nil2 a0) fun v16n12 =>
 optK (evFA3 PP 214 11 v16n12 9) fun v17n13 =>
 insB (evLoad3 PP 3 v17n13) fun v18n14 =>
 optK (q_add PP 3 v14n11 v18n14) fun v19n15 =>
 optK (evFA3 PP 212 1 v2n4 1) fun v20n16 =>
 insB (evLoad3 PP 3 v20n16) fun v21n17 =>
 optK (q_sub PP 3 v19n15 v21n17) fun v22n18 =>
 optK (nil2 a0) fun v24n19 =>
 optK (evFA3 PP 214 11 v24n19 9) fun v25n20 =>
 insB (evLoad3 PP 3 v25n20) fun v26n21 =>
 optK (evFA3 PP 212 2 v2n4 2) fun v27n22 =>
 insB (evLoad3 PP 3 v27n22) fun v28n23 =>
 optK (q_eql PP 3 v26n21 v28n23) fun v29n24 =>
 ifV v29n24 (
 optK (nil2 a0) fun v67n25 =>
 optK (evFA3 PP 214 1 v67n25 1) fun v68n26 =>
 insB (evLoad3 PP 22 v68n26) fun v69n27 =>
 optK (nil2 a0) fun v72n28 =>
 optK (evFA3 PP 214 3 v72n28 3) fun v73n29 =>
 insB (evLoad3 PP 22 v73n29) fun v74n30 =>
 optK (nil2 a0) fun v76n31 =>
 optK (evFA3 PP 214 10 v76n31 8) fun v77n32 =>
 insB (evLoad3 PP 3 v77n32) fun v78n33 =>
 optK (evIA3 PP 22 1 v74n30 v78n33) fun v79n34 =>
 insB (evLoad3 PP 3 v79n34) fun v80n35 =>
 optK (evIA3 PP 22 1 v69n27 v22n18) fun v81n36 =>
 insB (evStore3 PP 3 v81n36 v80n35) fun u37 =>
 optK (nil2 a0) fun v83n38 =>
 optK (evFA3 PP 214 10 v83n38 8) fun v84n39 =>
 insB (evLoad3 PP 3 v84n39) fun v85n40 =>
 optK (q_add PP 3 v85n40 (Value.int .i64 1)) fun v86n41 =>
 optK (nil2 a0) fun v87n42 =>
 optK (evFA3 PP 214 10 v87n42 8) fun v88n43 =>
 insB (evStore3 PP 3 v88n43 v86n41) fun u44 =>
 optK (evFA3 PP 212 2 v2n4 2) fun v113n45 =>
 insB (evLoad3 PP 3 v113n45) fun v114n46 =>
 optK (q_sub PP 3 v114n46 (Value.int .i64 1)) fun v115n47 =>
 optK (q_eql PP 3 v22n18 v115n47) fun v116n48 =>
 ifV v116n48 (
 insB (evBuildZ PP 212 [Value.int .i64 0, Value.int .i64 0, Value.int .i64 0] []) fun v118n49 =>
 optK (nil2 a0) fun v119n50 =>
 optK (evFA3 PP 214 6 v119n50 6) fun v120n51 =>
 insB (evStoreA3 PP 212 3 v120n51 v118n49) fun u52 =>
 outK []) (
 outK [])) (
 optK (nil2 a0) fun v32n53 =>
 optK (evFA3 PP 214 10 v32n53 8) fun v33n54 =>
 insB (evLoad3 PP 3 v33n54) fun v34n55 =>
 optK (nil2 a0) fun v36n56 =>
 optK (evFA3 PP 214 9 v36n56 7) fun v37n57 =>
 insB (evLoad3 PP 3 v37n57) fun v38n58 =>
 optK (q_lss PP 3 v34n55 v38n58) fun v39n59 =>
 ifV v39n59 (
 optK (nil2 a0) fun v43n60 =>
 optK (evFA3 PP 214 3 v43n60 3) fun v44n61 =>
 insB (evLoad3 PP 22 v44n61) fun v45n62 =>
 optK (nil2 a0) fun v47n63 =>
 optK (evFA3 PP 214 10 v47n63 8) fun v48n64 =>
 insB (evLoad3 PP 3 v48n64) fun v49n65 =>
 optK (evIA3 PP 22 1 v45n62 v49n65) fun v50n66 =>
 insB (evLoad3 PP 3 v50n66) fun v51n67 =>
 optK (nil2 a0) fun v53n68 =>
 optK (evFA3 PP 214 1 v53n68 1) fun v54n69 =>
 insB (evLoad3 PP 22 v54n69) fun v55n70 =>
 optK (nil2 a0) fun v57n71 =>
 optK (evFA3 PP 214 11 v57n71 9) fun v58n72 =>
 insB (evLoad3 PP 3 v58n72) fun v59n73 =>
 optK (evIA3 PP 22 1 v55n70 v59n73) fun v60n74 =>
 insB (evLoad3 PP 3 v60n74) fun v61n75 =>
 (inside (rec 238 #[a0, v51n67, v61n75])).bind fun v62n76 =>
 optK (un3 PP .not v62n76) fun v63n77 =>
 ifV v63n77 (
 optK (nil2 a0) fun v67n78 =>
 optK (evFA3 PP 214 1 v67n78 1) fun v68n79 =>
 insB (evLoad3 PP 22 v68n79) fun v69n80 =>
 optK (nil2 a0) fun v72n81 =>
 optK (evFA3 PP 214 3 v72n81 3) fun v73n82 =>
 insB (evLoad3 PP 22 v73n82) fun v74n83 =>
 optK (nil2 a0) fun v76n84 =>
 optK (evFA3 PP 214 10 v76n84 8) fun v77n85 =>
 insB (evLoad3 PP 3 v77n85) fun v78n86 =>
 optK (evIA3 PP 22 1 v74n83 v78n86) fun v79n87 =>
 insB (evLoad3 PP 3 v79n87) fun v80n88 =>
 optK (evIA3 PP 22 1 v69n80 v22n18) fun v81n89 =>
 insB (evStore3 PP 3 v81n89 v80n88) fun u90 =>
 optK (nil2 a0) fun v83n91 =>
 optK (evFA3 PP 214 10 v83n91 8) fun v84n92 =>
 insB (evLoad3 PP 3 v84n92) fun v85n93 =>
 optK (q_add PP 3 v85n93 (Value.int .i64 1)) fun v86n94 =>
 optK (nil2 a0) fun v87n95 =>
 optK (evFA3 PP 214 10 v87n95 8) fun v88n96 =>
 insB (evStore3 PP 3 v88n96 v86n94) fun u97 =>
 optK (evFA3 PP 212 2 v2n4 2) fun v113n98 =>
 insB (evLoad3 PP 3 v113n98) fun v114n99 =>
 optK (q_sub PP 3 v114n99 (Value.int .i64 1)) fun v115n100 =>
 optK (q_eql PP 3 v22n18 v115n100) fun v116n101 =>
 ifV v116n101 (
 insB (evBuildZ PP 212 [Value.int .i64 0, Value.int .i64 0, Value.int .i64 0] []) fun v118n102 =>
 optK (nil2 a0) fun v119n103 =>
 optK (evFA3 PP 214 6 v119n103 6) fun v120n104 =>
 insB (evStoreA3 PP 212 3 v120n104 v118n102) fun u105 =>
 outK []) (
 outK [])) (
 optK (nil2 a0) fun v90n106 =>
 optK (evFA3 PP 214 1 v90n106 1) fun v91n107 =>
 insB (evLoad3 PP 22 v91n107) fun v92n108 =>
 optK (nil2 a0) fun v95n109 =>
 optK (evFA3 PP 214 1 v95n109 1) fun v96n110 =>
 insB (evLoad3 PP 22 v96n110) fun v97n111 =>
 optK (nil2 a0) fun v99n112 =>
 optK (evFA3 PP 214 11 v99n112 9) fun v100n113 =>
 insB (evLoad3 PP 3 v100n113) fun v101n114 =>
 optK (evIA3 PP 22 1 v97n111 v101n114) fun v102n115 =>
 insB (evLoad3 PP 3 v102n115) fun v103n116 =>
 optK (evIA3 PP 22 1 v92n108 v22n18) fun v104n117 =>
 insB (evStore3 PP 3 v104n117 v103n116) fun u118 =>
 optK (nil2 a0) fun v106n119 =>
 optK (evFA3 PP 214 11 v106n119 9) fun v107n120 =>
 insB (evLoad3 PP 3 v107n120) fun v108n121 =>
 optK (q_add PP 3 v108n121 (Value.int .i64 1)) fun v109n122 =>
 optK (nil2 a0) fun v110n123 =>
 optK (evFA3 PP 214 11 v110n123 9) fun v111n124 =>
 insB (evStore3 PP 3 v111n124 v109n122) fun u125 =>
 optK (evFA3 PP 212 2 v2n4 2) fun v113n126 =>
 insB (evLoad3 PP 3 v113n126) fun v114n127 =>
 optK (q_sub PP 3 v114n127 (Value.int .i64 1)) fun v115n128 =>
 optK (q_eql PP 3 v22n18 v115n128) fun v116n129 =>
 ifV v116n129 (
 insB (evBuildZ PP 212 [Value.int .i64 0, Value.int .i64 0, Value.int .i64 0] []) fun v118n130 =>
 optK (nil2 a0) fun v119n131 =>
 optK (evFA3 PP 214 6 v119n131 6) fun v120n132 =>
 insB (evStoreA3 PP 212 3 v120n132 v118n130) fun u133 =>
 outK []) (
 outK []))) (
 optK (nil2 a0) fun v90n134 =>
 optK (evFA3 PP 214 1 v90n134 1) fun v91n135 =>
 insB (evLoad3 PP 22 v91n135) fun v92n136 =>
 optK (nil2 a0) fun v95n137 =>
 optK (evFA3 PP 214 1 v95n137 1) fun v96n138 =>
 insB (evLoad3 PP 22 v96n138) fun v97n139 =>
 optK (nil2 a0) fun v99n140 =>
 optK (evFA3 PP 214 11 v99n140 9) fun v100n141 =>
 insB (evLoad3 PP 3 v100n141) fun v101n142 =>
 optK (evIA3 PP 22 1 v97n139 v101n142) fun v102n143 =>
 insB (evLoad3 PP 3 v102n143) fun v103n144 =>
 optK (evIA3 PP 22 1 v92n136 v22n18) fun v104n145 =>
 insB (evStore3 PP 3 v104n145 v103n144) fun u146 =>
 optK (nil2 a0) fun v106n147 =>
 optK (evFA3 PP 214 11 v106n147 9) fun v107n148 =>
 insB (evLoad3 PP 3 v107n148) fun v108n149 =>
 optK (q_add PP 3 v108n149 (Value.int .i64 1)) fun v109n150 =>
 optK (nil2 a0) fun v110n151 =>
 optK (evFA3 PP 214 11 v110n151 9) fun v111n152 =>
 insB (evStore3 PP 3 v111n152 v109n150) fun u153 =>
 optK (evFA3 PP 212 2 v2n4 2) fun v113n154 =>
 insB (evLoad3 PP 3 v113n154) fun v114n155 =>
 optK (q_sub PP 3 v114n155 (Value.int .i64 1)) fun v115n156 =>
 optK (q_eql PP 3 v22n18 v115n156) fun v116n157 =>
 ifV v116n157 (
 insB (evBuildZ PP 212 [Value.int .i64 0, Value.int .i64 0, Value.int .i64 0] []) fun v118n158 =>
 optK (nil2 a0) fun v119n159 =>
 optK (evFA3 PP 214 6 v119n159 6) fun v120n160 =>
 insB (evStoreA3 PP 212 3 v120n160 v118n158) fun u161 =>
 outK []) (
 outK [])))
theorem fsh_sorter_Sorter_put (lf d : Nat) (a0 : Value) : inside (F_sorter_Sorter_put lf d (evC lf d) a0) = evC lf (d + 1) 217 #[a0] := by
  unfold F_sorter_Sorter_put; (try simp only [az212, bz212, clash3_eq, evFA3_eq (P := PP) gf212f0, evFA3_eq (P := PP) gf212f1, evFA3_eq (P := PP) gf212f2, evFA3_eq (P := PP) gf214f1, evFA3_eq (P := PP) gf214f3, evFA3_eq (P := PP) gf214f6, evFA3_eq (P := PP) gf214f7, evFA3_eq (P := PP) gf214f8, evFA3_eq (P := PP) gf214f9, evIA3_eq (P := PP) Tryz.underlying22 gs3, evLoad3_eq (P := PP) ga22, evLoad3_eq (P := PP) ga3, evLoadA3_eq (P := PP) ga212 gs212, evStore3_eq (P := PP) gs3, evStoreA3_eq (P := PP) gs212, insB_eq, q_add_eq (P := PP) nf3, q_eql_eq (P := PP) nf3, q_lss_eq (P := PP) nf3, q_sub_eq (P := PP) nf3, un3_eq]); kernel_rfl

noncomputable def F_sorter_Sorter_begin (lf d : Nat) (rec : RT) (a0 : Value) : M Value :=
 optK (nil2 a0) fun v5n1 =>
 optK (evFA3 PP 214 5 v5n1 5) fun v6n2 =>
 insB (evLoad3 PP 210 v6n2) fun v7n3 =>
 optK (nil2 a0) fun v9n4 =>
 optK (evFA3 PP 214 5 v9n4 5) fun v10n5 =>
 insB (evLoad3 PP 210 v10n5) fun v11n6 =>
 optK (len2 PP #[210] [v11n6]) fun v12n7 =>
 optK (q_sub PP 3 v12n7 (Value.int .i64 1)) fun v13n8 =>
 optK (evIA3 PP 210 3 v7n3 v13n8) fun v14n9 =>
 insB (evLoadA3 PP 212 3 v14n9) fun v15n10 =>
 insB (evAllocZ 212 [Value.int .i64 0, Value.int .i64 0, Value.int .i64 0]) fun v2n11 =>
 insB (evStoreA3 PP 212 3 v2n11 v15n10) fun u12 =>
 optK (nil2 a0) fun v18n13 =>
 optK (evFA3 PP 214 5 v18n13 5) fun v19n14 =>
 insB (evLoad3 PP 210 v19n14) fun v20n15 =>
 optK (nil2 a0) fun v22n16 =>
 optK (evFA3 PP 214 5 v22n16 5) fun v23n17 =>
 insB (evLoad3 PP 210 v23n17) fun v24n18 =>
 optK (len2 PP #[210] [v24n18]) fun v25n19 =>
 optK (q_sub PP 3 v25n19 (Value.int .i64 1)) fun v26n20 =>
 slice2 PP 210 v20n15 none (some v26n20) none fun v27n21 =>
 optK (nil2 a0) fun v28n22 =>
 optK (evFA3 PP 214 5 v28n22 5) fun v29n23 =>
 insB (evStore3 PP 210 v29n23 v27n21) fun u24 =>
 optK (evFA3 PP 212 2 v2n11 2) fun v30n25 =>
 insB (evLoad3 PP 3 v30n25) fun v31n26 =>
 optK (evFA3 PP 212 0 v2n11 0) fun v32n27 =>
 insB (evLoad3 PP 3 v32n27) fun v33n28 =>
 optK (q_sub PP 3 v31n26 v33n28) fun v34n29 =>
 optK (q_lss PP 3 v34n29 (Value.int .i64 2)) fun v35n30 =>
 ifV v35n30 (
 outK []) (
 optK (evFA3 PP 212 0 v2n11 0) fun v36n31 =>
 insB (evLoad3 PP 3 v36n31) fun v37n32 =>
 optK (evFA3 PP 212 2 v2n11 2) fun v38n33 =>
 insB (evLoad3 PP 3 v38n33) fun v39n34 =>
 optK (q_add PP 3 v37n32 v39n34) fun v40n35 =>
 optK (q_quo PP 3 v40n35 (Value.int .i64 2)) fun v41n36 =>
 optK (nil2 a0) fun v44n37 =>
 optK (evFA3 PP 214 5 v44n37 5) fun v45n38 =>
 insB (evLoad3 PP 210 v45n38) fun v46n39 =>
 optK (evFA3 PP 212 0 v2n11 0) fun v47n40 =>
 insB (evLoad3 PP 3 v47n40) fun v48n41 =>
 optK (evFA3 PP 212 2 v2n11 2) fun v50n42 =>
 insB (evLoad3 PP 3 v50n42) fun v51n43 =>
 insB (evBuildZ PP 212 [Value.int .i64 0, Value.int .i64 0, Value.int .i64 0] [(0, v48n41), (1, v41n36), (2, v51n43)]) fun v52n44 =>
 optK (evFA3 PP 212 2 v2n11 2) fun v54n45 =>
 insB (evLoad3 PP 3 v54n45) fun v55n46 =>
 insB (evBuildZ PP 212 [Value.int .i64 0, Value.int .i64 0, Value.int .i64 0] [(0, v41n36), (2, v55n46)]) fun v56n47 =>
 optK (evFA3 PP 212 0 v2n11 0) fun v57n48 =>
 insB (evLoad3 PP 3 v57n48) fun v58n49 =>
 insB (evBuildZ PP 212 [Value.int .i64 0, Value.int .i64 0, Value.int .i64 0] [(0, v58n49), (2, v41n36)]) fun v60n50 =>
 insB (evBS3 PP 210 3 [(0, v52n44), (1, v56n47), (2, v60n50)]) fun v61n51 =>
 insB (evAppend3 PP 210 v46n39 v61n51) fun v62n52 =>
 optK (nil2 a0) fun v63n53 =>
 optK (evFA3 PP 214 5 v63n53 5) fun v64n54 =>
 insB (evStore3 PP 210 v64n54 v62n52) fun u55 =>
 outK [])
theorem fsh_sorter_Sorter_begin (lf d : Nat) (a0 : Value) : inside (F_sorter_Sorter_begin lf d (evC lf d) a0) = evC lf (d + 1) 218 #[a0] := by
  unfold F_sorter_Sorter_begin; (try simp only [az212, bz212, clash3_eq, evAppend3_eq, evBS3_eq, evFA3_eq (P := PP) gf212f0, evFA3_eq (P := PP) gf212f2, evFA3_eq (P := PP) gf214f5, evIA3_eq (P := PP) Tryz.underlying210 gs212, evLoad3_eq (P := PP) ga210, evLoad3_eq (P := PP) ga3, evLoadA3_eq (P := PP) ga212 gs212, evStore3_eq (P := PP) gs210, evStoreA3_eq (P := PP) gs212, insB_eq, q_add_eq (P := PP) nf3, q_lss_eq (P := PP) nf3, q_quo_eq (P := PP) nf3, q_sub_eq (P := PP) nf3]); kernel_rfl

noncomputable def F_sorter_Sorter_rank (lf d : Nat) (rec : RT) (a0 : Value) : M Value :=
 optK (nil2 a0) fun v4n1 =>
 optK (evFA3 PP 214 12 v4n1 10) fun v5n2 =>
 insB (evLoad3 PP 3 v5n2) fun v6n3 =>
 optK (q_eql PP 3 v6n3 (Value.int .i64 0)) fun v9n4 =>
 ifV v9n4 (
 optK (nil2 a0) fun v11n5 =>
 optK (evFA3 PP 214 13 v11n5 11) fun v12n6 =>
 insB (evStore3 PP 3 v12n6 (Value.int .i64 0)) fun u7 =>
 optK (nil2 a0) fun v39n8 =>
 optK (evFA3 PP 214 3 v39n8 3) fun v40n9 =>
 insB (evLoad3 PP 22 v40n9) fun v41n10 =>
 optK (nil2 a0) fun v43n11 =>
 optK (evFA3 PP 214 1 v43n11 1) fun v44n12 =>
 insB (evLoad3 PP 22 v44n12) fun v45n13 =>
 optK (evIA3 PP 22 1 v45n13 v6n3) fun v47n14 =>
 insB (evLoad3 PP 3 v47n14) fun v48n15 =>
 optK (nil2 a0) fun v50n16 =>
 optK (evFA3 PP 214 13 v50n16 11) fun v51n17 =>
 insB (evLoad3 PP 3 v51n17) fun v52n18 =>
 optK (evIA3 PP 22 1 v41n10 v48n15) fun v53n19 =>
 insB (evStore3 PP 3 v53n19 v52n18) fun u20 =>
 optK (nil2 a0) fun v55n21 =>
 optK (evFA3 PP 214 12 v55n21 10) fun v56n22 =>
 insB (evLoad3 PP 3 v56n22) fun v57n23 =>
 optK (q_add PP 3 v57n23 (Value.int .i64 1)) fun v58n24 =>
 optK (nil2 a0) fun v59n25 =>
 optK (evFA3 PP 214 12 v59n25 10) fun v60n26 =>
 insB (evStore3 PP 3 v60n26 v58n24) fun u27 =>
 optK (nil2 a0) fun v62n28 =>
 optK (evFA3 PP 214 12 v62n28 10) fun v63n29 =>
 insB (evLoad3 PP 3 v63n29) fun v64n30 =>
 optK (nil2 a0) fun v66n31 =>
 optK (evFA3 PP 214 1 v66n31 1) fun v67n32 =>
 insB (evLoad3 PP 22 v67n32) fun v68n33 =>
 optK (len2 PP #[22] [v68n33]) fun v69n34 =>
 optK (q_eql PP 3 v64n30 v69n34) fun v70n35 =>
 ifV v70n35 (
 (inside (rec 239 #[a0])).bind fun v72n36 =>
 outK []) (
 outK [])) (
 optK (nil2 a0) fun v16n37 =>
 optK (evFA3 PP 214 1 v16n37 1) fun v17n38 =>
 insB (evLoad3 PP 22 v17n38) fun v18n39 =>
 optK (evIA3 PP 22 1 v18n39 v6n3) fun v20n40 =>
 insB (evLoad3 PP 3 v20n40) fun v21n41 =>
 optK (nil2 a0) fun v23n42 =>
 optK (evFA3 PP 214 1 v23n42 1) fun v24n43 =>
 insB (evLoad3 PP 22 v24n43) fun v25n44 =>
 optK (q_sub PP 3 v6n3 (Value.int .i64 1)) fun v27n45 =>
 optK (evIA3 PP 22 1 v25n44 v27n45) fun v28n46 =>
 insB (evLoad3 PP 3 v28n46) fun v29n47 =>
 (inside (rec 238 #[a0, v21n41, v29n47])).bind fun v30n48 =>
 ifV v30n48 (
 optK (nil2 a0) fun v32n49 =>
 optK (evFA3 PP 214 13 v32n49 11) fun v33n50 =>
 insB (evLoad3 PP 3 v33n50) fun v34n51 =>
 optK (q_add PP 3 v34n51 (Value.int .i64 1)) fun v35n52 =>
 optK (nil2 a0) fun v36n53 =>
 optK (evFA3 PP 214 13 v36n53 11) fun v37n54 =>
 insB (evStore3 PP 3 v37n54 v35n52) fun u55 =>
 optK (nil2 a0) fun v39n56 =>
 optK (evFA3 PP 214 3 v39n56 3) fun v40n57 =>
 insB (evLoad3 PP 22 v40n57) fun v41n58 =>
 optK (nil2 a0) fun v43n59 =>
 optK (evFA3 PP 214 1 v43n59 1) fun v44n60 =>
 insB (evLoad3 PP 22 v44n60) fun v45n61 =>
 optK (evIA3 PP 22 1 v45n61 v6n3) fun v47n62 =>
 insB (evLoad3 PP 3 v47n62) fun v48n63 =>
 optK (nil2 a0) fun v50n64 =>
 optK (evFA3 PP 214 13 v50n64 11) fun v51n65 =>
 insB (evLoad3 PP 3 v51n65) fun v52n66 =>
 optK (evIA3 PP 22 1 v41n58 v48n63) fun v53n67 =>
 insB (evStore3 PP 3 v53n67 v52n66) fun u68 =>
 optK (nil2 a0) fun v55n69 =>
 optK (evFA3 PP 214 12 v55n69 10) fun v56n70 =>
 insB (evLoad3 PP 3 v56n70) fun v57n71 =>
 optK (q_add PP 3 v57n71 (Value.int .i64 1)) fun v58n72 =>
 optK (nil2 a0) fun v59n73 =>
 optK (evFA3 PP 214 12 v59n73 10) fun v60n74 =>
 insB (evStore3 PP 3 v60n74 v58n72) fun u75 =>
 optK (nil2 a0) fun v62n76 =>
 optK (evFA3 PP 214 12 v62n76 10) fun v63n77 =>
 insB (evLoad3 PP 3 v63n77) fun v64n78 =>
 optK (nil2 a0) fun v66n79 =>
 optK (evFA3 PP 214 1 v66n79 1) fun v67n80 =>
 insB (evLoad3 PP 22 v67n80) fun v68n81 =>
 optK (len2 PP #[22] [v68n81]) fun v69n82 =>
 optK (q_eql PP 3 v64n78 v69n82) fun v70n83 =>
 ifV v70n83 (
 (inside (rec 239 #[a0])).bind fun v72n84 =>
 outK []) (
 outK [])) (
 optK (nil2 a0) fun v39n85 =>
 optK (evFA3 PP 214 3 v39n85 3) fun v40n86 =>
 insB (evLoad3 PP 22 v40n86) fun v41n87 =>
 optK (nil2 a0) fun v43n88 =>
 optK (evFA3 PP 214 1 v43n88 1) fun v44n89 =>
 insB (evLoad3 PP 22 v44n89) fun v45n90 =>
 optK (evIA3 PP 22 1 v45n90 v6n3) fun v47n91 =>
 insB (evLoad3 PP 3 v47n91) fun v48n92 =>
 optK (nil2 a0) fun v50n93 =>
 optK (evFA3 PP 214 13 v50n93 11) fun v51n94 =>
 insB (evLoad3 PP 3 v51n94) fun v52n95 =>
 optK (evIA3 PP 22 1 v41n87 v48n92) fun v53n96 =>
 insB (evStore3 PP 3 v53n96 v52n95) fun u97 =>
 optK (nil2 a0) fun v55n98 =>
 optK (evFA3 PP 214 12 v55n98 10) fun v56n99 =>
 insB (evLoad3 PP 3 v56n99) fun v57n100 =>
 optK (q_add PP 3 v57n100 (Value.int .i64 1)) fun v58n101 =>
 optK (nil2 a0) fun v59n102 =>
 optK (evFA3 PP 214 12 v59n102 10) fun v60n103 =>
 insB (evStore3 PP 3 v60n103 v58n101) fun u104 =>
 optK (nil2 a0) fun v62n105 =>
 optK (evFA3 PP 214 12 v62n105 10) fun v63n106 =>
 insB (evLoad3 PP 3 v63n106) fun v64n107 =>
 optK (nil2 a0) fun v66n108 =>
 optK (evFA3 PP 214 1 v66n108 1) fun v67n109 =>
 insB (evLoad3 PP 22 v67n109) fun v68n110 =>
 optK (len2 PP #[22] [v68n110]) fun v69n111 =>
 optK (q_eql PP 3 v64n107 v69n111) fun v70n112 =>
 ifV v70n112 (
 (inside (rec 239 #[a0])).bind fun v72n113 =>
 outK []) (
 outK [])))
theorem fsh_sorter_Sorter_rank (lf d : Nat) (a0 : Value) : inside (F_sorter_Sorter_rank lf d (evC lf d) a0) = evC lf (d + 1) 219 #[a0] := by
  unfold F_sorter_Sorter_rank; (try simp only [clash3_eq, evFA3_eq (P := PP) gf214f1, evFA3_eq (P := PP) gf214f10, evFA3_eq (P := PP) gf214f11, evFA3_eq (P := PP) gf214f3, evIA3_eq (P := PP) Tryz.underlying22 gs3, evLoad3_eq (P := PP) ga22, evLoad3_eq (P := PP) ga3, evStore3_eq (P := PP) gs3, insB_eq, q_add_eq (P := PP) nf3, q_eql_eq (P := PP) nf3, q_sub_eq (P := PP) nf3]); kernel_rfl

noncomputable def F_balerref15_Rotation (lf d : Nat) (rec : RT) (a0 a1 : Value) : M Value :=
 slice3 PP 9 a0 (some a1) none none fun v7n1 =>
 slice3 PP 9 a0 none (some a1) none fun v10n2 =>
 optK (qS_add PP 9 v7n1 v10n2) fun v11n3 =>
 outK [v11n3]
theorem fsh_balerref15_Rotation (lf d : Nat) (a0 a1 : Value) : inside (F_balerref15_Rotation lf d (evC lf d) a0 a1) = evC lf (d + 1) 221 #[a0, a1] := by
  unfold F_balerref15_Rotation; (try simp only [clash3_eq, insB_eq, qS_add_eq (P := PP) nf9, slice3_eq (P := PP) Tryz.underlying9]); kernel_rfl

noncomputable def F_balerref15_Ahead (lf d : Nat) (rec : RT) (a0 a1 a2 : Value) : M Value :=
 (inside (rec 221 #[a0, a1])).bind fun v11n1 =>
 (inside (rec 221 #[a0, a2])).bind fun v14n2 =>
 optK (bin2 PP .lss 9 v11n1 v14n2) fun v17n3 =>
 ifV v17n3 (
 outK [(Value.bool true)]) (
 optK (qS_eql PP 9 v11n1 v14n2) fun v21n4 =>
 ifV v21n4 (
 optK (q_lss PP 3 a1 a2) fun v25n5 =>
 outK [v25n5]) (
 outK [(Value.bool false)]))
theorem fsh_balerref15_Ahead (lf d : Nat) (a0 a1 a2 : Value) : inside (F_balerref15_Ahead lf d (evC lf d) a0 a1 a2) = evC lf (d + 1) 222 #[a0, a1, a2] := by
  unfold F_balerref15_Ahead; (try simp only [clash3_eq, insB_eq, qS_eql_eq (P := PP) nf9, q_lss_eq (P := PP) nf3]); kernel_rfl

noncomputable def lpA_balerref05_There (lf d fu : Nat) (k : KT) (x0 x1 x4 x5 : Value) : M Value := loopK (fun s1 k1 => codeK PP (evC lf d) (gtA 223) lf (codeAt (bodyOf PP 223) [true, false, true, false, false]) s1 k1) [0, 1, 4, 5] fu [(0, x0), (1, x1), (4, x4), (5, x5)] k
noncomputable def kcA_balerref05_There (lf d : Nat) : KT := contAt PP (evC lf d) (gtA 223) lf (bodyOf PP 223) [true, false, true, false] (endK PP (resOf PP 223))
noncomputable def LA_balerref05_There (lf d : Nat) (rec : RT) (k : KT) : Nat → Value → Value → Value → Value → M Value
 | 0, _, _, _, _ => M.fail
 | fu + 1, x0, x1, x4, x5 =>
 optK (len2 PP #[9] [x0]) fun v8n1 =>
 optK (q_lss PP 3 x5 v8n1) fun v9n2 =>
 ifV v9n2 (
 optK (index3 PP 9 x0 x5) fun v14n3 =>
 conv3 PP 5 3 .u8 .i64 v14n3 fun v15n4 =>
 optK (q_eql PP 3 v15n4 x1) fun v17n5 =>
 ifV v17n5 (
 k Ex.ret [(0, x0), (1, x1), (4, (Value.bool true)), (5, x5), (9, v9n2), (17, v17n5)]) (
 optK (q_add PP 3 x5 (Value.int .i64 1)) fun v11n6 =>
 LA_balerref05_There lf d rec k fu x0 x1 x4 v11n6)) (
 k (Ex.exit 0) [(0, x0), (1, x1), (4, x4), (5, x5), (9, v9n2)])
noncomputable def KA_balerref05_There (lf d : Nat) (rec : RT) (dflt : KT) : KT := (kEx 0 (runCur [0, 1, 4, 5, 9] (fun y0 y1 y4 y5 y9 =>
 outK [(Value.bool false)]) (dflt (Ex.exit 0))) (kRt (runCur [0, 1, 4, 5, 9, 17] (fun y0 y1 y4 y5 y9 y17 =>
 outK [y4]) (dflt Ex.ret)) dflt))
noncomputable def F_balerref05_There (lf d : Nat) (rec : RT) (a0 a1 : Value) : M Value :=
 LA_balerref05_There lf d rec (KA_balerref05_There lf d rec (kcA_balerref05_There lf d)) lf a0 a1 (Value.bool false) (Value.int .i64 0)
theorem LQA_balerref05_There (lf d : Nat) (k : KT) : ∀ fu : Nat, LA_balerref05_There lf d (evC lf d) k fu = lpA_balerref05_There lf d fu k
  | 0 => by funext x0 x1 x4 x5; kernel_rfl
  | fu + 1 => by
    have ih := LQA_balerref05_There lf d k fu
    funext x0 x1 x4 x5; simp only [LA_balerref05_There, ih, clash3_eq, conv3_eq cw5x3, index3_eq (P := PP) Tryz.underlying9, insB_eq, q_add_eq (P := PP) nf3, q_eql_eq (P := PP) nf3, q_lss_eq (P := PP) nf3]; kernel_rfl
set_option maxRecDepth 20000 in
theorem KQA_balerref05_There (lf d : Nat) : KA_balerref05_There lf d (evC lf d) (kcA_balerref05_There lf d) = kcA_balerref05_There lf d := by
  unfold KA_balerref05_There
  refine Eq.trans (kEx_eq ?_) ?_
  · exact (runCur_eq _ _ _ (by intro y0 y1 y4 y5 y9; show _ = _; (try simp only [clash3_eq, insB_eq]); kernel_rfl))
  refine Eq.trans (kRt_eq ?_) ?_
  · exact (runCur_eq _ _ _ (by intro y0 y1 y4 y5 y9 y17; show _ = _; (try simp only [clash3_eq, insB_eq]); kernel_rfl))
  rfl
theorem fsh_balerref05_There (lf d : Nat) (a0 a1 : Value) : inside (F_balerref05_There lf d (evC lf d) a0 a1) = evC lf (d + 1) 223 #[a0, a1] := by
  unfold F_balerref05_There; (try simp only [KQA_balerref05_There lf d, LQA_balerref05_There, clash3_eq, insB_eq]); kernel_rfl

noncomputable def F_balerref05_Is (lf d : Nat) (rec : RT) (a0 : Value) : M Value :=
 optK (len2 PP #[9] [a0]) fun v4n1 =>
 optK (q_gtr PP 3 v4n1 (Value.int .i64 0)) fun v5n2 =>
 ifV v5n2 (
 (inside (rec 194 #[a0])).bind fun v8n3 =>
 optK (qS_eql PP 9 v8n3 a0) fun v10n4 =>
 outK [v10n4]) (
 outK [(Value.bool false)])
theorem fsh_balerref05_Is (lf d : Nat) (a0 : Value) : inside (F_balerref05_Is lf d (evC lf d) a0) = evC lf (d + 1) 224 #[a0] := by
  unfold F_balerref05_Is; (try simp only [clash3_eq, insB_eq, qS_eql_eq (P := PP) nf9, q_gtr_eq (P := PP) nf3]); kernel_rfl

end Go.Proofs.YthhhkplbjcknkaaGreatDoor.Fa

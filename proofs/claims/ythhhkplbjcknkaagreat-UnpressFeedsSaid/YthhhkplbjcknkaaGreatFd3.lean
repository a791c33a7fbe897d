/- The functions that layers 24's and 25's closed tests reach, as the kernel runs them quickly. -/
import Derived.Test.YthhhkplbjcknkaaGreatFd2
namespace Go.Proofs.YthhhkplbjcknkaaGreat.Fa
set_option linter.unusedVariables false
set_option linter.unusedSimpArgs false
open Go Go.RowKit Ev

/- picks_fresh -/
noncomputable def lpA_picks_fresh (lf d fu : Nat) (k : Ex → Fr → M Value) (x0 : Value) (x1 : Value) (x3 : Value) : M Value := loopK (fun s1 k1 => codeK Tryz.prog (evC lf d) (gtA 210) lf (codeAt (bodyOf Tryz.prog 210) [true, true, false, true, false, false]) s1 k1) [0, 1, 3] fu [(0, x0), (1, x1), (3, x3)] k
noncomputable def kcA_picks_fresh (lf d : Nat) : Ex → Fr → M Value := contAt Tryz.prog (evC lf d) (gtA 210) lf (bodyOf Tryz.prog 210) [true, true, false, true, false] (endK Tryz.prog (resOf Tryz.prog 210))
noncomputable def LA_picks_fresh (lf d : Nat) (rec : FuncId → Array Value → M Value) (k : Ex → Fr → M Value) : Nat → Value → Value → Value → M Value
 | 0, _, _, _ => M.fail
 | fu + 1, x0, x1, x3 =>
 optK (q_lss Tryz.prog 3 x3 (Value.int .i64 6)) fun v4n3 =>
 ifV v4n3 (
 optK (evIAP3 Tryz.prog 168 6 1 x1 x3) fun v8n4 =>
 insB (evStore3 Tryz.prog 3 v8n4 x3) fun u5 =>
 optK (q_add Tryz.prog 3 x3 (Value.int .i64 1)) fun v9n6 =>
 LA_picks_fresh lf d rec k fu x0 x1 v9n6) (
 k (Ex.exit 0) [(0, x0), (1, x1), (3, x3), (4, v4n3)])
noncomputable def KA_picks_fresh (lf d : Nat) (rec : FuncId → Array Value → M Value) (dflt : Ex → Fr → M Value) : Ex → Fr → M Value := (kEx 0 (runCur [0, 1, 3, 4] (fun y0 y1 y3 y4 =>
 insB (evLoadA3 Tryz.prog 168 6 y1) fun v10n7 =>
 insB (evStoreA3 Tryz.prog 168 6 y0 v10n7) fun u8 =>
 (evLoad Tryz.prog 168 y0).bind fun vrn9 =>
 outK [vrn9]) (dflt (Ex.exit 0))) dflt)
noncomputable def F_picks_fresh (lf d : Nat) (rec : FuncId → Array Value → M Value) : M Value :=
 insB (evAllocZ 168 (repV (Value.int .i64 0) 6)) fun v0n1 =>
 insB (evAllocZ 168 (repV (Value.int .i64 0) 6)) fun v1n2 =>
 LA_picks_fresh lf d rec (KA_picks_fresh lf d rec (kcA_picks_fresh lf d)) lf v0n1 v1n2 (Value.int .i64 0)
theorem LQA_picks_fresh (lf d : Nat) (k : Ex → Fr → M Value) : ∀ fu : Nat, LA_picks_fresh lf d (evC lf d) k fu = lpA_picks_fresh lf d fu k
  | 0 => by funext x0 x1 x3; kernel_rfl
  | fu + 1 => by
    have ih := LQA_picks_fresh lf d k fu
    funext x0 x1 x3; simp only [LA_picks_fresh, ih, clash3_eq, evIAP3_eq (P := Tryz.prog) Tryz.underlying168 gs3, evStore3_eq (P := Tryz.prog) gs3, insB_eq, q_add_eq (P := Tryz.prog) nf3, q_lss_eq (P := Tryz.prog) nf3]; kernel_rfl
set_option maxRecDepth 20000 in
theorem KQA_picks_fresh (lf d : Nat) : KA_picks_fresh lf d (evC lf d) (kcA_picks_fresh lf d) = kcA_picks_fresh lf d := by
  unfold KA_picks_fresh
  refine Eq.trans (kEx_eq ?_) ?_
  · exact (runCur_eq _ _ _ (by intro y0 y1 y3 y4; show _ = _; (try simp only [clash3_eq, evLoadA3_eq (P := Tryz.prog) ga168 gs168, evStoreA3_eq (P := Tryz.prog) gs168, insB_eq]); kernel_rfl))
  rfl
theorem fsh_picks_fresh (lf d : Nat) : inside (F_picks_fresh lf d (evC lf d)) = evC lf (d + 1) 210 #[] := by
  unfold F_picks_fresh; (try simp only [KQA_picks_fresh lf d, LQA_picks_fresh, az168, clash3_eq, insB_eq]); kernel_rfl

/- canon_Code_get -/
noncomputable def lpA_canon_Code_get (lf d fu : Nat) (k : Ex → Fr → M Value) (x0 : Value) (x1 : Value) (x4 : Value) (x5 : Value) (x6 : Value) (x7 : Value) : M Value := loopK (fun s1 k1 => codeK Tryz.prog (evC lf d) (gtA 211) lf (codeAt (bodyOf Tryz.prog 211) [true, true, false, true, false, false]) s1 k1) [0, 1, 4, 5, 6, 7] fu [(0, x0), (1, x1), (4, x4), (5, x5), (6, x6), (7, x7)] k
noncomputable def kcA_canon_Code_get (lf d : Nat) : Ex → Fr → M Value := contAt Tryz.prog (evC lf d) (gtA 211) lf (bodyOf Tryz.prog 211) [true, true, false, true, false] (endK Tryz.prog (resOf Tryz.prog 211))
noncomputable def LA_canon_Code_get (lf d : Nat) (rec : FuncId → Array Value → M Value) (k : Ex → Fr → M Value) : Nat → Value → Value → Value → Value → Value → Value → M Value
 | 0, _, _, _, _, _, _ => M.fail
 | fu + 1, x0, x1, x4, x5, x6, x7 =>
 optK (q_leq Tryz.prog 3 x7 (Value.int .i64 20)) fun v12n1 =>
 ifV v12n1 (
 (inside (rec 138 #[x1, (Value.int .i64 1)])).bind fun v17n2 =>
 optK (evExtract v17n2 0) fun v18n3 =>
 optK (evExtract v17n2 1) fun v19n4 =>
 optK (q_neq Tryz.prog 27 v19n4 (Value.int .i64 0)) fun v21n5 =>
 ifV v21n5 (
 k Ex.ret [(0, x0), (1, x1), (4, (Value.int .i64 0)), (5, v19n4), (6, x6), (7, x7), (8, v18n3), (9, v19n4), (12, v12n1), (21, v21n5)]) (
 optK (q_mul Tryz.prog 3 (Value.int .i64 2) x6) fun v24n6 =>
 conv3 Tryz.prog 62 3 .u32 .i64 v18n3 fun v26n7 =>
 optK (q_add Tryz.prog 3 v24n6 v26n7) fun v27n8 =>
 optK (nil2 x0) fun v30n9 =>
 optK (evFA3 Tryz.prog 248 24 v30n9 4) fun v31n10 =>
 optK (evIAP3 Tryz.prog 246 22 1 v31n10 x7) fun v32n11 =>
 insB (evLoad3 Tryz.prog 3 v32n11) fun v33n12 =>
 optK (q_add Tryz.prog 3 v33n12 v27n8) fun v35n13 =>
 optK (nil2 x0) fun v38n14 =>
 optK (evFA3 Tryz.prog 248 3 v38n14 3) fun v39n15 =>
 optK (evIAP3 Tryz.prog 245 21 1 v39n15 x7) fun v40n16 =>
 insB (evLoad3 Tryz.prog 3 v40n16) fun v41n17 =>
 optK (q_sub Tryz.prog 3 v35n13 v41n17) fun v42n18 =>
 optK (q_add Tryz.prog 3 x7 (Value.int .i64 1)) fun v46n19 =>
 optK (nil2 x0) fun v47n20 =>
 optK (evFA3 Tryz.prog 248 24 v47n20 4) fun v48n21 =>
 optK (evIAP3 Tryz.prog 246 22 1 v48n21 v46n19) fun v49n22 =>
 insB (evLoad3 Tryz.prog 3 v49n22) fun v50n23 =>
 optK (q_lss Tryz.prog 3 v42n18 v50n23) fun v51n24 =>
 ifV v51n24 (
 optK (nil2 x0) fun v53n25 =>
 optK (evFA3 Tryz.prog 248 2 v53n25 2) fun v54n26 =>
 insB (evLoad3 Tryz.prog 91 v54n26) fun v55n27 =>
 optK (evIA3 Tryz.prog 91 1 v55n27 v42n18) fun v57n28 =>
 insB (evLoad3 Tryz.prog 3 v57n28) fun v58n29 =>
 k Ex.ret [(0, x0), (1, x1), (4, v58n29), (5, (Value.int .i64 0)), (6, v27n8), (7, x7), (8, v18n3), (9, v19n4), (10, v42n18), (12, v12n1), (21, v21n5), (51, v51n24)]) (
 optK (q_add Tryz.prog 3 x7 (Value.int .i64 1)) fun v14n30 =>
 LA_canon_Code_get lf d rec k fu x0 x1 x4 x5 v27n8 v14n30))) (
 k (Ex.exit 0) [(0, x0), (1, x1), (4, x4), (5, x5), (6, x6), (7, x7), (12, v12n1)])
noncomputable def KA_canon_Code_get (lf d : Nat) (rec : FuncId → Array Value → M Value) (dflt : Ex → Fr → M Value) : Ex → Fr → M Value := (kEx 0 (runCur [0, 1, 4, 5, 6, 7, 12] (fun y0 y1 y4 y5 y6 y7 y12 =>
 outK [(Value.int .i64 0), (Value.int .i64 22)]) (dflt (Ex.exit 0))) (kRt (runCur [0, 1, 4, 5, 6, 7, 8, 9, 10, 12, 21, 51] (fun y0 y1 y4 y5 y6 y7 y8 y9 y10 y12 y21 y51 =>
 outK [y4, y5]) (runCur [0, 1, 4, 5, 6, 7, 8, 9, 12, 21] (fun y0 y1 y4 y5 y6 y7 y8 y9 y12 y21 =>
 outK [y4, y5]) (dflt Ex.ret))) dflt))
noncomputable def F_canon_Code_get (lf d : Nat) (rec : FuncId → Array Value → M Value) (a0 : Value) (a1 : Value) : M Value :=
 LA_canon_Code_get lf d rec (KA_canon_Code_get lf d rec (kcA_canon_Code_get lf d)) lf a0 a1 (Value.int .i64 0) (Value.int .i64 0) (Value.int .i64 0) (Value.int .i64 1)
theorem LQA_canon_Code_get (lf d : Nat) (k : Ex → Fr → M Value) : ∀ fu : Nat, LA_canon_Code_get lf d (evC lf d) k fu = lpA_canon_Code_get lf d fu k
  | 0 => by funext x0 x1 x4 x5 x6 x7; kernel_rfl
  | fu + 1 => by
    have ih := LQA_canon_Code_get lf d k fu
    funext x0 x1 x4 x5 x6 x7; simp only [LA_canon_Code_get, ih, clash3_eq, conv3_eq cw62x3, evFA3_eq (P := Tryz.prog) gf248f2, evFA3_eq (P := Tryz.prog) gf248f3, evFA3_eq (P := Tryz.prog) gf248f4, evIA3_eq (P := Tryz.prog) Tryz.underlying91 gs3, evIAP3_eq (P := Tryz.prog) Tryz.underlying245 gs3, evIAP3_eq (P := Tryz.prog) Tryz.underlying246 gs3, evLoad3_eq (P := Tryz.prog) ga3, evLoad3_eq (P := Tryz.prog) ga91, insB_eq, q_add_eq (P := Tryz.prog) nf3, q_leq_eq (P := Tryz.prog) nf3, q_lss_eq (P := Tryz.prog) nf3, q_mul_eq (P := Tryz.prog) nf3, q_neq_eq (P := Tryz.prog) nf27, q_sub_eq (P := Tryz.prog) nf3]; kernel_rfl
set_option maxRecDepth 20000 in
theorem KQA_canon_Code_get (lf d : Nat) : KA_canon_Code_get lf d (evC lf d) (kcA_canon_Code_get lf d) = kcA_canon_Code_get lf d := by
  unfold KA_canon_Code_get
  refine Eq.trans (kEx_eq ?_) ?_
  · exact (runCur_eq _ _ _ (by intro y0 y1 y4 y5 y6 y7 y12; show _ = _; (try simp only [clash3_eq, insB_eq]); kernel_rfl))
  refine Eq.trans (kRt_eq ?_) ?_
  · refine Eq.trans (runCur_eq _ _ _ (by intro y0 y1 y4 y5 y6 y7 y8 y9 y10 y12 y21 y51; show _ = _; (try simp only [clash3_eq, insB_eq]); kernel_rfl)) ?_
    exact (runCur_eq _ _ _ (by intro y0 y1 y4 y5 y6 y7 y8 y9 y12 y21; show _ = _; (try simp only [clash3_eq, insB_eq]); kernel_rfl))
  rfl
theorem fsh_canon_Code_get (lf d : Nat) (a0 : Value) (a1 : Value) : inside (F_canon_Code_get lf d (evC lf d) a0 a1) = evC lf (d + 1) 211 #[a0, a1] := by
  unfold F_canon_Code_get; (try simp only [KQA_canon_Code_get lf d, LQA_canon_Code_get, clash3_eq, insB_eq]); kernel_rfl

/- picks_Reader_pick -/
noncomputable def lpA_picks_Reader_pick (lf d fu : Nat) (k : Ex → Fr → M Value) (x0 : Value) (x1 : Value) (x4 : Value) (x11 : Value) (x12 : Value) : M Value := loopK (fun s1 k1 => codeK Tryz.prog (evC lf d) (gtA 212) lf (codeAt (bodyOf Tryz.prog 212) [true, false, true, false, false]) s1 k1) [0, 1, 4, 11, 12] fu [(0, x0), (1, x1), (4, x4), (11, x11), (12, x12)] k
noncomputable def kcA_picks_Reader_pick (lf d : Nat) : Ex → Fr → M Value := contAt Tryz.prog (evC lf d) (gtA 212) lf (bodyOf Tryz.prog 212) [true, false, true, false] (endK Tryz.prog (resOf Tryz.prog 212))
noncomputable def LA_picks_Reader_pick (lf d : Nat) (rec : FuncId → Array Value → M Value) (k : Ex → Fr → M Value) : Nat → Value → Value → Value → Value → Value → M Value
 | 0, _, _, _, _, _ => M.fail
 | fu + 1, x0, x1, x4, x11, x12 =>
 optK (q_lss Tryz.prog 3 x12 x11) fun v13n4 =>
 ifV v13n4 (
 (inside (rec 138 #[x1, (Value.int .i64 1)])).bind fun v17n5 =>
 optK (evExtract v17n5 0) fun v18n6 =>
 optK (evExtract v17n5 1) fun v19n7 =>
 optK (q_neq Tryz.prog 27 v19n7 (Value.int .i64 0)) fun v21n8 =>
 ifV v21n8 (
 k Ex.ret [(0, x0), (1, x1), (4, v19n7), (5, x12), (6, v18n6), (7, v19n7), (11, x11), (12, x12), (13, v13n4), (21, v21n8)]) (
 optK (q_eql Tryz.prog 62 v18n6 (Value.int .u32 0)) fun v24n9 =>
 ifV v24n9 (
 optK (nil2 x0) fun v27n10 =>
 optK (evFA3 Tryz.prog 170 8 v27n10 3) fun v28n11 =>
 (timed (
 insB (evLoad3 Tryz.prog 91 v28n11) fun v29n13 => M.ret v29n13)).bind fun vtn12 =>
 optK (nil2 x0) fun v31n14 =>
 optK (evFA3 Tryz.prog 170 2 v31n14 2) fun v32n15 =>
 (timed (
 (inside (rec 216 #[v32n15, x12])).bind fun v34n17 => M.ret v34n17)).bind fun vtn16 =>
 (timed (
 insB (evBS3 Tryz.prog 91 1 [(0, vtn16.1)]) fun v35n19 => M.ret v35n19)).bind fun vtn18 =>
 (timed (
 insB (evAppend3 Tryz.prog 91 vtn12.1 vtn18.1) fun v36n21 => M.ret v36n21)).bind fun vtn20 =>
 optK (nil2 x0) fun v37n22 =>
 optK (evFA3 Tryz.prog 170 8 v37n22 3) fun v38n23 =>
 (timed (
 insB (evStore3 Tryz.prog 91 v38n23 vtn20.1) fun u25 => M.ret u25)).bind fun vtn24 =>
 chkT ((!(clash3 vtn12.2 vtn16.2) && true) && true) (
 k Ex.ret [(0, x0), (1, x1), (4, (Value.int .i64 0)), (5, x12), (6, v18n6), (7, v19n7), (11, x11), (12, x12), (13, v13n4), (21, v21n8), (24, v24n9)])) (
 optK (q_add Tryz.prog 3 x12 (Value.int .i64 1)) fun v39n26 =>
 LA_picks_Reader_pick lf d rec k fu x0 x1 x4 x11 v39n26))) (
 k (Ex.exit 0) [(0, x0), (1, x1), (4, x4), (11, x11), (12, x12), (13, v13n4)])
noncomputable def KA_picks_Reader_pick (lf d : Nat) (rec : FuncId → Array Value → M Value) (dflt : Ex → Fr → M Value) : Ex → Fr → M Value := (kEx 0 (runCur [0, 1, 4, 11, 12, 13] (fun y0 y1 y4 y11 y12 y13 =>
 (inside (rec 217 #[y0])).bind fun v41n27 =>
 outK [v41n27]) (dflt (Ex.exit 0))) (kRt (runCur [0, 1, 4, 5, 6, 7, 11, 12, 13, 21, 24] (fun y0 y1 y4 y5 y6 y7 y11 y12 y13 y21 y24 =>
 outK [y4]) (runCur [0, 1, 4, 5, 6, 7, 11, 12, 13, 21] (fun y0 y1 y4 y5 y6 y7 y11 y12 y13 y21 =>
 outK [y4]) (dflt Ex.ret))) dflt))
noncomputable def F_picks_Reader_pick (lf d : Nat) (rec : FuncId → Array Value → M Value) (a0 : Value) (a1 : Value) : M Value :=
 optK (nil2 a0) fun v9n1 =>
 optK (evFA3 Tryz.prog 170 0 v9n1 0) fun v10n2 =>
 insB (evLoad3 Tryz.prog 3 v10n2) fun v11n3 =>
 LA_picks_Reader_pick lf d rec (KA_picks_Reader_pick lf d rec (kcA_picks_Reader_pick lf d)) lf a0 a1 (Value.int .i64 0) v11n3 (Value.int .i64 0)
theorem LQA_picks_Reader_pick (lf d : Nat) (k : Ex → Fr → M Value) : ∀ fu : Nat, LA_picks_Reader_pick lf d (evC lf d) k fu = lpA_picks_Reader_pick lf d fu k
  | 0 => by funext x0 x1 x4 x11 x12; kernel_rfl
  | fu + 1 => by
    have ih := LQA_picks_Reader_pick lf d k fu
    funext x0 x1 x4 x11 x12; simp only [LA_picks_Reader_pick, ih, clash3_eq, evAppend3_eq, evBS3_eq, evFA3_eq (P := Tryz.prog) gf170f2, evFA3_eq (P := Tryz.prog) gf170f3, evLoad3_eq (P := Tryz.prog) ga91, evStore3_eq (P := Tryz.prog) gs91, insB_eq, q_add_eq (P := Tryz.prog) nf3, q_eql_eq (P := Tryz.prog) nf62, q_lss_eq (P := Tryz.prog) nf3, q_neq_eq (P := Tryz.prog) nf27]; kernel_rfl
set_option maxRecDepth 20000 in
theorem KQA_picks_Reader_pick (lf d : Nat) : KA_picks_Reader_pick lf d (evC lf d) (kcA_picks_Reader_pick lf d) = kcA_picks_Reader_pick lf d := by
  unfold KA_picks_Reader_pick
  refine Eq.trans (kEx_eq ?_) ?_
  · exact (runCur_eq _ _ _ (by intro y0 y1 y4 y11 y12 y13; show _ = _; (try simp only [clash3_eq, insB_eq]); kernel_rfl))
  refine Eq.trans (kRt_eq ?_) ?_
  · refine Eq.trans (runCur_eq _ _ _ (by intro y0 y1 y4 y5 y6 y7 y11 y12 y13 y21 y24; show _ = _; (try simp only [clash3_eq, insB_eq]); kernel_rfl)) ?_
    exact (runCur_eq _ _ _ (by intro y0 y1 y4 y5 y6 y7 y11 y12 y13 y21; show _ = _; (try simp only [clash3_eq, insB_eq]); kernel_rfl))
  rfl
theorem fsh_picks_Reader_pick (lf d : Nat) (a0 : Value) (a1 : Value) : inside (F_picks_Reader_pick lf d (evC lf d) a0 a1) = evC lf (d + 1) 212 #[a0, a1] := by
  unfold F_picks_Reader_pick; (try simp only [KQA_picks_Reader_pick lf d, LQA_picks_Reader_pick, clash3_eq, evFA3_eq (P := Tryz.prog) gf170f0, evLoad3_eq (P := Tryz.prog) ga3, insB_eq]); kernel_rfl

/- picks_Reader_head -/
noncomputable def F_picks_Reader_head (lf d : Nat) (rec : FuncId → Array Value → M Value) (a0 : Value) (a1 : Value) : M Value :=
 (inside (rec 138 #[a1, (Value.int .i64 18)])).bind fun v11n1 =>
 optK (evExtract v11n1 0) fun v12n2 =>
 optK (evExtract v11n1 1) fun v13n3 =>
 optK (q_neq Tryz.prog 27 v13n3 (Value.int .i64 0)) fun v15n4 =>
 ifV v15n4 (
 outK [v13n3]) (
 optK (q_shr Tryz.prog 62 v12n2 (Value.int .u64 15)) fun v18n5 =>
 conv3 Tryz.prog 62 3 .u32 .i64 v18n5 fun v19n6 =>
 optK (q_and Tryz.prog 62 v12n2 (Value.int .u32 32767)) fun v21n7 =>
 conv3 Tryz.prog 62 3 .u32 .i64 v21n7 fun v22n8 =>
 (inside (rec 218 #[v19n6])).bind fun v24n9 =>
 optK (un3 Tryz.prog .not v24n9) fun v25n10 =>
 ifV v25n10 (
 (inside (rec 217 #[a0])).bind fun v31n11 =>
 outK [v31n11]) (
 optK (q_eql Tryz.prog 3 v22n8 (Value.int .i64 0)) fun v28n12 =>
 ifV v28n12 (
 (inside (rec 217 #[a0])).bind fun v31n13 =>
 outK [v31n13]) (
 optK (nil2 a0) fun v34n14 =>
 optK (evFA3 Tryz.prog 170 0 v34n14 0) fun v35n15 =>
 insB (evStore3 Tryz.prog 3 v35n15 v19n6) fun u16 =>
 optK (nil2 a0) fun v38n17 =>
 optK (evFA3 Tryz.prog 170 1 v38n17 1) fun v39n18 =>
 insB (evStore3 Tryz.prog 3 v39n18 v22n8) fun u19 =>
 outK [(Value.int .i64 0)])))
theorem fsh_picks_Reader_head (lf d : Nat) (a0 : Value) (a1 : Value) : inside (F_picks_Reader_head lf d (evC lf d) a0 a1) = evC lf (d + 1) 213 #[a0, a1] := by
  unfold F_picks_Reader_head; (try simp only [clash3_eq, conv3_eq cw62x3, evFA3_eq (P := Tryz.prog) gf170f0, evFA3_eq (P := Tryz.prog) gf170f1, evStore3_eq (P := Tryz.prog) gs3, insB_eq, q_and_eq (P := Tryz.prog) nf62, q_eql_eq (P := Tryz.prog) nf3, q_neq_eq (P := Tryz.prog) nf27, q_shr_eq (P := Tryz.prog) nf62, un3_eq]); kernel_rfl

/- delta_Reader_step -/
noncomputable def F_delta_Reader_step (lf d : Nat) (rec : FuncId → Array Value → M Value) (a0 : Value) (a1 : Value) : M Value :=
 optK (nil2 a0) fun v10n1 =>
 optK (evFA3 Tryz.prog 242 1 v10n1 1) fun v11n2 =>
 insB (evLoad3 Tryz.prog 3 v11n2) fun v12n3 =>
 optK (q_eql Tryz.prog 3 v12n3 (Value.int .i64 0)) fun v13n4 =>
 ifV v13n4 (
 (inside (rec 138 #[a1, (Value.int .i64 5)])).bind fun v16n5 =>
 optK (evExtract v16n5 0) fun v17n6 =>
 optK (evExtract v16n5 1) fun v18n7 =>
 optK (q_neq Tryz.prog 27 v18n7 (Value.int .i64 0)) fun v20n8 =>
 ifV v20n8 (
 outK [v18n7]) (
 conv3 Tryz.prog 62 3 .u32 .i64 v17n6 fun v24n9 =>
 (inside (rec 219 #[a0, v24n9])).bind fun v25n10 =>
 outK [v25n10])) (
 (inside (rec 138 #[a1, (Value.int .i64 1)])).bind fun v28n11 =>
 optK (evExtract v28n11 0) fun v29n12 =>
 optK (evExtract v28n11 1) fun v30n13 =>
 optK (q_neq Tryz.prog 27 v30n13 (Value.int .i64 0)) fun v32n14 =>
 ifV v32n14 (
 outK [v30n13]) (
 optK (q_eql Tryz.prog 62 v29n12 (Value.int .u32 0)) fun v35n15 =>
 ifV v35n15 (
 optK (nil2 a0) fun v38n16 =>
 optK (evFA3 Tryz.prog 242 2 v38n16 2) fun v39n17 =>
 insB (evLoad3 Tryz.prog 91 v39n17) fun v40n18 =>
 optK (nil2 a0) fun v42n19 =>
 optK (evFA3 Tryz.prog 242 1 v42n19 1) fun v43n20 =>
 insB (evLoad3 Tryz.prog 3 v43n20) fun v44n21 =>
 insB (evBS3 Tryz.prog 91 1 [(0, v44n21)]) fun v45n22 =>
 insB (evAppend3 Tryz.prog 91 v40n18 v45n22) fun v46n23 =>
 optK (nil2 a0) fun v47n24 =>
 optK (evFA3 Tryz.prog 242 2 v47n24 2) fun v48n25 =>
 insB (evStore3 Tryz.prog 91 v48n25 v46n23) fun u26 =>
 outK [(Value.int .i64 0)]) (
 (inside (rec 138 #[a1, (Value.int .i64 1)])).bind fun v51n27 =>
 optK (evExtract v51n27 0) fun v52n28 =>
 optK (evExtract v51n27 1) fun v53n29 =>
 optK (q_neq Tryz.prog 27 v53n29 (Value.int .i64 0)) fun v55n30 =>
 ifV v55n30 (
 outK [v53n29]) (
 optK (nil2 a0) fun v59n31 =>
 optK (evFA3 Tryz.prog 242 1 v59n31 1) fun v60n32 =>
 insB (evLoad3 Tryz.prog 3 v60n32) fun v61n33 =>
 optK (q_add Tryz.prog 3 v61n33 (Value.int .i64 1)) fun v62n34 =>
 conv3 Tryz.prog 62 3 .u32 .i64 v52n28 fun v64n35 =>
 optK (q_mul Tryz.prog 3 (Value.int .i64 2) v64n35) fun v65n36 =>
 optK (q_sub Tryz.prog 3 v62n34 v65n36) fun v66n37 =>
 (inside (rec 219 #[a0, v66n37])).bind fun v67n38 =>
 outK [v67n38]))))
theorem fsh_delta_Reader_step (lf d : Nat) (a0 : Value) (a1 : Value) : inside (F_delta_Reader_step lf d (evC lf d) a0 a1) = evC lf (d + 1) 214 #[a0, a1] := by
  unfold F_delta_Reader_step; (try simp only [clash3_eq, conv3_eq cw62x3, evAppend3_eq, evBS3_eq, evFA3_eq (P := Tryz.prog) gf242f1, evFA3_eq (P := Tryz.prog) gf242f2, evLoad3_eq (P := Tryz.prog) ga3, evLoad3_eq (P := Tryz.prog) ga91, evStore3_eq (P := Tryz.prog) gs91, insB_eq, q_add_eq (P := Tryz.prog) nf3, q_eql_eq (P := Tryz.prog) nf3, q_eql_eq (P := Tryz.prog) nf62, q_mul_eq (P := Tryz.prog) nf3, q_neq_eq (P := Tryz.prog) nf27, q_sub_eq (P := Tryz.prog) nf3]); kernel_rfl

/- canon_whole -/
noncomputable def F_canon_whole (lf d : Nat) (rec : FuncId → Array Value → M Value) (a0 : Value) : M Value :=
 (inside (rec 220 #[a0])).bind fun v7n1 =>
 optK (evExtract v7n1 0) fun v8n2 =>
 optK (evExtract v7n1 1) fun v9n3 =>
 optK (q_eql Tryz.prog 27 v9n3 (Value.int .i64 0)) fun v11n4 =>
 ifV v11n4 (
 optK (q_eql Tryz.prog 3 v8n2 (Value.int .i64 1048576)) fun v14n5 =>
 ifV v14n5 (
 (inside (rec 221 #[a0, (Value.int .i64 0)])).bind fun v18n6 =>
 optK (un3 Tryz.prog .not v18n6) fun v19n7 =>
 outK [v19n7]) (
 outK [(Value.bool false)])) (
 outK [(Value.bool false)])
theorem fsh_canon_whole (lf d : Nat) (a0 : Value) : inside (F_canon_whole lf d (evC lf d) a0) = evC lf (d + 1) 215 #[a0] := by
  unfold F_canon_whole; (try simp only [clash3_eq, insB_eq, q_eql_eq (P := Tryz.prog) nf27, q_eql_eq (P := Tryz.prog) nf3, un3_eq]); kernel_rfl

/- picks_order_touch -/
noncomputable def lpA_picks_order_touch (lf d fu : Nat) (k : Ex → Fr → M Value) (x0 : Value) (x1 : Value) (x4 : Value) (x5 : Value) (x6 : Value) : M Value := loopK (fun s1 k1 => codeK Tryz.prog (evC lf d) (gtA 216) lf (codeAt (bodyOf Tryz.prog 216) [true, true, false, true, false, false]) s1 k1) [0, 1, 4, 5, 6] fu [(0, x0), (1, x1), (4, x4), (5, x5), (6, x6)] k
noncomputable def kcA_picks_order_touch (lf d : Nat) : Ex → Fr → M Value := contAt Tryz.prog (evC lf d) (gtA 216) lf (bodyOf Tryz.prog 216) [true, true, false, true, false] (endK Tryz.prog (resOf Tryz.prog 216))
noncomputable def LA_picks_order_touch (lf d : Nat) (rec : FuncId → Array Value → M Value) (k : Ex → Fr → M Value) : Nat → Value → Value → Value → Value → Value → M Value
 | 0, _, _, _, _, _ => M.fail
 | fu + 1, x0, x1, x4, x5, x6 =>
 optK (q_gtr Tryz.prog 3 x6 (Value.int .i64 0)) fun v14n4 =>
 ifV v14n4 (
 optK (q_sub Tryz.prog 3 x6 (Value.int .i64 1)) fun v21n5 =>
 optK (nil2 x0) fun v22n6 =>
 optK (evIAP3 Tryz.prog 168 6 1 v22n6 v21n5) fun v23n7 =>
 insB (evLoad3 Tryz.prog 3 v23n7) fun v24n8 =>
 optK (nil2 x0) fun v25n9 =>
 optK (evIAP3 Tryz.prog 168 6 1 v25n9 x6) fun v26n10 =>
 insB (evStore3 Tryz.prog 3 v26n10 v24n8) fun u11 =>
 optK (q_sub Tryz.prog 3 x6 (Value.int .i64 1)) fun v16n12 =>
 LA_picks_order_touch lf d rec k fu x0 x1 x4 x5 v16n12) (
 k (Ex.exit 0) [(0, x0), (1, x1), (4, x4), (5, x5), (6, x6), (14, v14n4)])
noncomputable def KA_picks_order_touch (lf d : Nat) (rec : FuncId → Array Value → M Value) (dflt : Ex → Fr → M Value) : Ex → Fr → M Value := (kEx 0 (runCur [0, 1, 4, 5, 6, 14] (fun y0 y1 y4 y5 y6 y14 =>
 optK (nil2 y0) fun v29n13 =>
 optK (evIAP3 Tryz.prog 168 6 1 v29n13 (Value.int .i64 0)) fun v30n14 =>
 insB (evStore3 Tryz.prog 3 v30n14 y5) fun u15 =>
 outK [y5]) (dflt (Ex.exit 0))) dflt)
noncomputable def F_picks_order_touch (lf d : Nat) (rec : FuncId → Array Value → M Value) (a0 : Value) (a1 : Value) : M Value :=
 optK (nil2 a0) fun v9n1 =>
 optK (evIAP3 Tryz.prog 168 6 1 v9n1 a1) fun v10n2 =>
 insB (evLoad3 Tryz.prog 3 v10n2) fun v11n3 =>
 LA_picks_order_touch lf d rec (KA_picks_order_touch lf d rec (kcA_picks_order_touch lf d)) lf a0 a1 (Value.int .i64 0) v11n3 a1
theorem LQA_picks_order_touch (lf d : Nat) (k : Ex → Fr → M Value) : ∀ fu : Nat, LA_picks_order_touch lf d (evC lf d) k fu = lpA_picks_order_touch lf d fu k
  | 0 => by funext x0 x1 x4 x5 x6; kernel_rfl
  | fu + 1 => by
    have ih := LQA_picks_order_touch lf d k fu
    funext x0 x1 x4 x5 x6; simp only [LA_picks_order_touch, ih, clash3_eq, evIAP3_eq (P := Tryz.prog) Tryz.underlying168 gs3, evLoad3_eq (P := Tryz.prog) ga3, evStore3_eq (P := Tryz.prog) gs3, insB_eq, q_gtr_eq (P := Tryz.prog) nf3, q_sub_eq (P := Tryz.prog) nf3]; kernel_rfl
set_option maxRecDepth 20000 in
theorem KQA_picks_order_touch (lf d : Nat) : KA_picks_order_touch lf d (evC lf d) (kcA_picks_order_touch lf d) = kcA_picks_order_touch lf d := by
  unfold KA_picks_order_touch
  refine Eq.trans (kEx_eq ?_) ?_
  · exact (runCur_eq _ _ _ (by intro y0 y1 y4 y5 y6 y14; show _ = _; (try simp only [clash3_eq, evIAP3_eq (P := Tryz.prog) Tryz.underlying168 gs3, evStore3_eq (P := Tryz.prog) gs3, insB_eq]); kernel_rfl))
  rfl
theorem fsh_picks_order_touch (lf d : Nat) (a0 : Value) (a1 : Value) : inside (F_picks_order_touch lf d (evC lf d) a0 a1) = evC lf (d + 1) 216 #[a0, a1] := by
  unfold F_picks_order_touch; (try simp only [KQA_picks_order_touch lf d, LQA_picks_order_touch, clash3_eq, evIAP3_eq (P := Tryz.prog) Tryz.underlying168 gs3, evLoad3_eq (P := Tryz.prog) ga3, insB_eq]); kernel_rfl

/- picks_Reader_fail -/
noncomputable def F_picks_Reader_fail (lf d : Nat) (rec : FuncId → Array Value → M Value) (a0 : Value) : M Value :=
 optK (nil2 a0) fun v4n1 =>
 optK (evFA3 Tryz.prog 170 9 v4n1 4) fun v5n2 =>
 insB (evStore3 Tryz.prog 4 v5n2 (Value.bool true)) fun u3 =>
 outK [(Value.int .i64 25)]
theorem fsh_picks_Reader_fail (lf d : Nat) (a0 : Value) : inside (F_picks_Reader_fail lf d (evC lf d) a0) = evC lf (d + 1) 217 #[a0] := by
  unfold F_picks_Reader_fail; (try simp only [clash3_eq, evFA3_eq (P := Tryz.prog) gf170f4, evStore3_eq (P := Tryz.prog) gs4, insB_eq]); kernel_rfl

/- picks_tabled -/
noncomputable def F_picks_tabled (lf d : Nat) (rec : FuncId → Array Value → M Value) (a0 : Value) : M Value :=
 optK (q_geq Tryz.prog 3 a0 (Value.int .i64 2)) fun v4n1 =>
 ifV v4n1 (
 optK (q_leq Tryz.prog 3 a0 (Value.int .i64 6)) fun v7n2 =>
 outK [v7n2]) (
 outK [(Value.bool false)])
theorem fsh_picks_tabled (lf d : Nat) (a0 : Value) : inside (F_picks_tabled lf d (evC lf d) a0) = evC lf (d + 1) 218 #[a0] := by
  unfold F_picks_tabled; (try simp only [clash3_eq, insB_eq, q_geq_eq (P := Tryz.prog) nf3, q_leq_eq (P := Tryz.prog) nf3]); kernel_rfl

/- delta_Reader_turned -/
noncomputable def F_delta_Reader_turned (lf d : Nat) (rec : FuncId → Array Value → M Value) (a0 : Value) (a1 : Value) : M Value :=
 (inside (rec 222 #[a1])).bind fun v6n1 =>
 optK (un3 Tryz.prog .not v6n1) fun v7n2 =>
 ifV v7n2 (
 optK (nil2 a0) fun v9n3 =>
 optK (evFA3 Tryz.prog 242 3 v9n3 3) fun v10n4 =>
 insB (evStore3 Tryz.prog 4 v10n4 (Value.bool true)) fun u5 =>
 outK [(Value.int .i64 22)]) (
 optK (nil2 a0) fun v13n6 =>
 optK (evFA3 Tryz.prog 242 1 v13n6 1) fun v14n7 =>
 insB (evStore3 Tryz.prog 3 v14n7 a1) fun u8 =>
 outK [(Value.int .i64 0)])
theorem fsh_delta_Reader_turned (lf d : Nat) (a0 : Value) (a1 : Value) : inside (F_delta_Reader_turned lf d (evC lf d) a0 a1) = evC lf (d + 1) 219 #[a0, a1] := by
  unfold F_delta_Reader_turned; (try simp only [clash3_eq, evFA3_eq (P := Tryz.prog) gf242f1, evFA3_eq (P := Tryz.prog) gf242f3, evStore3_eq (P := Tryz.prog) gs3, evStore3_eq (P := Tryz.prog) gs4, insB_eq, un3_eq]); kernel_rfl

/- lens_Share -/
noncomputable def lpA_lens_Share (lf d fu : Nat) (k : Ex → Fr → M Value) (x0 : Value) (x2 : Value) (x3 : Value) (x4 : Value) (x14 : Value) (x15 : Value) (x16 : Value) (x17 : Value) : M Value := loopK (fun s1 k1 => codeK Tryz.prog (evC lf d) (gtA 220) lf (codeAt (bodyOf Tryz.prog 220) [true, true, true, false, true, false, false]) s1 k1) [0, 2, 3, 4, 14, 15, 16, 17] fu [(0, x0), (2, x2), (3, x3), (4, x4), (14, x14), (15, x15), (16, x16), (17, x17)] k
noncomputable def kcA_lens_Share (lf d : Nat) : Ex → Fr → M Value := contAt Tryz.prog (evC lf d) (gtA 220) lf (bodyOf Tryz.prog 220) [true, true, true, false, true, false] (endK Tryz.prog (resOf Tryz.prog 220))
noncomputable def LA_lens_Share (lf d : Nat) (rec : FuncId → Array Value → M Value) (k : Ex → Fr → M Value) : Nat → Value → Value → Value → Value → Value → Value → Value → Value → M Value
 | 0, _, _, _, _, _, _, _, _ => M.fail
 | fu + 1, x0, x2, x3, x4, x14, x15, x16, x17 =>
 optK (q_lss Tryz.prog 3 x17 x16) fun v18n6 =>
 ifV v18n6 (
 optK (evIA3 Tryz.prog 91 1 x15 x17) fun v19n7 =>
 insB (evLoad3 Tryz.prog 3 v19n7) fun v20n8 =>
 optK (q_sub Tryz.prog 3 (Value.int .i64 20) v20n8) fun v23n9 =>
 optK (q_shl Tryz.prog 3 (Value.int .i64 1) v23n9) fun v24n10 =>
 optK (q_add Tryz.prog 3 x4 v24n10) fun v25n11 =>
 optK (q_add Tryz.prog 3 x17 (Value.int .i64 1)) fun v26n12 =>
 LA_lens_Share lf d rec k fu x0 x2 x3 v25n11 x14 x15 x16 v26n12) (
 k (Ex.exit 0) [(0, x0), (2, x2), (3, x3), (4, x4), (14, x14), (15, x15), (16, x16), (17, x17), (18, v18n6)])
noncomputable def KA_lens_Share (lf d : Nat) (rec : FuncId → Array Value → M Value) (dflt : Ex → Fr → M Value) : Ex → Fr → M Value := (kEx 0 (runCur [0, 2, 3, 4, 14, 15, 16, 17, 18] (fun y0 y2 y3 y4 y14 y15 y16 y17 y18 =>
 outK [y4, (Value.int .i64 0)]) (dflt (Ex.exit 0))) dflt)
noncomputable def F_lens_Share (lf d : Nat) (rec : FuncId → Array Value → M Value) (a0 : Value) : M Value :=
 optK (len2 Tryz.prog #[91] [a0]) fun v8n1 =>
 optK (q_gtr Tryz.prog 3 v8n1 (Value.int .i64 258)) fun v9n2 =>
 ifV v9n2 (
 outK [(Value.int .i64 0), (Value.int .i64 1)]) (
 (inside (rec 223 #[a0, (Value.int .i64 0), (Value.int .i64 20)])).bind fun v12n3 =>
 optK (un3 Tryz.prog .not v12n3) fun v13n4 =>
 ifV v13n4 (
 outK [(Value.int .i64 0), (Value.int .i64 1)]) (
 optK (len2 Tryz.prog #[91] [a0]) fun v16n5 =>
 LA_lens_Share lf d rec (KA_lens_Share lf d rec (kcA_lens_Share lf d)) lf a0 (Value.int .i64 0) (Value.int .i64 0) (Value.int .i64 0) v13n4 a0 v16n5 (Value.int .i64 0)))
theorem LQA_lens_Share (lf d : Nat) (k : Ex → Fr → M Value) : ∀ fu : Nat, LA_lens_Share lf d (evC lf d) k fu = lpA_lens_Share lf d fu k
  | 0 => by funext x0 x2 x3 x4 x14 x15 x16 x17; kernel_rfl
  | fu + 1 => by
    have ih := LQA_lens_Share lf d k fu
    funext x0 x2 x3 x4 x14 x15 x16 x17; simp only [LA_lens_Share, ih, clash3_eq, evIA3_eq (P := Tryz.prog) Tryz.underlying91 gs3, evLoad3_eq (P := Tryz.prog) ga3, insB_eq, q_add_eq (P := Tryz.prog) nf3, q_lss_eq (P := Tryz.prog) nf3, q_shl_eq (P := Tryz.prog) nf3, q_sub_eq (P := Tryz.prog) nf3]; kernel_rfl
set_option maxRecDepth 20000 in
theorem KQA_lens_Share (lf d : Nat) : KA_lens_Share lf d (evC lf d) (kcA_lens_Share lf d) = kcA_lens_Share lf d := by
  unfold KA_lens_Share
  refine Eq.trans (kEx_eq ?_) ?_
  · exact (runCur_eq _ _ _ (by intro y0 y2 y3 y4 y14 y15 y16 y17 y18; show _ = _; (try simp only [clash3_eq, insB_eq]); kernel_rfl))
  rfl
theorem fsh_lens_Share (lf d : Nat) (a0 : Value) : inside (F_lens_Share lf d (evC lf d) a0) = evC lf (d + 1) 220 #[a0] := by
  unfold F_lens_Share; (try simp only [KQA_lens_Share lf d, LQA_lens_Share, clash3_eq, insB_eq, q_gtr_eq (P := Tryz.prog) nf3, un3_eq]); kernel_rfl

/- slices_Contains_int_int -/
noncomputable def F_slices_Contains_int_int (lf d : Nat) (rec : FuncId → Array Value → M Value) (a0 : Value) (a1 : Value) : M Value :=
 (inside (rec 224 #[a0, a1])).bind fun v7n1 =>
 optK (q_geq Tryz.prog 3 v7n1 (Value.int .i64 0)) fun v8n2 =>
 outK [v8n2]
theorem fsh_slices_Contains_int_int (lf d : Nat) (a0 : Value) (a1 : Value) : inside (F_slices_Contains_int_int lf d (evC lf d) a0 a1) = evC lf (d + 1) 221 #[a0, a1] := by
  unfold F_slices_Contains_int_int; (try simp only [clash3_eq, insB_eq, q_geq_eq (P := Tryz.prog) nf3]); kernel_rfl

/- delta_length -/
noncomputable def F_delta_length (lf d : Nat) (rec : FuncId → Array Value → M Value) (a0 : Value) : M Value :=
 optK (q_geq Tryz.prog 3 a0 (Value.int .i64 1)) fun v4n1 =>
 ifV v4n1 (
 optK (q_leq Tryz.prog 3 a0 (Value.int .i64 20)) fun v7n2 =>
 outK [v7n2]) (
 outK [(Value.bool false)])
theorem fsh_delta_length (lf d : Nat) (a0 : Value) : inside (F_delta_length lf d (evC lf d) a0) = evC lf (d + 1) 222 #[a0] := by
  unfold F_delta_length; (try simp only [clash3_eq, insB_eq, q_geq_eq (P := Tryz.prog) nf3, q_leq_eq (P := Tryz.prog) nf3]); kernel_rfl

/- lens_between -/
noncomputable def F_lens_between (lf d : Nat) (rec : FuncId → Array Value → M Value) (a0 : Value) (a1 : Value) (a2 : Value) : M Value :=
 insB (evBox3 Tryz.prog 3 a1) fun v4n1 =>
 insB (evBox3 Tryz.prog 3 a2) fun v5n2 =>
 (inside (rec 225 #[a0, (Value.func (Go.Fn.func 226) #[] #[v4n1, v5n2])])).bind fun v9n3 =>
 optK (un3 Tryz.prog .not v9n3) fun v10n4 =>
 outK [v10n4]
theorem fsh_lens_between (lf d : Nat) (a0 : Value) (a1 : Value) (a2 : Value) : inside (F_lens_between lf d (evC lf d) a0 a1 a2) = evC lf (d + 1) 223 #[a0, a1, a2] := by
  unfold F_lens_between; (try simp only [clash3_eq, evBox3_eq, insB_eq, un3_eq]); kernel_rfl

/- slices_Index_int_int -/
noncomputable def lpA_slices_Index_int_int (lf d fu : Nat) (k : Ex → Fr → M Value) (x0 : Value) (x1 : Value) (x4 : Value) (x7 : Value) (x8 : Value) : M Value := loopK (fun s1 k1 => codeK Tryz.prog (evC lf d) (gtA 224) lf (codeAt (bodyOf Tryz.prog 224) [true, false, true, false, false]) s1 k1) [0, 1, 4, 7, 8] fu [(0, x0), (1, x1), (4, x4), (7, x7), (8, x8)] k
noncomputable def kcA_slices_Index_int_int (lf d : Nat) : Ex → Fr → M Value := contAt Tryz.prog (evC lf d) (gtA 224) lf (bodyOf Tryz.prog 224) [true, false, true, false] (endK Tryz.prog (resOf Tryz.prog 224))
noncomputable def LA_slices_Index_int_int (lf d : Nat) (rec : FuncId → Array Value → M Value) (k : Ex → Fr → M Value) : Nat → Value → Value → Value → Value → Value → M Value
 | 0, _, _, _, _, _ => M.fail
 | fu + 1, x0, x1, x4, x7, x8 =>
 optK (q_lss Tryz.prog 3 x8 x7) fun v9n2 =>
 ifV v9n2 (
 optK (evIA3 Tryz.prog 91 1 x0 x8) fun v14n3 =>
 insB (evLoad3 Tryz.prog 3 v14n3) fun v15n4 =>
 optK (q_eql Tryz.prog 3 x1 v15n4) fun v16n5 =>
 ifV v16n5 (
 k Ex.ret [(0, x0), (1, x1), (4, x8), (5, x8), (7, x7), (8, x8), (9, v9n2), (16, v16n5)]) (
 optK (q_add Tryz.prog 3 x8 (Value.int .i64 1)) fun v18n6 =>
 LA_slices_Index_int_int lf d rec k fu x0 x1 x4 x7 v18n6)) (
 k (Ex.exit 0) [(0, x0), (1, x1), (4, x4), (7, x7), (8, x8), (9, v9n2)])
noncomputable def KA_slices_Index_int_int (lf d : Nat) (rec : FuncId → Array Value → M Value) (dflt : Ex → Fr → M Value) : Ex → Fr → M Value := (kEx 0 (runCur [0, 1, 4, 7, 8, 9] (fun y0 y1 y4 y7 y8 y9 =>
 outK [(Value.int .i64 (-1))]) (dflt (Ex.exit 0))) (kRt (runCur [0, 1, 4, 5, 7, 8, 9, 16] (fun y0 y1 y4 y5 y7 y8 y9 y16 =>
 outK [y4]) (dflt Ex.ret)) dflt))
noncomputable def F_slices_Index_int_int (lf d : Nat) (rec : FuncId → Array Value → M Value) (a0 : Value) (a1 : Value) : M Value :=
 optK (len2 Tryz.prog #[91] [a0]) fun v7n1 =>
 LA_slices_Index_int_int lf d rec (KA_slices_Index_int_int lf d rec (kcA_slices_Index_int_int lf d)) lf a0 a1 (Value.int .i64 0) v7n1 (Value.int .i64 0)
theorem LQA_slices_Index_int_int (lf d : Nat) (k : Ex → Fr → M Value) : ∀ fu : Nat, LA_slices_Index_int_int lf d (evC lf d) k fu = lpA_slices_Index_int_int lf d fu k
  | 0 => by funext x0 x1 x4 x7 x8; kernel_rfl
  | fu + 1 => by
    have ih := LQA_slices_Index_int_int lf d k fu
    funext x0 x1 x4 x7 x8; simp only [LA_slices_Index_int_int, ih, clash3_eq, evIA3_eq (P := Tryz.prog) Tryz.underlying91 gs3, evLoad3_eq (P := Tryz.prog) ga3, insB_eq, q_add_eq (P := Tryz.prog) nf3, q_eql_eq (P := Tryz.prog) nf3, q_lss_eq (P := Tryz.prog) nf3]; kernel_rfl
set_option maxRecDepth 20000 in
theorem KQA_slices_Index_int_int (lf d : Nat) : KA_slices_Index_int_int lf d (evC lf d) (kcA_slices_Index_int_int lf d) = kcA_slices_Index_int_int lf d := by
  unfold KA_slices_Index_int_int
  refine Eq.trans (kEx_eq ?_) ?_
  · exact (runCur_eq _ _ _ (by intro y0 y1 y4 y7 y8 y9; show _ = _; (try simp only [clash3_eq, insB_eq]); kernel_rfl))
  refine Eq.trans (kRt_eq ?_) ?_
  · exact (runCur_eq _ _ _ (by intro y0 y1 y4 y5 y7 y8 y9 y16; show _ = _; (try simp only [clash3_eq, insB_eq]); kernel_rfl))
  rfl
theorem fsh_slices_Index_int_int (lf d : Nat) (a0 : Value) (a1 : Value) : inside (F_slices_Index_int_int lf d (evC lf d) a0 a1) = evC lf (d + 1) 224 #[a0, a1] := by
  unfold F_slices_Index_int_int; (try simp only [KQA_slices_Index_int_int lf d, LQA_slices_Index_int_int, clash3_eq, insB_eq]); kernel_rfl

/- slices_ContainsFunc_int_int -/
noncomputable def F_slices_ContainsFunc_int_int (lf d : Nat) (rec : FuncId → Array Value → M Value) (a0 : Value) (a1 : Value) : M Value :=
 (inside (rec 227 #[a0, a1])).bind fun v7n1 =>
 optK (q_geq Tryz.prog 3 v7n1 (Value.int .i64 0)) fun v8n2 =>
 outK [v8n2]
theorem fsh_slices_ContainsFunc_int_int (lf d : Nat) (a0 : Value) (a1 : Value) : inside (F_slices_ContainsFunc_int_int lf d (evC lf d) a0 a1) = evC lf (d + 1) 225 #[a0, a1] := by
  unfold F_slices_ContainsFunc_int_int; (try simp only [clash3_eq, insB_eq, q_geq_eq (P := Tryz.prog) nf3]); kernel_rfl

/- lens_between_1 -/
noncomputable def F_lens_between_1 (lf d : Nat) (rec : FuncId → Array Value → M Value) (a0 : Value) (a1 : Value) (a2 : Value) : M Value :=
 insB (evLoad3 Tryz.prog 3 a1) fun v6n1 =>
 optK (q_lss Tryz.prog 3 a0 v6n1) fun v7n2 =>
 ifV v7n2 (
 outK [(Value.bool true)]) (
 insB (evLoad3 Tryz.prog 3 a2) fun v10n3 =>
 optK (q_gtr Tryz.prog 3 a0 v10n3) fun v11n4 =>
 outK [v11n4])
theorem fsh_lens_between_1 (lf d : Nat) (a0 : Value) (a1 : Value) (a2 : Value) : inside (F_lens_between_1 lf d (evC lf d) a0 a1 a2) = evC lf (d + 1) 226 #[a0, a1, a2] := by
  unfold F_lens_between_1; (try simp only [clash3_eq, evLoad3_eq (P := Tryz.prog) ga3, insB_eq, q_gtr_eq (P := Tryz.prog) nf3, q_lss_eq (P := Tryz.prog) nf3]); kernel_rfl

/- slices_IndexFunc_int_int -/
noncomputable def lpA_slices_IndexFunc_int_int (lf d fu : Nat) (k : Ex → Fr → M Value) (x0 : Value) (x1 : Value) (x4 : Value) (x7 : Value) (x8 : Value) : M Value := loopK (fun s1 k1 => codeK Tryz.prog (evC lf d) (gtA 227) lf (codeAt (bodyOf Tryz.prog 227) [true, false, true, false, false]) s1 k1) [0, 1, 4, 7, 8] fu [(0, x0), (1, x1), (4, x4), (7, x7), (8, x8)] k
noncomputable def kcA_slices_IndexFunc_int_int (lf d : Nat) : Ex → Fr → M Value := contAt Tryz.prog (evC lf d) (gtA 227) lf (bodyOf Tryz.prog 227) [true, false, true, false] (endK Tryz.prog (resOf Tryz.prog 227))
noncomputable def LA_slices_IndexFunc_int_int (lf d : Nat) (rec : FuncId → Array Value → M Value) (k : Ex → Fr → M Value) : Nat → Value → Value → Value → Value → Value → M Value
 | 0, _, _, _, _, _ => M.fail
 | fu + 1, x0, x1, x4, x7, x8 =>
 optK (q_lss Tryz.prog 3 x8 x7) fun v9n2 =>
 ifV v9n2 (
 optK (evIA3 Tryz.prog 91 1 x0 x8) fun v14n3 =>
 insB (evLoad3 Tryz.prog 3 v14n3) fun v15n4 =>
 callV Tryz.prog rec x1 [v15n4] fun v16n5 =>
 ifV v16n5 (
 k Ex.ret [(0, x0), (1, x1), (4, x8), (5, x8), (7, x7), (8, x8), (9, v9n2), (16, v16n5)]) (
 optK (q_add Tryz.prog 3 x8 (Value.int .i64 1)) fun v18n6 =>
 LA_slices_IndexFunc_int_int lf d rec k fu x0 x1 x4 x7 v18n6)) (
 k (Ex.exit 0) [(0, x0), (1, x1), (4, x4), (7, x7), (8, x8), (9, v9n2)])
noncomputable def KA_slices_IndexFunc_int_int (lf d : Nat) (rec : FuncId → Array Value → M Value) (dflt : Ex → Fr → M Value) : Ex → Fr → M Value := (kEx 0 (runCur [0, 1, 4, 7, 8, 9] (fun y0 y1 y4 y7 y8 y9 =>
 outK [(Value.int .i64 (-1))]) (dflt (Ex.exit 0))) (kRt (runCur [0, 1, 4, 5, 7, 8, 9, 16] (fun y0 y1 y4 y5 y7 y8 y9 y16 =>
 outK [y4]) (dflt Ex.ret)) dflt))
noncomputable def F_slices_IndexFunc_int_int (lf d : Nat) (rec : FuncId → Array Value → M Value) (a0 : Value) (a1 : Value) : M Value :=
 optK (len2 Tryz.prog #[91] [a0]) fun v7n1 =>
 LA_slices_IndexFunc_int_int lf d rec (KA_slices_IndexFunc_int_int lf d rec (kcA_slices_IndexFunc_int_int lf d)) lf a0 a1 (Value.int .i64 0) v7n1 (Value.int .i64 0)
theorem LQA_slices_IndexFunc_int_int (lf d : Nat) (k : Ex → Fr → M Value) : ∀ fu : Nat, LA_slices_IndexFunc_int_int lf d (evC lf d) k fu = lpA_slices_IndexFunc_int_int lf d fu k
  | 0 => by funext x0 x1 x4 x7 x8; kernel_rfl
  | fu + 1 => by
    have ih := LQA_slices_IndexFunc_int_int lf d k fu
    funext x0 x1 x4 x7 x8; simp only [LA_slices_IndexFunc_int_int, ih, clash3_eq, evIA3_eq (P := Tryz.prog) Tryz.underlying91 gs3, evLoad3_eq (P := Tryz.prog) ga3, insB_eq, q_add_eq (P := Tryz.prog) nf3, q_lss_eq (P := Tryz.prog) nf3]; kernel_rfl
set_option maxRecDepth 20000 in
theorem KQA_slices_IndexFunc_int_int (lf d : Nat) : KA_slices_IndexFunc_int_int lf d (evC lf d) (kcA_slices_IndexFunc_int_int lf d) = kcA_slices_IndexFunc_int_int lf d := by
  unfold KA_slices_IndexFunc_int_int
  refine Eq.trans (kEx_eq ?_) ?_
  · exact (runCur_eq _ _ _ (by intro y0 y1 y4 y7 y8 y9; show _ = _; (try simp only [clash3_eq, insB_eq]); kernel_rfl))
  refine Eq.trans (kRt_eq ?_) ?_
  · exact (runCur_eq _ _ _ (by intro y0 y1 y4 y5 y7 y8 y9 y16; show _ = _; (try simp only [clash3_eq, insB_eq]); kernel_rfl))
  rfl
theorem fsh_slices_IndexFunc_int_int (lf d : Nat) (a0 : Value) (a1 : Value) : inside (F_slices_IndexFunc_int_int lf d (evC lf d) a0 a1) = evC lf (d + 1) 227 #[a0, a1] := by
  unfold F_slices_IndexFunc_int_int; (try simp only [KQA_slices_IndexFunc_int_int lf d, LQA_slices_IndexFunc_int_int, clash3_eq, insB_eq]); kernel_rfl

noncomputable def fTab (lf : Nat) : Tab := [
 (9, fun d rec => runAr 0 (inside (F_balerlaw24_none lf d rec)) (fun l => evC lf (d + 1) 9 l.toArray)),
 (10, fun d rec => runAr 3 (fun a0 a1 a2 => inside (F_unpress_New lf d rec a0 a1 a2)) (fun l => evC lf (d + 1) 10 l.toArray)),
 (11, fun d rec => runAr 2 (fun a0 a1 => inside (F_unpress_Expander_Feed lf d rec a0 a1)) (fun l => evC lf (d + 1) 11 l.toArray)),
 (13, fun d rec => runAr 1 (fun a0 => inside (F_unpress_Expander_Stopped lf d rec a0)) (fun l => evC lf (d + 1) 13 l.toArray)),
 (14, fun d rec => runAr 1 (fun a0 => inside (F_unpress_Expander_End lf d rec a0)) (fun l => evC lf (d + 1) 14 l.toArray)),
 (15, fun d rec => runAr 2 (fun a0 a1 => inside (F_unpress_Expander_Step lf d rec a0 a1)) (fun l => evC lf (d + 1) 15 l.toArray)),
 (16, fun d rec => runAr 2 (fun a0 a1 => inside (F_unpress_Expander_Take lf d rec a0 a1)) (fun l => evC lf (d + 1) 16 l.toArray)),
 (17, fun d rec => runAr 1 (fun a0 => inside (F_unpress_Expander_Waiting lf d rec a0)) (fun l => evC lf (d + 1) 17 l.toArray)),
 (18, fun d rec => runAr 1 (fun a0 => inside (F_unpress_Expander_Done lf d rec a0)) (fun l => evC lf (d + 1) 18 l.toArray)),
 (19, fun d rec => runAr 1 (fun a0 => inside (F_unpress_Expander_Err lf d rec a0)) (fun l => evC lf (d + 1) 19 l.toArray)),
 (20, fun d rec => runAr 1 (fun a0 => inside (F_unpress_Expander_Steps lf d rec a0)) (fun l => evC lf (d + 1) 20 l.toArray)),
 (23, fun d rec => runAr 2 (fun a0 a1 => inside (F_tester_Tester_Feed lf d rec a0 a1)) (fun l => evC lf (d + 1) 23 l.toArray)),
 (24, fun d rec => runAr 1 (fun a0 => inside (F_tester_Tester_End lf d rec a0)) (fun l => evC lf (d + 1) 24 l.toArray)),
 (25, fun d rec => runAr 2 (fun a0 a1 => inside (F_tester_Tester_Step lf d rec a0 a1)) (fun l => evC lf (d + 1) 25 l.toArray)),
 (26, fun d rec => runAr 1 (fun a0 => inside (F_tester_Tester_Stopped lf d rec a0)) (fun l => evC lf (d + 1) 26 l.toArray)),
 (27, fun d rec => runAr 2 (fun a0 a1 => inside (F_tester_Tester_Take lf d rec a0 a1)) (fun l => evC lf (d + 1) 27 l.toArray)),
 (29, fun d rec => runAr 1 (fun a0 => inside (F_tester_Tester_Done lf d rec a0)) (fun l => evC lf (d + 1) 29 l.toArray)),
 (30, fun d rec => runAr 1 (fun a0 => inside (F_tester_Tester_Err lf d rec a0)) (fun l => evC lf (d + 1) 30 l.toArray)),
 (31, fun d rec => runAr 1 (fun a0 => inside (F_tester_Tester_Count lf d rec a0)) (fun l => evC lf (d + 1) 31 l.toArray)),
 (32, fun d rec => runAr 1 (fun a0 => inside (F_tester_Tester_Steps lf d rec a0)) (fun l => evC lf (d + 1) 32 l.toArray)),
 (34, fun d rec => runAr 0 (inside (F_balerlaw25_three lf d rec)) (fun l => evC lf (d + 1) 34 l.toArray)),
 (35, fun d rec => runAr 2 (fun a0 a1 => inside (F_tester_New lf d rec a0 a1)) (fun l => evC lf (d + 1) 35 l.toArray)),
 (37, fun d rec => runAr 1 (fun a0 => inside (F_tester_Digits lf d rec a0)) (fun l => evC lf (d + 1) 37 l.toArray)),
 (42, fun d rec => runAr 3 (fun a0 a1 a2 => inside (F_balerref21_With lf d rec a0 a1 a2)) (fun l => evC lf (d + 1) 42 l.toArray)),
 (43, fun d rec => runAr 1 (fun a0 => inside (F_unstream_New lf d rec a0)) (fun l => evC lf (d + 1) 43 l.toArray)),
 (44, fun d rec => runAr 2 (fun a0 a1 => inside (F_unpress_may lf d rec a0 a1)) (fun l => evC lf (d + 1) 44 l.toArray)),
 (45, fun d rec => runAr 1 (fun a0 => inside (F_bits_NewReader lf d rec a0)) (fun l => evC lf (d + 1) 45 l.toArray)),
 (46, fun d rec => runAr 1 (fun a0 => inside (F_bits_Reader_Held lf d rec a0)) (fun l => evC lf (d + 1) 46 l.toArray)),
 (47, fun d rec => runAr 2 (fun a0 a1 => inside (F_bits_Reader_More lf d rec a0 a1)) (fun l => evC lf (d + 1) 47 l.toArray)),
 (50, fun d rec => runAr 1 (fun a0 => inside (F_unpress_Expander_open lf d rec a0)) (fun l => evC lf (d + 1) 50 l.toArray)),
 (51, fun d rec => runAr 1 (fun a0 => inside (F_unpress_Expander_read lf d rec a0)) (fun l => evC lf (d + 1) 51 l.toArray)),
 (52, fun d rec => runAr 1 (fun a0 => inside (F_tester_counted_forget lf d rec a0)) (fun l => evC lf (d + 1) 52 l.toArray)),
 (53, fun d rec => runAr 1 (fun a0 => inside (F_tester_Tester_tell lf d rec a0)) (fun l => evC lf (d + 1) 53 l.toArray)),
 (56, fun d rec => runAr 1 (fun a0 => inside (F_balerref21_Head lf d rec a0)) (fun l => evC lf (d + 1) 56 l.toArray)),
 (57, fun d rec => runAr 2 (fun a0 a1 => inside (F_balerref19_Of lf d rec a0 a1)) (fun l => evC lf (d + 1) 57 l.toArray)),
 (58, fun d rec => runAr 2 (fun a0 a1 => inside (F_balerref20_Write lf d rec a0 a1)) (fun l => evC lf (d + 1) 58 l.toArray)),
 (59, fun d rec => runAr 1 (fun a0 => inside (F_balerref19_Block_Sum lf d rec a0)) (fun l => evC lf (d + 1) 59 l.toArray)),
 (60, fun d rec => runAr 1 (fun a0 => inside (F_balerref01_Pack lf d rec a0)) (fun l => evC lf (d + 1) 60 l.toArray)),
 (61, fun d rec => runAr 1 (fun a0 => inside (F_balerref21_Tail lf d rec a0)) (fun l => evC lf (d + 1) 61 l.toArray)),
 (62, fun d rec => runAr 2 (fun a0 a1 => inside (F_split_Room lf d rec a0 a1)) (fun l => evC lf (d + 1) 62 l.toArray)),
 (64, fun d rec => runAr 1 (fun a0 => inside (F_unpress_opening_step lf d rec a0)) (fun l => evC lf (d + 1) 64 l.toArray)),
 (65, fun d rec => runAr 2 (fun a0 a1 => inside (F_unpress_Expander_fail lf d rec a0 a1)) (fun l => evC lf (d + 1) 65 l.toArray)),
 (66, fun d rec => runAr 1 (fun a0 => inside (F_unbwt_Inverter_Done lf d rec a0)) (fun l => evC lf (d + 1) 66 l.toArray)),
 (67, fun d rec => runAr 1 (fun a0 => inside (F_unstream_Reader_MayEnd lf d rec a0)) (fun l => evC lf (d + 1) 67 l.toArray)),
 (68, fun d rec => runAr 1 (fun a0 => inside (F_bits_Reader_Left lf d rec a0)) (fun l => evC lf (d + 1) 68 l.toArray)),
 (69, fun d rec => runAr 2 (fun a0 a1 => inside (F_unstream_Reader_Step lf d rec a0 a1)) (fun l => evC lf (d + 1) 69 l.toArray)),
 (70, fun d rec => runAr 1 (fun a0 => inside (F_bits_Reader_Drop lf d rec a0)) (fun l => evC lf (d + 1) 70 l.toArray)),
 (71, fun d rec => runAr 1 (fun a0 => inside (F_unpress_openingOf lf d rec a0)) (fun l => evC lf (d + 1) 71 l.toArray)),
 (72, fun d rec => runAr 1 (fun a0 => inside (F_unstream_Reader_Got lf d rec a0)) (fun l => evC lf (d + 1) 72 l.toArray)),
 (73, fun d rec => runAr 1 (fun a0 => inside (F_balerref01_Bits lf d rec a0)) (fun l => evC lf (d + 1) 73 l.toArray)),
 (74, fun d rec => runAr 1 (fun a0 => inside (F_balerref03_Pieces lf d rec a0)) (fun l => evC lf (d + 1) 74 l.toArray)),
 (75, fun d rec => runAr 1 (fun a0 => inside (F_balerref03_Piece lf d rec a0)) (fun l => evC lf (d + 1) 75 l.toArray)),
 (76, fun d rec => runAr 1 (fun a0 => inside (F_balerref17_Of lf d rec a0)) (fun l => evC lf (d + 1) 76 l.toArray)),
 (77, fun d rec => runAr 1 (fun a0 => inside (F_balerref20_Bits lf d rec a0)) (fun l => evC lf (d + 1) 77 l.toArray)),
 (78, fun d rec => runAr 1 (fun a0 => inside (F_balerref02_Of lf d rec a0)) (fun l => evC lf (d + 1) 78 l.toArray)),
 (79, fun d rec => runAr 1 (fun a0 => inside (F_balerref01_Bytes lf d rec a0)) (fun l => evC lf (d + 1) 79 l.toArray)),
 (80, fun d rec => runAr 1 (fun a0 => inside (F_balerref01_Padded lf d rec a0)) (fun l => evC lf (d + 1) 80 l.toArray)),
 (81, fun d rec => runAr 2 (fun a0 a1 => inside (F_balerref01_Field lf d rec a0 a1)) (fun l => evC lf (d + 1) 81 l.toArray)),
 (82, fun d rec => runAr 1 (fun a0 => inside (F_balerref02_Stream lf d rec a0)) (fun l => evC lf (d + 1) 82 l.toArray)),
 (84, fun d rec => runAr 2 (fun a0 a1 => inside (F_unbwt_Inverter_Step lf d rec a0 a1)) (fun l => evC lf (d + 1) 84 l.toArray)),
 (85, fun d rec => runAr 1 (fun a0 => inside (F_unbwt_Inverter_Take lf d rec a0)) (fun l => evC lf (d + 1) 85 l.toArray)),
 (86, fun d rec => runAr 2 (fun a0 a1 => inside (F_feed_Unpacker_Put lf d rec a0 a1)) (fun l => evC lf (d + 1) 86 l.toArray)),
 (87, fun d rec => runAr 2 (fun a0 a1 => inside (F_crc_Sum_Text lf d rec a0 a1)) (fun l => evC lf (d + 1) 87 l.toArray)),
 (88, fun d rec => runAr 1 (fun a0 => inside (F_unpress_opening_end lf d rec a0)) (fun l => evC lf (d + 1) 88 l.toArray)),
 (89, fun d rec => runAr 1 (fun a0 => inside (F_bits_Reader_end lf d rec a0)) (fun l => evC lf (d + 1) 89 l.toArray)),
 (90, fun d rec => runAr 2 (fun a0 a1 => inside (F_unstream_Reader_step lf d rec a0 a1)) (fun l => evC lf (d + 1) 90 l.toArray)),
 (91, fun d rec => runAr 2 (fun a0 a1 => inside (F_unbwt_New lf d rec a0 a1)) (fun l => evC lf (d + 1) 91 l.toArray)),
 (92, fun d rec => runAr 0 (inside (F_feed_NewUnpacker lf d rec)) (fun l => evC lf (d + 1) 92 l.toArray)),
 (93, fun d rec => runAr 0 (inside (F_crc_New lf d rec)) (fun l => evC lf (d + 1) 93 l.toArray)),
 (94, fun d rec => runAr 1 (fun a0 => inside (F_balerref03_row lf d rec a0)) (fun l => evC lf (d + 1) 94 l.toArray)),
 (95, fun d rec => runAr 2 (fun a0 a1 => inside (F_balerref17_From lf d rec a0 a1)) (fun l => evC lf (d + 1) 95 l.toArray)),
 (96, fun d rec => runAr 1 (fun a0 => inside (F_balerref15_Sorted lf d rec a0)) (fun l => evC lf (d + 1) 96 l.toArray)),
 (97, fun d rec => runAr 1 (fun a0 => inside (F_balerref05_Symbols lf d rec a0)) (fun l => evC lf (d + 1) 97 l.toArray)),
 (98, fun d rec => runAr 2 (fun a0 a1 => inside (F_balerref06_Encode lf d rec a0 a1)) (fun l => evC lf (d + 1) 98 l.toArray)),
 (99, fun d rec => runAr 2 (fun a0 a1 => inside (F_balerref07_Encode lf d rec a0 a1)) (fun l => evC lf (d + 1) 99 l.toArray)),
 (100, fun d rec => runAr 1 (fun a0 => inside (F_balerref05_Bits lf d rec a0)) (fun l => evC lf (d + 1) 100 l.toArray)),
 (101, fun d rec => runAr 2 (fun a0 a1 => inside (F_balerref14_Bits lf d rec a0 a1)) (fun l => evC lf (d + 1) 101 l.toArray)),
 (102, fun d rec => runAr 2 (fun a0 a1 => inside (F_balerref02_Step lf d rec a0 a1)) (fun l => evC lf (d + 1) 102 l.toArray)),
 (103, fun d rec => runAr 1 (fun a0 => inside (F_balerref01_Number lf d rec a0)) (fun l => evC lf (d + 1) 103 l.toArray)),
 (104, fun d rec => runAr 2 (fun a0 a1 => inside (F_balerref02_Combine lf d rec a0 a1)) (fun l => evC lf (d + 1) 104 l.toArray)),
 (105, fun d rec => runAr 1 (fun a0 => inside (F_picks_Reader_Picks lf d rec a0)) (fun l => evC lf (d + 1) 105 l.toArray)),
 (106, fun d rec => runAr 1 (fun a0 => inside (F_unbwt_Inverter_step lf d rec a0)) (fun l => evC lf (d + 1) 106 l.toArray)),
 (107, fun d rec => runAr 1 (fun a0 => inside (F_feed_Unpacker_Wants lf d rec a0)) (fun l => evC lf (d + 1) 107 l.toArray)),
 (109, fun d rec => runAr 2 (fun a0 a1 => inside (F_crc_Sum_Put lf d rec a0 a1)) (fun l => evC lf (d + 1) 109 l.toArray)),
 (110, fun d rec => runAr 1 (fun a0 => inside (F_feed_Unpacker_End lf d rec a0)) (fun l => evC lf (d + 1) 110 l.toArray)),
 (111, fun d rec => runAr 1 (fun a0 => inside (F_crc_Sum_Value lf d rec a0)) (fun l => evC lf (d + 1) 111 l.toArray)),
 (112, fun d rec => runAr 2 (fun a0 a1 => inside (F_unstream_Reader_letter lf d rec a0 a1)) (fun l => evC lf (d + 1) 112 l.toArray)),
 (113, fun d rec => runAr 2 (fun a0 a1 => inside (F_unstream_Reader_magic lf d rec a0 a1)) (fun l => evC lf (d + 1) 113 l.toArray)),
 (114, fun d rec => runAr 2 (fun a0 a1 => inside (F_unstream_Reader_body lf d rec a0 a1)) (fun l => evC lf (d + 1) 114 l.toArray)),
 (115, fun d rec => runAr 2 (fun a0 a1 => inside (F_unstream_Reader_sum lf d rec a0 a1)) (fun l => evC lf (d + 1) 115 l.toArray)),
 (116, fun d rec => runAr 0 (inside (F_crc_Table lf d rec)) (fun l => evC lf (d + 1) 116 l.toArray)),
 (117, fun d rec => runAr 2 (fun a0 a1 => inside (F_balerref15_Rotation lf d rec a0 a1)) (fun l => evC lf (d + 1) 117 l.toArray)),
 (118, fun d rec => runAr 3 (fun a0 a1 a2 => inside (F_balerref15_Ahead lf d rec a0 a1 a2)) (fun l => evC lf (d + 1) 118 l.toArray)),
 (119, fun d rec => runAr 2 (fun a0 a1 => inside (F_balerref05_There lf d rec a0 a1)) (fun l => evC lf (d + 1) 119 l.toArray)),
 (120, fun d rec => runAr 1 (fun a0 => inside (F_balerref05_Is lf d rec a0)) (fun l => evC lf (d + 1) 120 l.toArray)),
 (121, fun d rec => runAr 2 (fun a0 a1 => inside (F_balerref06_Place lf d rec a0 a1)) (fun l => evC lf (d + 1) 121 l.toArray)),
 (122, fun d rec => runAr 2 (fun a0 a1 => inside (F_balerref06_Touch lf d rec a0 a1)) (fun l => evC lf (d + 1) 122 l.toArray)),
 (123, fun d rec => runAr 1 (fun a0 => inside (F_balerref07_Row lf d rec a0)) (fun l => evC lf (d + 1) 123 l.toArray)),
 (124, fun d rec => runAr 2 (fun a0 a1 => inside (F_balerref12_Of lf d rec a0 a1)) (fun l => evC lf (d + 1) 124 l.toArray)),
 (125, fun d rec => runAr 2 (fun a0 a1 => inside (F_balerref13_Bits lf d rec a0 a1)) (fun l => evC lf (d + 1) 125 l.toArray)),
 (126, fun d rec => runAr 1 (fun a0 => inside (F_balerref11_Bits lf d rec a0)) (fun l => evC lf (d + 1) 126 l.toArray)),
 (127, fun d rec => runAr 1 (fun a0 => inside (F_balerref10_Codes lf d rec a0)) (fun l => evC lf (d + 1) 127 l.toArray)),
 (128, fun d rec => runAr 1 (fun a0 => inside (F_balerref02_Bits lf d rec a0)) (fun l => evC lf (d + 1) 128 l.toArray)),
 (129, fun d rec => runAr 1 (fun a0 => inside (F_slices_Clone_int_int lf d rec a0)) (fun l => evC lf (d + 1) 129 l.toArray)),
 (130, fun d rec => runAr 1 (fun a0 => inside (F_unbwt_Inverter_begins lf d rec a0)) (fun l => evC lf (d + 1) 130 l.toArray)),
 (137, fun d rec => runAr 3 (fun a0 a1 a2 => inside (F_crc_step lf d rec a0 a1 a2)) (fun l => evC lf (d + 1) 137 l.toArray)),
 (138, fun d rec => runAr 2 (fun a0 a1 => inside (F_bits_Reader_Get lf d rec a0 a1)) (fun l => evC lf (d + 1) 138 l.toArray)),
 (139, fun d rec => runAr 1 (fun a0 => inside (F_block_NewReader lf d rec a0)) (fun l => evC lf (d + 1) 139 l.toArray)),
 (140, fun d rec => runAr 2 (fun a0 a1 => inside (F_block_Reader_Step lf d rec a0 a1)) (fun l => evC lf (d + 1) 140 l.toArray)),
 (141, fun d rec => runAr 1 (fun a0 => inside (F_block_Reader_Done lf d rec a0)) (fun l => evC lf (d + 1) 141 l.toArray)),
 (142, fun d rec => runAr 1 (fun a0 => inside (F_block_Reader_Got lf d rec a0)) (fun l => evC lf (d + 1) 142 l.toArray)),
 (143, fun d rec => runAr 2 (fun a0 a1 => inside (F_crc_Combine lf d rec a0 a1)) (fun l => evC lf (d + 1) 143 l.toArray)),
 (144, fun d rec => runAr 1 (fun a0 => inside (F_bits_Reader_Align lf d rec a0)) (fun l => evC lf (d + 1) 144 l.toArray)),
 (145, fun d rec => runAr 2 (fun a0 a1 => inside (F_balerref12_First lf d rec a0 a1)) (fun l => evC lf (d + 1) 145 l.toArray)),
 (146, fun d rec => runAr 2 (fun a0 a1 => inside (F_balerref08_Counts lf d rec a0 a1)) (fun l => evC lf (d + 1) 146 l.toArray)),
 (147, fun d rec => runAr 1 (fun a0 => inside (F_balerref08_Groups lf d rec a0)) (fun l => evC lf (d + 1) 147 l.toArray)),
 (148, fun d rec => runAr 2 (fun a0 a1 => inside (F_balerref12_pick lf d rec a0 a1)) (fun l => evC lf (d + 1) 148 l.toArray)),
 (149, fun d rec => runAr 1 (fun a0 => inside (F_balerref09_Of lf d rec a0)) (fun l => evC lf (d + 1) 149 l.toArray)),
 (150, fun d rec => runAr 2 (fun a0 a1 => inside (F_balerref10_next lf d rec a0 a1)) (fun l => evC lf (d + 1) 150 l.toArray)),
 (153, fun d rec => runAr 2 (fun a0 a1 => inside (F_internal_stringslite_HasPrefix lf d rec a0 a1)) (fun l => evC lf (d + 1) 153 l.toArray)),
 (156, fun d rec => runAr 2 (fun a0 a1 => inside (F_bits_Reader_bit lf d rec a0 a1)) (fun l => evC lf (d + 1) 156 l.toArray)),
 (157, fun d rec => runAr 2 (fun a0 a1 => inside (F_block_Reader_step lf d rec a0 a1)) (fun l => evC lf (d + 1) 157 l.toArray)),
 (158, fun d rec => runAr 1 (fun a0 => inside (F_balerref12_Number lf d rec a0)) (fun l => evC lf (d + 1) 158 l.toArray)),
 (159, fun d rec => runAr 2 (fun a0 a1 => inside (F_balerref08_count lf d rec a0 a1)) (fun l => evC lf (d + 1) 159 l.toArray)),
 (160, fun d rec => runAr 2 (fun a0 a1 => inside (F_balerref08_Cost lf d rec a0 a1)) (fun l => evC lf (d + 1) 160 l.toArray)),
 (161, fun d rec => runAr 1 (fun a0 => inside (F_balerref09_Depths lf d rec a0)) (fun l => evC lf (d + 1) 161 l.toArray)),
 (162, fun d rec => runAr 3 (fun a0 a1 a2 => inside (F_balerref09_May lf d rec a0 a1 a2)) (fun l => evC lf (d + 1) 162 l.toArray)),
 (163, fun d rec => runAr 1 (fun a0 => inside (F_balerref09_Halved lf d rec a0)) (fun l => evC lf (d + 1) 163 l.toArray)),
 (166, fun d rec => runAr 2 (fun a0 a1 => inside (F_block_Reader_begin lf d rec a0 a1)) (fun l => evC lf (d + 1) 166 l.toArray)),
 (167, fun d rec => runAr 2 (fun a0 a1 => inside (F_block_Reader_symbols lf d rec a0 a1)) (fun l => evC lf (d + 1) 167 l.toArray)),
 (168, fun d rec => runAr 1 (fun a0 => inside (F_block_row_waits lf d rec a0)) (fun l => evC lf (d + 1) 168 l.toArray)),
 (169, fun d rec => runAr 1 (fun a0 => inside (F_block_row_next lf d rec a0)) (fun l => evC lf (d + 1) 169 l.toArray)),
 (170, fun d rec => runAr 2 (fun a0 a1 => inside (F_block_Reader_symbol lf d rec a0 a1)) (fun l => evC lf (d + 1) 170 l.toArray)),
 (171, fun d rec => runAr 1 (fun a0 => inside (F_block_Reader_end lf d rec a0)) (fun l => evC lf (d + 1) 171 l.toArray)),
 (172, fun d rec => runAr 1 (fun a0 => inside (F_balerref08_most lf d rec a0)) (fun l => evC lf (d + 1) 172 l.toArray)),
 (173, fun d rec => runAr 1 (fun a0 => inside (F_balerref09_least lf d rec a0)) (fun l => evC lf (d + 1) 173 l.toArray)),
 (174, fun d rec => runAr 2 (fun a0 a1 => inside (F_balerref09_without lf d rec a0 a1)) (fun l => evC lf (d + 1) 174 l.toArray)),
 (175, fun d rec => runAr 1 (fun a0 => inside (F_used_Read lf d rec a0)) (fun l => evC lf (d + 1) 175 l.toArray)),
 (176, fun d rec => runAr 2 (fun a0 a1 => inside (F_block_rowOf lf d rec a0 a1)) (fun l => evC lf (d + 1) 176 l.toArray)),
 (177, fun d rec => runAr 2 (fun a0 a1 => inside (F_mtf_List_At lf d rec a0 a1)) (fun l => evC lf (d + 1) 177 l.toArray)),
 (178, fun d rec => runAr 2 (fun a0 a1 => inside (F_code_Reader_Step lf d rec a0 a1)) (fun l => evC lf (d + 1) 178 l.toArray)),
 (179, fun d rec => runAr 2 (fun a0 a1 => inside (F_block_row_told lf d rec a0 a1)) (fun l => evC lf (d + 1) 179 l.toArray)),
 (180, fun d rec => runAr 1 (fun a0 => inside (F_code_Reader_Done lf d rec a0)) (fun l => evC lf (d + 1) 180 l.toArray)),
 (181, fun d rec => runAr 2 (fun a0 a1 => inside (F_balerref09_less lf d rec a0 a1)) (fun l => evC lf (d + 1) 181 l.toArray)),
 (182, fun d rec => runAr 1 (fun a0 => inside (F_bits_Reader_At lf d rec a0)) (fun l => evC lf (d + 1) 182 l.toArray)),
 (183, fun d rec => runAr 1 (fun a0 => inside (F_used_read lf d rec a0)) (fun l => evC lf (d + 1) 183 l.toArray)),
 (184, fun d rec => runAr 2 (fun a0 a1 => inside (F_bits_Reader_Seek lf d rec a0 a1)) (fun l => evC lf (d + 1) 184 l.toArray)),
 (185, fun d rec => runAr 1 (fun a0 => inside (F_code_NewReader lf d rec a0)) (fun l => evC lf (d + 1) 185 l.toArray)),
 (186, fun d rec => runAr 2 (fun a0 a1 => inside (F_zeros_NewReader lf d rec a0 a1)) (fun l => evC lf (d + 1) 186 l.toArray)),
 (187, fun d rec => runAr 1 (fun a0 => inside (F_mtf_New lf d rec a0)) (fun l => evC lf (d + 1) 187 l.toArray)),
 (188, fun d rec => runAr 2 (fun a0 a1 => inside (F_mtf_List_touch lf d rec a0 a1)) (fun l => evC lf (d + 1) 188 l.toArray)),
 (189, fun d rec => runAr 2 (fun a0 a1 => inside (F_code_Reader_symbol lf d rec a0 a1)) (fun l => evC lf (d + 1) 189 l.toArray)),
 (190, fun d rec => runAr 1 (fun a0 => inside (F_picks_Reader_Done lf d rec a0)) (fun l => evC lf (d + 1) 190 l.toArray)),
 (191, fun d rec => runAr 2 (fun a0 a1 => inside (F_code_Reader_pick lf d rec a0 a1)) (fun l => evC lf (d + 1) 191 l.toArray)),
 (192, fun d rec => runAr 1 (fun a0 => inside (F_picks_Reader_Tables lf d rec a0)) (fun l => evC lf (d + 1) 192 l.toArray)),
 (193, fun d rec => runAr 2 (fun a0 a1 => inside (F_code_Reader_table lf d rec a0 a1)) (fun l => evC lf (d + 1) 193 l.toArray)),
 (194, fun d rec => runAr 2 (fun a0 a1 => inside (F_zeros_Reader_Put lf d rec a0 a1)) (fun l => evC lf (d + 1) 194 l.toArray)),
 (195, fun d rec => runAr 1 (fun a0 => inside (F_used_marks lf d rec a0)) (fun l => evC lf (d + 1) 195 l.toArray)),
 (196, fun d rec => runAr 1 (fun a0 => inside (F_used_listed lf d rec a0)) (fun l => evC lf (d + 1) 196 l.toArray)),
 (197, fun d rec => runAr 1 (fun a0 => inside (F_delta_NewReader lf d rec a0)) (fun l => evC lf (d + 1) 197 l.toArray)),
 (198, fun d rec => runAr 0 (inside (F_picks_NewReader lf d rec)) (fun l => evC lf (d + 1) 198 l.toArray)),
 (199, fun d rec => runAr 1 (fun a0 => inside (F_zeros_may lf d rec a0)) (fun l => evC lf (d + 1) 199 l.toArray)),
 (200, fun d rec => runAr 1 (fun a0 => inside (F_used_Is lf d rec a0)) (fun l => evC lf (d + 1) 200 l.toArray)),
 (201, fun d rec => runAr 2 (fun a0 a1 => inside (F_canon_Code_Get lf d rec a0 a1)) (fun l => evC lf (d + 1) 201 l.toArray)),
 (202, fun d rec => runAr 2 (fun a0 a1 => inside (F_picks_Reader_Step lf d rec a0 a1)) (fun l => evC lf (d + 1) 202 l.toArray)),
 (203, fun d rec => runAr 2 (fun a0 a1 => inside (F_delta_Reader_Step lf d rec a0 a1)) (fun l => evC lf (d + 1) 203 l.toArray)),
 (204, fun d rec => runAr 1 (fun a0 => inside (F_delta_Reader_Done lf d rec a0)) (fun l => evC lf (d + 1) 204 l.toArray)),
 (205, fun d rec => runAr 1 (fun a0 => inside (F_canon_New lf d rec a0)) (fun l => evC lf (d + 1) 205 l.toArray)),
 (206, fun d rec => runAr 1 (fun a0 => inside (F_delta_Reader_Lens lf d rec a0)) (fun l => evC lf (d + 1) 206 l.toArray)),
 (207, fun d rec => runAr 2 (fun a0 a1 => inside (F_zeros_Reader_more lf d rec a0 a1)) (fun l => evC lf (d + 1) 207 l.toArray)),
 (208, fun d rec => runAr 1 (fun a0 => inside (F_zeros_Reader_Count lf d rec a0)) (fun l => evC lf (d + 1) 208 l.toArray)),
 (209, fun d rec => runAr 1 (fun a0 => inside (F_delta_sized lf d rec a0)) (fun l => evC lf (d + 1) 209 l.toArray)),
 (210, fun d rec => runAr 0 (inside (F_picks_fresh lf d rec)) (fun l => evC lf (d + 1) 210 l.toArray)),
 (211, fun d rec => runAr 2 (fun a0 a1 => inside (F_canon_Code_get lf d rec a0 a1)) (fun l => evC lf (d + 1) 211 l.toArray)),
 (212, fun d rec => runAr 2 (fun a0 a1 => inside (F_picks_Reader_pick lf d rec a0 a1)) (fun l => evC lf (d + 1) 212 l.toArray)),
 (213, fun d rec => runAr 2 (fun a0 a1 => inside (F_picks_Reader_head lf d rec a0 a1)) (fun l => evC lf (d + 1) 213 l.toArray)),
 (214, fun d rec => runAr 2 (fun a0 a1 => inside (F_delta_Reader_step lf d rec a0 a1)) (fun l => evC lf (d + 1) 214 l.toArray)),
 (215, fun d rec => runAr 1 (fun a0 => inside (F_canon_whole lf d rec a0)) (fun l => evC lf (d + 1) 215 l.toArray)),
 (216, fun d rec => runAr 2 (fun a0 a1 => inside (F_picks_order_touch lf d rec a0 a1)) (fun l => evC lf (d + 1) 216 l.toArray)),
 (217, fun d rec => runAr 1 (fun a0 => inside (F_picks_Reader_fail lf d rec a0)) (fun l => evC lf (d + 1) 217 l.toArray)),
 (218, fun d rec => runAr 1 (fun a0 => inside (F_picks_tabled lf d rec a0)) (fun l => evC lf (d + 1) 218 l.toArray)),
 (219, fun d rec => runAr 2 (fun a0 a1 => inside (F_delta_Reader_turned lf d rec a0 a1)) (fun l => evC lf (d + 1) 219 l.toArray)),
 (220, fun d rec => runAr 1 (fun a0 => inside (F_lens_Share lf d rec a0)) (fun l => evC lf (d + 1) 220 l.toArray)),
 (221, fun d rec => runAr 2 (fun a0 a1 => inside (F_slices_Contains_int_int lf d rec a0 a1)) (fun l => evC lf (d + 1) 221 l.toArray)),
 (222, fun d rec => runAr 1 (fun a0 => inside (F_delta_length lf d rec a0)) (fun l => evC lf (d + 1) 222 l.toArray)),
 (223, fun d rec => runAr 3 (fun a0 a1 a2 => inside (F_lens_between lf d rec a0 a1 a2)) (fun l => evC lf (d + 1) 223 l.toArray)),
 (224, fun d rec => runAr 2 (fun a0 a1 => inside (F_slices_Index_int_int lf d rec a0 a1)) (fun l => evC lf (d + 1) 224 l.toArray)),
 (225, fun d rec => runAr 2 (fun a0 a1 => inside (F_slices_ContainsFunc_int_int lf d rec a0 a1)) (fun l => evC lf (d + 1) 225 l.toArray)),
 (226, fun d rec => runAr 3 (fun a0 a1 a2 => inside (F_lens_between_1 lf d rec a0 a1 a2)) (fun l => evC lf (d + 1) 226 l.toArray)),
 (227, fun d rec => runAr 2 (fun a0 a1 => inside (F_slices_IndexFunc_int_int lf d rec a0 a1)) (fun l => evC lf (d + 1) 227 l.toArray))]
theorem fTab_ok (lf : Nat) : OkTab (evC lf) (fTab lf) :=
  ⟨fun d => runAr_eq _ _ _ (fsh_balerlaw24_none lf d),
  ⟨fun d => runAr_eq _ _ _ (fun a0 a1 a2 => fsh_unpress_New lf d a0 a1 a2),
  ⟨fun d => runAr_eq _ _ _ (fun a0 a1 => fsh_unpress_Expander_Feed lf d a0 a1),
  ⟨fun d => runAr_eq _ _ _ (fun a0 => fsh_unpress_Expander_Stopped lf d a0),
  ⟨fun d => runAr_eq _ _ _ (fun a0 => fsh_unpress_Expander_End lf d a0),
  ⟨fun d => runAr_eq _ _ _ (fun a0 a1 => fsh_unpress_Expander_Step lf d a0 a1),
  ⟨fun d => runAr_eq _ _ _ (fun a0 a1 => fsh_unpress_Expander_Take lf d a0 a1),
  ⟨fun d => runAr_eq _ _ _ (fun a0 => fsh_unpress_Expander_Waiting lf d a0),
  ⟨fun d => runAr_eq _ _ _ (fun a0 => fsh_unpress_Expander_Done lf d a0),
  ⟨fun d => runAr_eq _ _ _ (fun a0 => fsh_unpress_Expander_Err lf d a0),
  ⟨fun d => runAr_eq _ _ _ (fun a0 => fsh_unpress_Expander_Steps lf d a0),
  ⟨fun d => runAr_eq _ _ _ (fun a0 a1 => fsh_tester_Tester_Feed lf d a0 a1),
  ⟨fun d => runAr_eq _ _ _ (fun a0 => fsh_tester_Tester_End lf d a0),
  ⟨fun d => runAr_eq _ _ _ (fun a0 a1 => fsh_tester_Tester_Step lf d a0 a1),
  ⟨fun d => runAr_eq _ _ _ (fun a0 => fsh_tester_Tester_Stopped lf d a0),
  ⟨fun d => runAr_eq _ _ _ (fun a0 a1 => fsh_tester_Tester_Take lf d a0 a1),
  ⟨fun d => runAr_eq _ _ _ (fun a0 => fsh_tester_Tester_Done lf d a0),
  ⟨fun d => runAr_eq _ _ _ (fun a0 => fsh_tester_Tester_Err lf d a0),
  ⟨fun d => runAr_eq _ _ _ (fun a0 => fsh_tester_Tester_Count lf d a0),
  ⟨fun d => runAr_eq _ _ _ (fun a0 => fsh_tester_Tester_Steps lf d a0),
  ⟨fun d => runAr_eq _ _ _ (fsh_balerlaw25_three lf d),
  ⟨fun d => runAr_eq _ _ _ (fun a0 a1 => fsh_tester_New lf d a0 a1),
  ⟨fun d => runAr_eq _ _ _ (fun a0 => fsh_tester_Digits lf d a0),
  ⟨fun d => runAr_eq _ _ _ (fun a0 a1 a2 => fsh_balerref21_With lf d a0 a1 a2),
  ⟨fun d => runAr_eq _ _ _ (fun a0 => fsh_unstream_New lf d a0),
  ⟨fun d => runAr_eq _ _ _ (fun a0 a1 => fsh_unpress_may lf d a0 a1),
  ⟨fun d => runAr_eq _ _ _ (fun a0 => fsh_bits_NewReader lf d a0),
  ⟨fun d => runAr_eq _ _ _ (fun a0 => fsh_bits_Reader_Held lf d a0),
  ⟨fun d => runAr_eq _ _ _ (fun a0 a1 => fsh_bits_Reader_More lf d a0 a1),
  ⟨fun d => runAr_eq _ _ _ (fun a0 => fsh_unpress_Expander_open lf d a0),
  ⟨fun d => runAr_eq _ _ _ (fun a0 => fsh_unpress_Expander_read lf d a0),
  ⟨fun d => runAr_eq _ _ _ (fun a0 => fsh_tester_counted_forget lf d a0),
  ⟨fun d => runAr_eq _ _ _ (fun a0 => fsh_tester_Tester_tell lf d a0),
  ⟨fun d => runAr_eq _ _ _ (fun a0 => fsh_balerref21_Head lf d a0),
  ⟨fun d => runAr_eq _ _ _ (fun a0 a1 => fsh_balerref19_Of lf d a0 a1),
  ⟨fun d => runAr_eq _ _ _ (fun a0 a1 => fsh_balerref20_Write lf d a0 a1),
  ⟨fun d => runAr_eq _ _ _ (fun a0 => fsh_balerref19_Block_Sum lf d a0),
  ⟨fun d => runAr_eq _ _ _ (fun a0 => fsh_balerref01_Pack lf d a0),
  ⟨fun d => runAr_eq _ _ _ (fun a0 => fsh_balerref21_Tail lf d a0),
  ⟨fun d => runAr_eq _ _ _ (fun a0 a1 => fsh_split_Room lf d a0 a1),
  ⟨fun d => runAr_eq _ _ _ (fun a0 => fsh_unpress_opening_step lf d a0),
  ⟨fun d => runAr_eq _ _ _ (fun a0 a1 => fsh_unpress_Expander_fail lf d a0 a1),
  ⟨fun d => runAr_eq _ _ _ (fun a0 => fsh_unbwt_Inverter_Done lf d a0),
  ⟨fun d => runAr_eq _ _ _ (fun a0 => fsh_unstream_Reader_MayEnd lf d a0),
  ⟨fun d => runAr_eq _ _ _ (fun a0 => fsh_bits_Reader_Left lf d a0),
  ⟨fun d => runAr_eq _ _ _ (fun a0 a1 => fsh_unstream_Reader_Step lf d a0 a1),
  ⟨fun d => runAr_eq _ _ _ (fun a0 => fsh_bits_Reader_Drop lf d a0),
  ⟨fun d => runAr_eq _ _ _ (fun a0 => fsh_unpress_openingOf lf d a0),
  ⟨fun d => runAr_eq _ _ _ (fun a0 => fsh_unstream_Reader_Got lf d a0),
  ⟨fun d => runAr_eq _ _ _ (fun a0 => fsh_balerref01_Bits lf d a0),
  ⟨fun d => runAr_eq _ _ _ (fun a0 => fsh_balerref03_Pieces lf d a0),
  ⟨fun d => runAr_eq _ _ _ (fun a0 => fsh_balerref03_Piece lf d a0),
  ⟨fun d => runAr_eq _ _ _ (fun a0 => fsh_balerref17_Of lf d a0),
  ⟨fun d => runAr_eq _ _ _ (fun a0 => fsh_balerref20_Bits lf d a0),
  ⟨fun d => runAr_eq _ _ _ (fun a0 => fsh_balerref02_Of lf d a0),
  ⟨fun d => runAr_eq _ _ _ (fun a0 => fsh_balerref01_Bytes lf d a0),
  ⟨fun d => runAr_eq _ _ _ (fun a0 => fsh_balerref01_Padded lf d a0),
  ⟨fun d => runAr_eq _ _ _ (fun a0 a1 => fsh_balerref01_Field lf d a0 a1),
  ⟨fun d => runAr_eq _ _ _ (fun a0 => fsh_balerref02_Stream lf d a0),
  ⟨fun d => runAr_eq _ _ _ (fun a0 a1 => fsh_unbwt_Inverter_Step lf d a0 a1),
  ⟨fun d => runAr_eq _ _ _ (fun a0 => fsh_unbwt_Inverter_Take lf d a0),
  ⟨fun d => runAr_eq _ _ _ (fun a0 a1 => fsh_feed_Unpacker_Put lf d a0 a1),
  ⟨fun d => runAr_eq _ _ _ (fun a0 a1 => fsh_crc_Sum_Text lf d a0 a1),
  ⟨fun d => runAr_eq _ _ _ (fun a0 => fsh_unpress_opening_end lf d a0),
  ⟨fun d => runAr_eq _ _ _ (fun a0 => fsh_bits_Reader_end lf d a0),
  ⟨fun d => runAr_eq _ _ _ (fun a0 a1 => fsh_unstream_Reader_step lf d a0 a1),
  ⟨fun d => runAr_eq _ _ _ (fun a0 a1 => fsh_unbwt_New lf d a0 a1),
  ⟨fun d => runAr_eq _ _ _ (fsh_feed_NewUnpacker lf d),
  ⟨fun d => runAr_eq _ _ _ (fsh_crc_New lf d),
  ⟨fun d => runAr_eq _ _ _ (fun a0 => fsh_balerref03_row lf d a0),
  ⟨fun d => runAr_eq _ _ _ (fun a0 a1 => fsh_balerref17_From lf d a0 a1),
  ⟨fun d => runAr_eq _ _ _ (fun a0 => fsh_balerref15_Sorted lf d a0),
  ⟨fun d => runAr_eq _ _ _ (fun a0 => fsh_balerref05_Symbols lf d a0),
  ⟨fun d => runAr_eq _ _ _ (fun a0 a1 => fsh_balerref06_Encode lf d a0 a1),
  ⟨fun d => runAr_eq _ _ _ (fun a0 a1 => fsh_balerref07_Encode lf d a0 a1),
  ⟨fun d => runAr_eq _ _ _ (fun a0 => fsh_balerref05_Bits lf d a0),
  ⟨fun d => runAr_eq _ _ _ (fun a0 a1 => fsh_balerref14_Bits lf d a0 a1),
  ⟨fun d => runAr_eq _ _ _ (fun a0 a1 => fsh_balerref02_Step lf d a0 a1),
  ⟨fun d => runAr_eq _ _ _ (fun a0 => fsh_balerref01_Number lf d a0),
  ⟨fun d => runAr_eq _ _ _ (fun a0 a1 => fsh_balerref02_Combine lf d a0 a1),
  ⟨fun d => runAr_eq _ _ _ (fun a0 => fsh_picks_Reader_Picks lf d a0),
  ⟨fun d => runAr_eq _ _ _ (fun a0 => fsh_unbwt_Inverter_step lf d a0),
  ⟨fun d => runAr_eq _ _ _ (fun a0 => fsh_feed_Unpacker_Wants lf d a0),
  ⟨fun d => runAr_eq _ _ _ (fun a0 a1 => fsh_crc_Sum_Put lf d a0 a1),
  ⟨fun d => runAr_eq _ _ _ (fun a0 => fsh_feed_Unpacker_End lf d a0),
  ⟨fun d => runAr_eq _ _ _ (fun a0 => fsh_crc_Sum_Value lf d a0),
  ⟨fun d => runAr_eq _ _ _ (fun a0 a1 => fsh_unstream_Reader_letter lf d a0 a1),
  ⟨fun d => runAr_eq _ _ _ (fun a0 a1 => fsh_unstream_Reader_magic lf d a0 a1),
  ⟨fun d => runAr_eq _ _ _ (fun a0 a1 => fsh_unstream_Reader_body lf d a0 a1),
  ⟨fun d => runAr_eq _ _ _ (fun a0 a1 => fsh_unstream_Reader_sum lf d a0 a1),
  ⟨fun d => runAr_eq _ _ _ (fsh_crc_Table lf d),
  ⟨fun d => runAr_eq _ _ _ (fun a0 a1 => fsh_balerref15_Rotation lf d a0 a1),
  ⟨fun d => runAr_eq _ _ _ (fun a0 a1 a2 => fsh_balerref15_Ahead lf d a0 a1 a2),
  ⟨fun d => runAr_eq _ _ _ (fun a0 a1 => fsh_balerref05_There lf d a0 a1),
  ⟨fun d => runAr_eq _ _ _ (fun a0 => fsh_balerref05_Is lf d a0),
  ⟨fun d => runAr_eq _ _ _ (fun a0 a1 => fsh_balerref06_Place lf d a0 a1),
  ⟨fun d => runAr_eq _ _ _ (fun a0 a1 => fsh_balerref06_Touch lf d a0 a1),
  ⟨fun d => runAr_eq _ _ _ (fun a0 => fsh_balerref07_Row lf d a0),
  ⟨fun d => runAr_eq _ _ _ (fun a0 a1 => fsh_balerref12_Of lf d a0 a1),
  ⟨fun d => runAr_eq _ _ _ (fun a0 a1 => fsh_balerref13_Bits lf d a0 a1),
  ⟨fun d => runAr_eq _ _ _ (fun a0 => fsh_balerref11_Bits lf d a0),
  ⟨fun d => runAr_eq _ _ _ (fun a0 => fsh_balerref10_Codes lf d a0),
  ⟨fun d => runAr_eq _ _ _ (fun a0 => fsh_balerref02_Bits lf d a0),
  ⟨fun d => runAr_eq _ _ _ (fun a0 => fsh_slices_Clone_int_int lf d a0),
  ⟨fun d => runAr_eq _ _ _ (fun a0 => fsh_unbwt_Inverter_begins lf d a0),
  ⟨fun d => runAr_eq _ _ _ (fun a0 a1 a2 => fsh_crc_step lf d a0 a1 a2),
  ⟨fun d => runAr_eq _ _ _ (fun a0 a1 => fsh_bits_Reader_Get lf d a0 a1),
  ⟨fun d => runAr_eq _ _ _ (fun a0 => fsh_block_NewReader lf d a0),
  ⟨fun d => runAr_eq _ _ _ (fun a0 a1 => fsh_block_Reader_Step lf d a0 a1),
  ⟨fun d => runAr_eq _ _ _ (fun a0 => fsh_block_Reader_Done lf d a0),
  ⟨fun d => runAr_eq _ _ _ (fun a0 => fsh_block_Reader_Got lf d a0),
  ⟨fun d => runAr_eq _ _ _ (fun a0 a1 => fsh_crc_Combine lf d a0 a1),
  ⟨fun d => runAr_eq _ _ _ (fun a0 => fsh_bits_Reader_Align lf d a0),
  ⟨fun d => runAr_eq _ _ _ (fun a0 a1 => fsh_balerref12_First lf d a0 a1),
  ⟨fun d => runAr_eq _ _ _ (fun a0 a1 => fsh_balerref08_Counts lf d a0 a1),
  ⟨fun d => runAr_eq _ _ _ (fun a0 => fsh_balerref08_Groups lf d a0),
  ⟨fun d => runAr_eq _ _ _ (fun a0 a1 => fsh_balerref12_pick lf d a0 a1),
  ⟨fun d => runAr_eq _ _ _ (fun a0 => fsh_balerref09_Of lf d a0),
  ⟨fun d => runAr_eq _ _ _ (fun a0 a1 => fsh_balerref10_next lf d a0 a1),
  ⟨fun d => runAr_eq _ _ _ (fun a0 a1 => fsh_internal_stringslite_HasPrefix lf d a0 a1),
  ⟨fun d => runAr_eq _ _ _ (fun a0 a1 => fsh_bits_Reader_bit lf d a0 a1),
  ⟨fun d => runAr_eq _ _ _ (fun a0 a1 => fsh_block_Reader_step lf d a0 a1),
  ⟨fun d => runAr_eq _ _ _ (fun a0 => fsh_balerref12_Number lf d a0),
  ⟨fun d => runAr_eq _ _ _ (fun a0 a1 => fsh_balerref08_count lf d a0 a1),
  ⟨fun d => runAr_eq _ _ _ (fun a0 a1 => fsh_balerref08_Cost lf d a0 a1),
  ⟨fun d => runAr_eq _ _ _ (fun a0 => fsh_balerref09_Depths lf d a0),
  ⟨fun d => runAr_eq _ _ _ (fun a0 a1 a2 => fsh_balerref09_May lf d a0 a1 a2),
  ⟨fun d => runAr_eq _ _ _ (fun a0 => fsh_balerref09_Halved lf d a0),
  ⟨fun d => runAr_eq _ _ _ (fun a0 a1 => fsh_block_Reader_begin lf d a0 a1),
  ⟨fun d => runAr_eq _ _ _ (fun a0 a1 => fsh_block_Reader_symbols lf d a0 a1),
  ⟨fun d => runAr_eq _ _ _ (fun a0 => fsh_block_row_waits lf d a0),
  ⟨fun d => runAr_eq _ _ _ (fun a0 => fsh_block_row_next lf d a0),
  ⟨fun d => runAr_eq _ _ _ (fun a0 a1 => fsh_block_Reader_symbol lf d a0 a1),
  ⟨fun d => runAr_eq _ _ _ (fun a0 => fsh_block_Reader_end lf d a0),
  ⟨fun d => runAr_eq _ _ _ (fun a0 => fsh_balerref08_most lf d a0),
  ⟨fun d => runAr_eq _ _ _ (fun a0 => fsh_balerref09_least lf d a0),
  ⟨fun d => runAr_eq _ _ _ (fun a0 a1 => fsh_balerref09_without lf d a0 a1),
  ⟨fun d => runAr_eq _ _ _ (fun a0 => fsh_used_Read lf d a0),
  ⟨fun d => runAr_eq _ _ _ (fun a0 a1 => fsh_block_rowOf lf d a0 a1),
  ⟨fun d => runAr_eq _ _ _ (fun a0 a1 => fsh_mtf_List_At lf d a0 a1),
  ⟨fun d => runAr_eq _ _ _ (fun a0 a1 => fsh_code_Reader_Step lf d a0 a1),
  ⟨fun d => runAr_eq _ _ _ (fun a0 a1 => fsh_block_row_told lf d a0 a1),
  ⟨fun d => runAr_eq _ _ _ (fun a0 => fsh_code_Reader_Done lf d a0),
  ⟨fun d => runAr_eq _ _ _ (fun a0 a1 => fsh_balerref09_less lf d a0 a1),
  ⟨fun d => runAr_eq _ _ _ (fun a0 => fsh_bits_Reader_At lf d a0),
  ⟨fun d => runAr_eq _ _ _ (fun a0 => fsh_used_read lf d a0),
  ⟨fun d => runAr_eq _ _ _ (fun a0 a1 => fsh_bits_Reader_Seek lf d a0 a1),
  ⟨fun d => runAr_eq _ _ _ (fun a0 => fsh_code_NewReader lf d a0),
  ⟨fun d => runAr_eq _ _ _ (fun a0 a1 => fsh_zeros_NewReader lf d a0 a1),
  ⟨fun d => runAr_eq _ _ _ (fun a0 => fsh_mtf_New lf d a0),
  ⟨fun d => runAr_eq _ _ _ (fun a0 a1 => fsh_mtf_List_touch lf d a0 a1),
  ⟨fun d => runAr_eq _ _ _ (fun a0 a1 => fsh_code_Reader_symbol lf d a0 a1),
  ⟨fun d => runAr_eq _ _ _ (fun a0 => fsh_picks_Reader_Done lf d a0),
  ⟨fun d => runAr_eq _ _ _ (fun a0 a1 => fsh_code_Reader_pick lf d a0 a1),
  ⟨fun d => runAr_eq _ _ _ (fun a0 => fsh_picks_Reader_Tables lf d a0),
  ⟨fun d => runAr_eq _ _ _ (fun a0 a1 => fsh_code_Reader_table lf d a0 a1),
  ⟨fun d => runAr_eq _ _ _ (fun a0 a1 => fsh_zeros_Reader_Put lf d a0 a1),
  ⟨fun d => runAr_eq _ _ _ (fun a0 => fsh_used_marks lf d a0),
  ⟨fun d => runAr_eq _ _ _ (fun a0 => fsh_used_listed lf d a0),
  ⟨fun d => runAr_eq _ _ _ (fun a0 => fsh_delta_NewReader lf d a0),
  ⟨fun d => runAr_eq _ _ _ (fsh_picks_NewReader lf d),
  ⟨fun d => runAr_eq _ _ _ (fun a0 => fsh_zeros_may lf d a0),
  ⟨fun d => runAr_eq _ _ _ (fun a0 => fsh_used_Is lf d a0),
  ⟨fun d => runAr_eq _ _ _ (fun a0 a1 => fsh_canon_Code_Get lf d a0 a1),
  ⟨fun d => runAr_eq _ _ _ (fun a0 a1 => fsh_picks_Reader_Step lf d a0 a1),
  ⟨fun d => runAr_eq _ _ _ (fun a0 a1 => fsh_delta_Reader_Step lf d a0 a1),
  ⟨fun d => runAr_eq _ _ _ (fun a0 => fsh_delta_Reader_Done lf d a0),
  ⟨fun d => runAr_eq _ _ _ (fun a0 => fsh_canon_New lf d a0),
  ⟨fun d => runAr_eq _ _ _ (fun a0 => fsh_delta_Reader_Lens lf d a0),
  ⟨fun d => runAr_eq _ _ _ (fun a0 a1 => fsh_zeros_Reader_more lf d a0 a1),
  ⟨fun d => runAr_eq _ _ _ (fun a0 => fsh_zeros_Reader_Count lf d a0),
  ⟨fun d => runAr_eq _ _ _ (fun a0 => fsh_delta_sized lf d a0),
  ⟨fun d => runAr_eq _ _ _ (fsh_picks_fresh lf d),
  ⟨fun d => runAr_eq _ _ _ (fun a0 a1 => fsh_canon_Code_get lf d a0 a1),
  ⟨fun d => runAr_eq _ _ _ (fun a0 a1 => fsh_picks_Reader_pick lf d a0 a1),
  ⟨fun d => runAr_eq _ _ _ (fun a0 a1 => fsh_picks_Reader_head lf d a0 a1),
  ⟨fun d => runAr_eq _ _ _ (fun a0 a1 => fsh_delta_Reader_step lf d a0 a1),
  ⟨fun d => runAr_eq _ _ _ (fun a0 => fsh_canon_whole lf d a0),
  ⟨fun d => runAr_eq _ _ _ (fun a0 a1 => fsh_picks_order_touch lf d a0 a1),
  ⟨fun d => runAr_eq _ _ _ (fun a0 => fsh_picks_Reader_fail lf d a0),
  ⟨fun d => runAr_eq _ _ _ (fun a0 => fsh_picks_tabled lf d a0),
  ⟨fun d => runAr_eq _ _ _ (fun a0 a1 => fsh_delta_Reader_turned lf d a0 a1),
  ⟨fun d => runAr_eq _ _ _ (fun a0 => fsh_lens_Share lf d a0),
  ⟨fun d => runAr_eq _ _ _ (fun a0 a1 => fsh_slices_Contains_int_int lf d a0 a1),
  ⟨fun d => runAr_eq _ _ _ (fun a0 => fsh_delta_length lf d a0),
  ⟨fun d => runAr_eq _ _ _ (fun a0 a1 a2 => fsh_lens_between lf d a0 a1 a2),
  ⟨fun d => runAr_eq _ _ _ (fun a0 a1 => fsh_slices_Index_int_int lf d a0 a1),
  ⟨fun d => runAr_eq _ _ _ (fun a0 a1 => fsh_slices_ContainsFunc_int_int lf d a0 a1),
  ⟨fun d => runAr_eq _ _ _ (fun a0 a1 a2 => fsh_lens_between_1 lf d a0 a1 a2),
  ⟨fun d => runAr_eq _ _ _ (fun a0 a1 => fsh_slices_IndexFunc_int_int lf d a0 a1), trivial⟩⟩⟩⟩⟩⟩⟩⟩⟩⟩⟩⟩⟩⟩⟩⟩⟩⟩⟩⟩⟩⟩⟩⟩⟩⟩⟩⟩⟩⟩⟩⟩⟩⟩⟩⟩⟩⟩⟩⟩⟩⟩⟩⟩⟩⟩⟩⟩⟩⟩⟩⟩⟩⟩⟩⟩⟩⟩⟩⟩⟩⟩⟩⟩⟩⟩⟩⟩⟩⟩⟩⟩⟩⟩⟩⟩⟩⟩⟩⟩⟩⟩⟩⟩⟩⟩⟩⟩⟩⟩⟩⟩⟩⟩⟩⟩⟩⟩⟩⟩⟩⟩⟩⟩⟩⟩⟩⟩⟩⟩⟩⟩⟩⟩⟩⟩⟩⟩⟩⟩⟩⟩⟩⟩⟩⟩⟩⟩⟩⟩⟩⟩⟩⟩⟩⟩⟩⟩⟩⟩⟩⟩⟩⟩⟩⟩⟩⟩⟩⟩⟩⟩⟩⟩⟩⟩⟩⟩⟩⟩⟩⟩⟩⟩⟩⟩⟩⟩⟩⟩⟩⟩⟩⟩⟩⟩⟩⟩⟩⟩⟩⟩⟩⟩⟩⟩⟩⟩⟩⟩
noncomputable def fast (lf : Nat) : Nat → FuncId → Array Value → M Value := fastT (evC lf) (fTab lf)
theorem fast_eq (lf d : Nat) : fast lf d = evC lf d := fastT_eq (fTab_ok lf) d

end Go.Proofs.YthhhkplbjcknkaaGreat.Fa

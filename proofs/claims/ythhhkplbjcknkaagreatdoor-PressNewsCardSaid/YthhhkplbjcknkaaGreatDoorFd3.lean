/- The functions of the closed test of layer 23 as text that the kernel runs. -/
import Derived.Test.YthhhkplbjcknkaaGreatDoorFd2
namespace Go.Proofs.YthhhkplbjcknkaaGreatDoor.Fa
set_option linter.unusedVariables false
set_option linter.unusedSimpArgs false
open Go Go.RowKit Ev

noncomputable def lpA_balerref06_Place (lf d fu : Nat) (k : KT) (x0 x1 x4 x5 : Value) : M Value := loopK (fun s1 k1 => codeK PP (evC lf d) (gtA 225) lf (codeAt (bodyOf PP 225) [true, false, true, false, false]) s1 k1) [0, 1, 4, 5] fu [(0, x0), (1, x1), (4, x4), (5, x5)] k
noncomputable def kcA_balerref06_Place (lf d : Nat) : KT := contAt PP (evC lf d) (gtA 225) lf (bodyOf PP 225) [true, false, true, false] (endK PP (resOf PP 225))
noncomputable def LA_balerref06_Place (lf d : Nat) (rec : RT) (k : KT) : Nat → Value → Value → Value → Value → M Value
 | 0, _, _, _, _ => M.fail
 | fu + 1, x0, x1, x4, x5 =>
 optK (len2 PP #[9] [x0]) fun v8n1 =>
 optK (q_lss PP 3 x5 v8n1) fun v9n2 =>
 ifV v9n2 (
 optK (index3 PP 9 x0 x5) fun v14n3 =>
 optK (q_eql PP 5 v14n3 x1) fun v16n4 =>
 ifV v16n4 (
 k Ex.ret [(0, x0), (1, x1), (4, x5), (5, x5), (9, v9n2), (16, v16n4)]) (
 optK (q_add PP 3 x5 (Value.int .i64 1)) fun v11n5 =>
 LA_balerref06_Place lf d rec k fu x0 x1 x4 v11n5)) (
 k (Ex.exit 0) [(0, x0), (1, x1), (4, x4), (5, x5), (9, v9n2)])
noncomputable def KA_balerref06_Place (lf d : Nat) (rec : RT) (dflt : KT) : KT := (kEx 0 (runCur [0, 1, 4, 5, 9] (fun y0 y1 y4 y5 y9 =>
 outK [(Value.int .i64 (-1))]) (dflt (Ex.exit 0))) (kRt (runCur [0, 1, 4, 5, 9, 16] (fun y0 y1 y4 y5 y9 y16 =>
 outK [y4]) (dflt Ex.ret)) dflt))
noncomputable def F_balerref06_Place (lf d : Nat) (rec : RT) (a0 a1 : Value) : M Value :=
 LA_balerref06_Place lf d rec (KA_balerref06_Place lf d rec (kcA_balerref06_Place lf d)) lf a0 a1 (Value.int .i64 0) (Value.int .i64 0)
theorem LQA_balerref06_Place (lf d : Nat) (k : KT) : ∀ fu : Nat, LA_balerref06_Place lf d (evC lf d) k fu = lpA_balerref06_Place lf d fu k
  | 0 => by funext x0 x1 x4 x5; kernel_rfl
  | fu + 1 => by
    have ih := LQA_balerref06_Place lf d k fu
    funext x0 x1 x4 x5; simp only [LA_balerref06_Place, ih, clash3_eq, index3_eq (P := PP) Tryz.underlying9, insB_eq, q_add_eq (P := PP) nf3, q_eql_eq (P := PP) nf5, q_lss_eq (P := PP) nf3]; kernel_rfl
set_option maxRecDepth 20000 in
theorem KQA_balerref06_Place (lf d : Nat) : KA_balerref06_Place lf d (evC lf d) (kcA_balerref06_Place lf d) = kcA_balerref06_Place lf d := by
  unfold KA_balerref06_Place
  refine Eq.trans (kEx_eq ?_) ?_
  · exact (runCur_eq _ _ _ (by intro y0 y1 y4 y5 y9; show _ = _; (try simp only [clash3_eq, insB_eq]); kernel_rfl))
  refine Eq.trans (kRt_eq ?_) ?_
  · exact (runCur_eq _ _ _ (by intro y0 y1 y4 y5 y9 y16; show _ = _; (try simp only [clash3_eq, insB_eq]); kernel_rfl))
  rfl
theorem fsh_balerref06_Place (lf d : Nat) (a0 a1 : Value) : inside (F_balerref06_Place lf d (evC lf d) a0 a1) = evC lf (d + 1) 225 #[a0, a1] := by
  unfold F_balerref06_Place; (try simp only [KQA_balerref06_Place lf d, LQA_balerref06_Place, clash3_eq, insB_eq]); kernel_rfl

noncomputable def F_balerref06_Touch (lf d : Nat) (rec : RT) (a0 a1 : Value) : M Value :=
 optK (q_add PP 3 a1 (Value.int .i64 1)) fun v8n1 =>
 slice3 PP 9 a0 (some a1) (some v8n1) none fun v9n2 =>
 slice3 PP 9 a0 none (some a1) none fun v12n3 =>
 optK (qS_add PP 9 v9n2 v12n3) fun v13n4 =>
 optK (q_add PP 3 a1 (Value.int .i64 1)) fun v16n5 =>
 slice3 PP 9 a0 (some v16n5) none none fun v17n6 =>
 optK (qS_add PP 9 v13n4 v17n6) fun v18n7 =>
 outK [v18n7]
theorem fsh_balerref06_Touch (lf d : Nat) (a0 a1 : Value) : inside (F_balerref06_Touch lf d (evC lf d) a0 a1) = evC lf (d + 1) 226 #[a0, a1] := by
  unfold F_balerref06_Touch; (try simp only [clash3_eq, insB_eq, qS_add_eq (P := PP) nf9, q_add_eq (P := PP) nf3, slice3_eq (P := PP) Tryz.underlying9]); kernel_rfl

noncomputable def F_balerref07_Row (lf d : Nat) (rec : RT) (a0 : Value) : M Value :=
 optK (q_eql PP 3 a0 (Value.int .i64 0)) fun v5n1 =>
 ifV v5n1 (
 outK [(Value.slice none 0 0)]) (
 optK (q_rem PP 3 a0 (Value.int .i64 2)) fun v7n2 =>
 optK (q_eql PP 3 v7n2 (Value.int .i64 1)) fun v8n3 =>
 ifV v8n3 (
 insB (evBS3 PP 22 1 [(0, (Value.int .i64 0))]) fun v10n4 =>
 insB (evAppend3 PP 22 (Value.slice none 0 0) v10n4) fun v11n5 =>
 optK (q_sub PP 3 a0 (Value.int .i64 1)) fun v14n6 =>
 optK (q_quo PP 3 v14n6 (Value.int .i64 2)) fun v15n7 =>
 (inside (rec 227 #[v15n7])).bind fun v16n8 =>
 insB (evAppend3 PP 22 v11n5 v16n8) fun v17n9 =>
 outK [v17n9]) (
 insB (evBS3 PP 22 1 [(0, (Value.int .i64 1))]) fun v20n10 =>
 insB (evAppend3 PP 22 (Value.slice none 0 0) v20n10) fun v21n11 =>
 optK (q_sub PP 3 a0 (Value.int .i64 2)) fun v24n12 =>
 optK (q_quo PP 3 v24n12 (Value.int .i64 2)) fun v25n13 =>
 (inside (rec 227 #[v25n13])).bind fun v26n14 =>
 insB (evAppend3 PP 22 v21n11 v26n14) fun v27n15 =>
 outK [v27n15]))
theorem fsh_balerref07_Row (lf d : Nat) (a0 : Value) : inside (F_balerref07_Row lf d (evC lf d) a0) = evC lf (d + 1) 227 #[a0] := by
  unfold F_balerref07_Row; (try simp only [clash3_eq, evAppend3_eq, evBS3_eq, insB_eq, q_eql_eq (P := PP) nf3, q_quo_eq (P := PP) nf3, q_rem_eq (P := PP) nf3, q_sub_eq (P := PP) nf3]); kernel_rfl

noncomputable def lpA_balerref12_Of (lf d fu : Nat) (k : KT) (x0 x1 x4 x5 x6 x24 : Value) : M Value := loopK (fun s1 k1 => codeK PP (evC lf d) (gtA 228) lf (codeAt (bodyOf PP 228) [true, true, true, false, true, false, false]) s1 k1) [0, 1, 4, 5, 6, 24] fu [(0, x0), (1, x1), (4, x4), (5, x5), (6, x6), (24, x24)] k
noncomputable def kcA_balerref12_Of (lf d : Nat) : KT := contAt PP (evC lf d) (gtA 228) lf (bodyOf PP 228) [true, true, true, false, true, false] (endK PP (resOf PP 228))
noncomputable def lpB_balerref12_Of (lf d fu : Nat) (k : KT) (x0 x1 x4 x5 x6 x7 x24 x25 x26 x27 x28 : Value) : M Value := loopK (fun s1 k1 => codeK PP (evC lf d) (gtA 228) lf (codeAt (bodyOf PP 228) [true, true, true, false, true, false, false, true, true, false, false, true, false, true, false, false]) s1 k1) [0, 1, 4, 5, 6, 7, 24, 25, 26, 27, 28] fu [(0, x0), (1, x1), (4, x4), (5, x5), (6, x6), (7, x7), (24, x24), (25, x25), (26, x26), (27, x27), (28, x28)] k
noncomputable def kcB_balerref12_Of (lf d fu : Nat) (k : KT) : KT := contAt PP (evC lf d) (gtA 228) lf (codeAt (bodyOf PP 228) [true, true, true, false, true, false, false]) [true, true, false, false, true, false, true, false] (againK (fun s1 => loopK (fun s1 k1 => codeK PP (evC lf d) (gtA 228) lf (codeAt (bodyOf PP 228) [true, true, true, false, true, false, false]) s1 k1) [0, 1, 4, 5, 6, 24] fu (s1.keep [0, 1, 4, 5, 6, 24]) k) k)
noncomputable def lpC_balerref12_Of (lf d fu : Nat) (k : KT) (x0 x1 x4 x5 x6 x7 x10 x24 x25 x26 x27 x28 x29 x42 x43 : Value) : M Value := loopK (fun s1 k1 => codeK PP (evC lf d) (gtA 228) lf (codeAt (bodyOf PP 228) [true, true, true, false, true, false, false, true, true, false, false, true, true, true, false, true, false, false]) s1 k1) [0, 1, 4, 5, 6, 7, 10, 24, 25, 26, 27, 28, 29, 42, 43] fu [(0, x0), (1, x1), (4, x4), (5, x5), (6, x6), (7, x7), (10, x10), (24, x24), (25, x25), (26, x26), (27, x27), (28, x28), (29, x29), (42, x42), (43, x43)] k
noncomputable def kcC_balerref12_Of (lf d fu : Nat) (k : KT) : KT := contAt PP (evC lf d) (gtA 228) lf (codeAt (bodyOf PP 228) [true, true, true, false, true, false, false]) [true, true, false, false, true, true, true, false, true, false] (againK (fun s1 => loopK (fun s1 k1 => codeK PP (evC lf d) (gtA 228) lf (codeAt (bodyOf PP 228) [true, true, true, false, true, false, false]) s1 k1) [0, 1, 4, 5, 6, 24] fu (s1.keep [0, 1, 4, 5, 6, 24]) k) k)
noncomputable def lpD_balerref12_Of (lf d fu : Nat) (k : KT) (x0 x1 x4 x5 x6 x7 x10 x11 x12 x24 x25 x26 x27 x28 x29 x42 x43 x44 x46 x47 x48 : Value) : M Value := loopK (fun s1 k1 => codeK PP (evC lf d) (gtA 228) lf (codeAt (bodyOf PP 228) [true, true, true, false, true, false, false, true, true, false, false, true, true, true, false, true, false, false, true, true, false, false, true, true, false, true, false, false]) s1 k1) [0, 1, 4, 5, 6, 7, 10, 11, 12, 24, 25, 26, 27, 28, 29, 42, 43, 44, 46, 47, 48] fu [(0, x0), (1, x1), (4, x4), (5, x5), (6, x6), (7, x7), (10, x10), (11, x11), (12, x12), (24, x24), (25, x25), (26, x26), (27, x27), (28, x28), (29, x29), (42, x42), (43, x43), (44, x44), (46, x46), (47, x47), (48, x48)] k
noncomputable def kcD_balerref12_Of (lf d fu : Nat) (k : KT) : KT := contAt PP (evC lf d) (gtA 228) lf (codeAt (bodyOf PP 228) [true, true, true, false, true, false, false, true, true, false, false, true, true, true, false, true, false, false]) [true, true, false, false, true, true, false, true, false] (againK (fun s1 => loopK (fun s1 k1 => codeK PP (evC lf d) (gtA 228) lf (codeAt (bodyOf PP 228) [true, true, true, false, true, false, false, true, true, false, false, true, true, true, false, true, false, false]) s1 k1) [0, 1, 4, 5, 6, 7, 10, 24, 25, 26, 27, 28, 29, 42, 43] fu (s1.keep [0, 1, 4, 5, 6, 7, 10, 24, 25, 26, 27, 28, 29, 42, 43]) k) k)
noncomputable def KA_balerref12_Of (lf d : Nat) (rec : RT) (dflt : KT) : KT := (kEx 0 (runCur [0, 1, 4, 5, 6, 24, 25] (fun y0 y1 y4 y5 y6 y24 y25 =>
 insB (evLoadA3 PP 250 2 y5) fun v75n11 =>
 insB (evStoreA3 PP 250 2 y4 v75n11) fun u12 =>
 (evLoad PP 250 y4).bind fun vrn13 =>
 outK [vrn13]) (dflt (Ex.exit 0))) dflt)
noncomputable def LB_balerref12_Of (lf d : Nat) (rec : RT) (k : KT) : Nat → Value → Value → Value → Value → Value → Value → Value → Value → Value → Value → Value → M Value
 | 0, _, _, _, _, _, _, _, _, _, _, _ => M.fail
 | fu + 1, x0, x1, x4, x5, x6, x7, x24, x25, x26, x27, x28 =>
 optK (q_lss PP 3 x28 x27) fun v29n14 =>
 ifV v29n14 (
 optK (evIA3 PP 72 1 x26 x28) fun v30n15 =>
 insB (evLoad3 PP 22 v30n15) fun v31n16 =>
 optK (evFA3 PP 250 0 x5 0) fun v34n17 =>
 insB (evLoad3 PP 72 v34n17) fun v35n18 =>
 (inside (rec 243 #[v31n16, v35n18])).bind fun v36n19 =>
 insB (evBS3 PP 22 1 [(0, v36n19)]) fun v37n20 =>
 insB (evAppend3 PP 22 x7 v37n20) fun v38n21 =>
 optK (q_add PP 3 x28 (Value.int .i64 1)) fun v39n22 =>
 LB_balerref12_Of lf d rec k fu x0 x1 x4 x5 x6 v38n21 x24 x25 x26 x27 v39n22) (
 k (Ex.exit 2) [(0, x0), (1, x1), (4, x4), (5, x5), (6, x6), (7, x7), (24, x24), (25, x25), (26, x26), (27, x27), (28, x28), (29, v29n14)])
noncomputable def KC_balerref12_Of (lf d : Nat) (rec : RT) (fu : Nat) (k : KT) (again : Value → Value → Value → Value → Value → Value → M Value) (dflt : KT) : KT := (kEx 4 (runCur [0, 1, 4, 5, 6, 7, 10, 24, 25, 26, 27, 28, 29, 42, 43, 44] (fun y0 y1 y4 y5 y6 y7 y10 y24 y25 y26 y27 y28 y29 y42 y43 y44 =>
 insB (evBuildZ PP 250 [Value.slice none 0 0, Value.slice none 0 0] [(0, y10), (1, y7)]) fun v73n28 =>
 insB (evStoreA3 PP 250 2 y5 v73n28) fun u29 =>
 optK (q_add PP 3 y24 (Value.int .i64 1)) fun v74n30 =>
 again y0 y1 y4 y5 y6 v74n30) (dflt (Ex.exit 4))) dflt)
noncomputable def LD_balerref12_Of (lf d : Nat) (rec : RT) (k : KT) : Nat → Value → Value → Value → Value → Value → Value → Value → Value → Value → Value → Value → Value → Value → Value → Value → Value → Value → Value → Value → Value → Value → M Value
 | 0, _, _, _, _, _, _, _, _, _, _, _, _, _, _, _, _, _, _, _, _, _ => M.fail
 | fu + 1, x0, x1, x4, x5, x6, x7, x10, x11, x12, x24, x25, x26, x27, x28, x29, x42, x43, x44, x46, x47, x48 =>
 optK (q_lss PP 3 x48 x47) fun v49n31 =>
 ifV v49n31 (
 optK (evIA3 PP 72 1 x46 x48) fun v51n32 =>
 insB (evLoad3 PP 22 v51n32) fun v52n33 =>
 optK (evIA3 PP 22 1 x7 x48) fun v55n34 =>
 insB (evLoad3 PP 3 v55n34) fun v56n35 =>
 optK (q_eql PP 3 v56n35 x11) fun v58n36 =>
 ifV v58n36 (
 insB (evAppend3 PP 22 x12 v52n33) fun v61n37 =>
 optK (q_add PP 3 x48 (Value.int .i64 1)) fun v62n38 =>
 LD_balerref12_Of lf d rec k fu x0 x1 x4 x5 x6 x7 x10 x11 v61n37 x24 x25 x26 x27 x28 x29 x42 x43 x44 x46 x47 v62n38) (
 optK (q_add PP 3 x48 (Value.int .i64 1)) fun v62n39 =>
 LD_balerref12_Of lf d rec k fu x0 x1 x4 x5 x6 x7 x10 x11 x12 x24 x25 x26 x27 x28 x29 x42 x43 x44 x46 x47 v62n39)) (
 k (Ex.exit 6) [(0, x0), (1, x1), (4, x4), (5, x5), (6, x6), (7, x7), (10, x10), (11, x11), (12, x12), (24, x24), (25, x25), (26, x26), (27, x27), (28, x28), (29, x29), (42, x42), (43, x43), (44, x44), (46, x46), (47, x47), (48, x48), (49, v49n31)])
noncomputable def KD_balerref12_Of (lf d : Nat) (rec : RT) (fu : Nat) (k : KT) (again : Value → Value → Value → Value → Value → Value → Value → Value → Value → Value → Value → Value → Value → Value → Value → M Value) (dflt : KT) : KT := (kEx 6 (runCur [0, 1, 4, 5, 6, 7, 10, 11, 12, 24, 25, 26, 27, 28, 29, 42, 43, 44, 46, 47, 48, 49] (fun y0 y1 y4 y5 y6 y7 y10 y11 y12 y24 y25 y26 y27 y28 y29 y42 y43 y44 y46 y47 y48 y49 =>
 (inside (rec 241 #[y12, y1])).bind fun v66n40 =>
 (inside (rec 244 #[v66n40])).bind fun v67n41 =>
 insB (evBS3 PP 72 1 [(0, v67n41)]) fun v68n42 =>
 insB (evAppend3 PP 72 y10 v68n42) fun v69n43 =>
 optK (q_add PP 3 y43 (Value.int .i64 1)) fun v70n44 =>
 again y0 y1 y4 y5 y6 y7 v69n43 y24 y25 y26 y27 y28 y29 y42 v70n44) (dflt (Ex.exit 6))) dflt)
noncomputable def LC_balerref12_Of (lf d : Nat) (rec : RT) (k : KT) : Nat → Value → Value → Value → Value → Value → Value → Value → Value → Value → Value → Value → Value → Value → Value → Value → M Value
 | 0, _, _, _, _, _, _, _, _, _, _, _, _, _, _, _ => M.fail
 | fu + 1, x0, x1, x4, x5, x6, x7, x10, x24, x25, x26, x27, x28, x29, x42, x43 =>
 optK (q_lss PP 3 x43 x42) fun v44n26 =>
 ifV v44n26 (
 optK (len2 PP #[72] [x6]) fun v47n27 =>
 LD_balerref12_Of lf d rec (KD_balerref12_Of lf d rec fu k (LC_balerref12_Of lf d rec k fu) (kcD_balerref12_Of lf d fu k)) lf x0 x1 x4 x5 x6 x7 x10 x43 (Value.slice none 0 0) x24 x25 x26 x27 x28 x29 x42 x43 v44n26 x6 v47n27 (Value.int .i64 0)) (
 k (Ex.exit 4) [(0, x0), (1, x1), (4, x4), (5, x5), (6, x6), (7, x7), (10, x10), (24, x24), (25, x25), (26, x26), (27, x27), (28, x28), (29, x29), (42, x42), (43, x43), (44, v44n26)])
noncomputable def KB_balerref12_Of (lf d : Nat) (rec : RT) (fu : Nat) (k : KT) (again : Value → Value → Value → Value → Value → Value → M Value) (dflt : KT) : KT := (kEx 2 (runCur [0, 1, 4, 5, 6, 7, 24, 25, 26, 27, 28, 29] (fun y0 y1 y4 y5 y6 y7 y24 y25 y26 y27 y28 y29 =>
 optK (evFA3 PP 250 0 y5 0) fun v40n23 =>
 insB (evLoad3 PP 72 v40n23) fun v41n24 =>
 optK (len2 PP #[72] [v41n24]) fun v42n25 =>
 LC_balerref12_Of lf d rec (KC_balerref12_Of lf d rec fu k again (kcC_balerref12_Of lf d fu k)) lf y0 y1 y4 y5 y6 y7 (Value.slice none 0 0) y24 y25 y26 y27 y28 y29 v42n25 (Value.int .i64 0)) (dflt (Ex.exit 2))) dflt)
noncomputable def LA_balerref12_Of (lf d : Nat) (rec : RT) (k : KT) : Nat → Value → Value → Value → Value → Value → Value → M Value
 | 0, _, _, _, _, _, _ => M.fail
 | fu + 1, x0, x1, x4, x5, x6, x24 =>
 optK (q_lss PP 3 x24 (Value.int .i64 4)) fun v25n9 =>
 ifV v25n9 (
 optK (len2 PP #[72] [x6]) fun v27n10 =>
 LB_balerref12_Of lf d rec (KB_balerref12_Of lf d rec fu k (LA_balerref12_Of lf d rec k fu) (kcB_balerref12_Of lf d fu k)) lf x0 x1 x4 x5 x6 (Value.slice none 0 0) x24 v25n9 x6 v27n10 (Value.int .i64 0)) (
 k (Ex.exit 0) [(0, x0), (1, x1), (4, x4), (5, x5), (6, x6), (24, x24), (25, v25n9)])
noncomputable def F_balerref12_Of (lf d : Nat) (rec : RT) (a0 a1 : Value) : M Value :=
 insB (evAllocZ 250 [Value.slice none 0 0, Value.slice none 0 0]) fun v4n1 =>
 (inside (rec 241 #[a0, a1])).bind fun v17n2 =>
 optK (len2 PP #[22] [a0]) fun v19n3 =>
 (inside (rec 240 #[v17n2, v19n3])).bind fun v20n4 =>
 insB (evBuildZ PP 250 [Value.slice none 0 0, Value.slice none 0 0] [(0, v20n4)]) fun v21n5 =>
 insB (evAllocZ 250 [Value.slice none 0 0, Value.slice none 0 0]) fun v5n6 =>
 insB (evStoreA3 PP 250 2 v5n6 v21n5) fun u7 =>
 (inside (rec 242 #[a0])).bind fun v23n8 =>
 LA_balerref12_Of lf d rec (KA_balerref12_Of lf d rec (kcA_balerref12_Of lf d)) lf a0 a1 v4n1 v5n6 v23n8 (Value.int .i64 0)
set_option maxRecDepth 20000 in
theorem KQA_balerref12_Of (lf d : Nat) : KA_balerref12_Of lf d (evC lf d) (kcA_balerref12_Of lf d) = kcA_balerref12_Of lf d := by
  unfold KA_balerref12_Of
  refine Eq.trans (kEx_eq ?_) ?_
  · exact (runCur_eq _ _ _ (by intro y0 y1 y4 y5 y6 y24 y25; show _ = _; (try simp only [clash3_eq, evLoadA3_eq (P := PP) ga250 gs250, evStoreA3_eq (P := PP) gs250, insB_eq]); kernel_rfl))
  rfl
theorem LQB_balerref12_Of (lf d : Nat) (k : KT) : ∀ fu : Nat, LB_balerref12_Of lf d (evC lf d) k fu = lpB_balerref12_Of lf d fu k
  | 0 => by funext x0 x1 x4 x5 x6 x7 x24 x25 x26 x27 x28; kernel_rfl
  | fu + 1 => by
    have ih := LQB_balerref12_Of lf d k fu
    funext x0 x1 x4 x5 x6 x7 x24 x25 x26 x27 x28; simp only [LB_balerref12_Of, ih, clash3_eq, evAppend3_eq, evBS3_eq, evFA3_eq (P := PP) gf250f0, evIA3_eq (P := PP) Tryz.underlying72 gs22, evLoad3_eq (P := PP) ga22, evLoad3_eq (P := PP) ga72, insB_eq, q_add_eq (P := PP) nf3, q_lss_eq (P := PP) nf3]; kernel_rfl
set_option maxRecDepth 20000 in
theorem KQC_balerref12_Of (lf d fu : Nat) (k : KT) (again : Value → Value → Value → Value → Value → Value → M Value) (ha : again = lpA_balerref12_Of lf d fu k) : KC_balerref12_Of lf d (evC lf d) fu k again (kcC_balerref12_Of lf d fu k) = kcC_balerref12_Of lf d fu k := by
  subst ha
  unfold KC_balerref12_Of
  refine Eq.trans (kEx_eq ?_) ?_
  · exact (runCur_eq _ _ _ (by intro y0 y1 y4 y5 y6 y7 y10 y24 y25 y26 y27 y28 y29 y42 y43 y44; show _ = _; (try simp only [bz250, clash3_eq, evStoreA3_eq (P := PP) gs250, insB_eq, q_add_eq (P := PP) nf3]); kernel_rfl))
  rfl
theorem LQD_balerref12_Of (lf d : Nat) (k : KT) : ∀ fu : Nat, LD_balerref12_Of lf d (evC lf d) k fu = lpD_balerref12_Of lf d fu k
  | 0 => by funext x0 x1 x4 x5 x6 x7 x10 x11 x12 x24 x25 x26 x27 x28 x29 x42 x43 x44 x46 x47 x48; kernel_rfl
  | fu + 1 => by
    have ih := LQD_balerref12_Of lf d k fu
    funext x0 x1 x4 x5 x6 x7 x10 x11 x12 x24 x25 x26 x27 x28 x29 x42 x43 x44 x46 x47 x48; simp only [LD_balerref12_Of, ih, clash3_eq, evAppend3_eq, evIA3_eq (P := PP) Tryz.underlying22 gs3, evIA3_eq (P := PP) Tryz.underlying72 gs22, evLoad3_eq (P := PP) ga22, evLoad3_eq (P := PP) ga3, insB_eq, q_add_eq (P := PP) nf3, q_eql_eq (P := PP) nf3, q_lss_eq (P := PP) nf3]; kernel_rfl
set_option maxRecDepth 20000 in
theorem KQD_balerref12_Of (lf d fu : Nat) (k : KT) (again : Value → Value → Value → Value → Value → Value → Value → Value → Value → Value → Value → Value → Value → Value → Value → M Value) (ha : again = lpC_balerref12_Of lf d fu k) : KD_balerref12_Of lf d (evC lf d) fu k again (kcD_balerref12_Of lf d fu k) = kcD_balerref12_Of lf d fu k := by
  subst ha
  unfold KD_balerref12_Of
  refine Eq.trans (kEx_eq ?_) ?_
  · exact (runCur_eq _ _ _ (by intro y0 y1 y4 y5 y6 y7 y10 y11 y12 y24 y25 y26 y27 y28 y29 y42 y43 y44 y46 y47 y48 y49; show _ = _; (try simp only [clash3_eq, evAppend3_eq, evBS3_eq, insB_eq, q_add_eq (P := PP) nf3]); kernel_rfl))
  rfl
theorem LQC_balerref12_Of (lf d : Nat) (k : KT) : ∀ fu : Nat, LC_balerref12_Of lf d (evC lf d) k fu = lpC_balerref12_Of lf d fu k
  | 0 => by funext x0 x1 x4 x5 x6 x7 x10 x24 x25 x26 x27 x28 x29 x42 x43; kernel_rfl
  | fu + 1 => by
    have ih := LQC_balerref12_Of lf d k fu
    funext x0 x1 x4 x5 x6 x7 x10 x24 x25 x26 x27 x28 x29 x42 x43; simp only [LC_balerref12_Of, ih, KQD_balerref12_Of lf d fu k _ rfl, LQD_balerref12_Of, clash3_eq, insB_eq, q_lss_eq (P := PP) nf3]; kernel_rfl
set_option maxRecDepth 20000 in
theorem KQB_balerref12_Of (lf d fu : Nat) (k : KT) (again : Value → Value → Value → Value → Value → Value → M Value) (ha : again = lpA_balerref12_Of lf d fu k) : KB_balerref12_Of lf d (evC lf d) fu k again (kcB_balerref12_Of lf d fu k) = kcB_balerref12_Of lf d fu k := by
  subst ha
  unfold KB_balerref12_Of
  refine Eq.trans (kEx_eq ?_) ?_
  · exact (runCur_eq _ _ _ (by intro y0 y1 y4 y5 y6 y7 y24 y25 y26 y27 y28 y29; show _ = _; (try simp only [KQC_balerref12_Of lf d fu k _ rfl, LQC_balerref12_Of, clash3_eq, evFA3_eq (P := PP) gf250f0, evLoad3_eq (P := PP) ga72, insB_eq]); kernel_rfl))
  rfl
theorem LQA_balerref12_Of (lf d : Nat) (k : KT) : ∀ fu : Nat, LA_balerref12_Of lf d (evC lf d) k fu = lpA_balerref12_Of lf d fu k
  | 0 => by funext x0 x1 x4 x5 x6 x24; kernel_rfl
  | fu + 1 => by
    have ih := LQA_balerref12_Of lf d k fu
    funext x0 x1 x4 x5 x6 x24; simp only [LA_balerref12_Of, ih, KQB_balerref12_Of lf d fu k _ rfl, LQB_balerref12_Of, clash3_eq, insB_eq, q_lss_eq (P := PP) nf3]; kernel_rfl
theorem fsh_balerref12_Of (lf d : Nat) (a0 a1 : Value) : inside (F_balerref12_Of lf d (evC lf d) a0 a1) = evC lf (d + 1) 228 #[a0, a1] := by
  unfold F_balerref12_Of; (try simp only [KQA_balerref12_Of lf d, LQA_balerref12_Of, az250, bz250, clash3_eq, evStoreA3_eq (P := PP) gs250, insB_eq]); kernel_rfl

noncomputable def lpA_balerref13_Bits (lf d fu : Nat) (k : KT) (x0 x1 x4 x5 x6 x18 x19 x20 : Value) : M Value := loopK (fun s1 k1 => codeK PP (evC lf d) (gtA 229) lf (codeAt (bodyOf PP 229) [true, true, true, false, true, false, false]) s1 k1) [0, 1, 4, 5, 6, 18, 19, 20] fu [(0, x0), (1, x1), (4, x4), (5, x5), (6, x6), (18, x18), (19, x19), (20, x20)] k
noncomputable def kcA_balerref13_Bits (lf d : Nat) : KT := contAt PP (evC lf d) (gtA 229) lf (bodyOf PP 229) [true, true, true, false, true, false] (endK PP (resOf PP 229))
noncomputable def LA_balerref13_Bits (lf d : Nat) (rec : RT) (k : KT) : Nat → Value → Value → Value → Value → Value → Value → Value → Value → M Value
 | 0, _, _, _, _, _, _, _, _ => M.fail
 | fu + 1, x0, x1, x4, x5, x6, x18, x19, x20 =>
 optK (q_lss PP 3 x20 x19) fun v21n8 =>
 ifV v21n8 (
 optK (evIA3 PP 22 1 x18 x20) fun v22n9 =>
 insB (evLoad3 PP 3 v22n9) fun v23n10 =>
 optK (index3 PP 9 (Value.string { data := #[48, 49, 50, 51, 52, 53] }) v23n10) fun v26n11 =>
 (inside (rec 225 #[x6, v26n11])).bind fun v27n12 =>
 (inside (rec 226 #[x6, v27n12])).bind fun v30n13 =>
 slice3 PP 9 (Value.string { data := #[49, 49, 49, 49, 49, 49] }) none (some v27n12) none fun v33n14 =>
 optK (qS_add PP 9 x5 v33n14) fun v34n15 =>
 optK (qS_add PP 9 v34n15 (Value.string { data := #[48] })) fun v35n16 =>
 optK (q_add PP 3 x20 (Value.int .i64 1)) fun v36n17 =>
 LA_balerref13_Bits lf d rec k fu x0 x1 x4 v35n16 v30n13 x18 x19 v36n17) (
 k (Ex.exit 0) [(0, x0), (1, x1), (4, x4), (5, x5), (6, x6), (18, x18), (19, x19), (20, x20), (21, v21n8)])
noncomputable def KA_balerref13_Bits (lf d : Nat) (rec : RT) (dflt : KT) : KT := (kEx 0 (runCur [0, 1, 4, 5, 6, 18, 19, 20, 21] (fun y0 y1 y4 y5 y6 y18 y19 y20 y21 =>
 outK [y5]) (dflt (Ex.exit 0))) dflt)
noncomputable def F_balerref13_Bits (lf d : Nat) (rec : RT) (a0 a1 : Value) : M Value :=
 conv3 PP 3 38 .i64 .u32 a1 fun v11n1 =>
 (inside (rec 167 #[v11n1, (Value.int .i64 3)])).bind fun v12n2 =>
 optK (len2 PP #[22] [a0]) fun v14n3 =>
 conv3 PP 3 38 .i64 .u32 v14n3 fun v15n4 =>
 (inside (rec 167 #[v15n4, (Value.int .i64 15)])).bind fun v16n5 =>
 optK (qS_add PP 9 v12n2 v16n5) fun v17n6 =>
 optK (len2 PP #[22] [a0]) fun v19n7 =>
 LA_balerref13_Bits lf d rec (KA_balerref13_Bits lf d rec (kcA_balerref13_Bits lf d)) lf a0 a1 (Value.string { data := #[] }) v17n6 (Value.string { data := #[48, 49, 50, 51, 52, 53] }) a0 v19n7 (Value.int .i64 0)
theorem LQA_balerref13_Bits (lf d : Nat) (k : KT) : ∀ fu : Nat, LA_balerref13_Bits lf d (evC lf d) k fu = lpA_balerref13_Bits lf d fu k
  | 0 => by funext x0 x1 x4 x5 x6 x18 x19 x20; kernel_rfl
  | fu + 1 => by
    have ih := LQA_balerref13_Bits lf d k fu
    funext x0 x1 x4 x5 x6 x18 x19 x20; simp only [LA_balerref13_Bits, ih, clash3_eq, evIA3_eq (P := PP) Tryz.underlying22 gs3, evLoad3_eq (P := PP) ga3, index3_eq (P := PP) Tryz.underlying9, insB_eq, qS_add_eq (P := PP) nf9, q_add_eq (P := PP) nf3, q_lss_eq (P := PP) nf3, slice3_eq (P := PP) Tryz.underlying9]; kernel_rfl
set_option maxRecDepth 20000 in
theorem KQA_balerref13_Bits (lf d : Nat) : KA_balerref13_Bits lf d (evC lf d) (kcA_balerref13_Bits lf d) = kcA_balerref13_Bits lf d := by
  unfold KA_balerref13_Bits
  refine Eq.trans (kEx_eq ?_) ?_
  · exact (runCur_eq _ _ _ (by intro y0 y1 y4 y5 y6 y18 y19 y20 y21; show _ = _; (try simp only [clash3_eq, insB_eq]); kernel_rfl))
  rfl
theorem fsh_balerref13_Bits (lf d : Nat) (a0 a1 : Value) : inside (F_balerref13_Bits lf d (evC lf d) a0 a1) = evC lf (d + 1) 229 #[a0, a1] := by
  unfold F_balerref13_Bits; (try simp only [KQA_balerref13_Bits lf d, LQA_balerref13_Bits, clash3_eq, conv3_eq cw3x38, insB_eq, qS_add_eq (P := PP) nf9]); kernel_rfl

noncomputable def lpA_balerref11_Bits (lf d fu : Nat) (k : KT) (x0 x2 x3 x4 x16 x17 x18 : Value) : M Value := loopK (fun s1 k1 => codeK PP (evC lf d) (gtA 230) lf (codeAt (bodyOf PP 230) [true, true, true, false, true, false, false]) s1 k1) [0, 2, 3, 4, 16, 17, 18] fu [(0, x0), (2, x2), (3, x3), (4, x4), (16, x16), (17, x17), (18, x18)] k
noncomputable def kcA_balerref11_Bits (lf d : Nat) : KT := contAt PP (evC lf d) (gtA 230) lf (bodyOf PP 230) [true, true, true, false, true, false] (endK PP (resOf PP 230))
noncomputable def lpB_balerref11_Bits (lf d fu : Nat) (k : KT) (x0 x2 x3 x4 x6 x16 x17 x18 x19 x22 : Value) : M Value := loopK (fun s1 k1 => codeK PP (evC lf d) (gtA 230) lf (codeAt (bodyOf PP 230) [true, true, true, false, true, false, false, true, true, false, false, true, false, true, false, false]) s1 k1) [0, 2, 3, 4, 6, 16, 17, 18, 19, 22] fu [(0, x0), (2, x2), (3, x3), (4, x4), (6, x6), (16, x16), (17, x17), (18, x18), (19, x19), (22, x22)] k
noncomputable def kcB_balerref11_Bits (lf d fu : Nat) (k : KT) : KT := contAt PP (evC lf d) (gtA 230) lf (codeAt (bodyOf PP 230) [true, true, true, false, true, false, false]) [true, true, false, false, true, false, true, false] (againK (fun s1 => loopK (fun s1 k1 => codeK PP (evC lf d) (gtA 230) lf (codeAt (bodyOf PP 230) [true, true, true, false, true, false, false]) s1 k1) [0, 2, 3, 4, 16, 17, 18] fu (s1.keep [0, 2, 3, 4, 16, 17, 18]) k) k)
noncomputable def KA_balerref11_Bits (lf d : Nat) (rec : RT) (dflt : KT) : KT := (kEx 0 (runCur [0, 2, 3, 4, 16, 17, 18, 19] (fun y0 y2 y3 y4 y16 y17 y18 y19 =>
 outK [y3]) (dflt (Ex.exit 0))) dflt)
noncomputable def LB_balerref11_Bits (lf d : Nat) (rec : RT) (k : KT) : Nat → Value → Value → Value → Value → Value → Value → Value → Value → Value → Value → M Value
 | 0, _, _, _, _, _, _, _, _, _, _ => M.fail
 | fu + 1, x0, x2, x3, x4, x6, x16, x17, x18, x19, x22 =>
 optK (q_lss PP 3 x22 (Value.int .i64 40)) fun v23n11 =>
 ifV v23n11 (
 optK (q_sub PP 3 x6 x4) fun v28n12 =>
 optK (q_lss PP 3 x22 v28n12) fun v29n13 =>
 ifV v29n13 (
 optK (qS_add PP 9 x3 (Value.string { data := #[49, 48] })) fun v31n14 =>
 optK (q_sub PP 3 x4 x6) fun v35n15 =>
 optK (q_lss PP 3 x22 v35n15) fun v36n16 =>
 ifV v36n16 (
 optK (qS_add PP 9 v31n14 (Value.string { data := #[49, 49] })) fun v38n17 =>
 optK (q_add PP 3 x22 (Value.int .i64 1)) fun v39n18 =>
 LB_balerref11_Bits lf d rec k fu x0 x2 v38n17 x4 x6 x16 x17 x18 x19 v39n18) (
 optK (q_add PP 3 x22 (Value.int .i64 1)) fun v39n19 =>
 LB_balerref11_Bits lf d rec k fu x0 x2 v31n14 x4 x6 x16 x17 x18 x19 v39n19)) (
 optK (q_sub PP 3 x4 x6) fun v35n20 =>
 optK (q_lss PP 3 x22 v35n20) fun v36n21 =>
 ifV v36n21 (
 optK (qS_add PP 9 x3 (Value.string { data := #[49, 49] })) fun v38n22 =>
 optK (q_add PP 3 x22 (Value.int .i64 1)) fun v39n23 =>
 LB_balerref11_Bits lf d rec k fu x0 x2 v38n22 x4 x6 x16 x17 x18 x19 v39n23) (
 optK (q_add PP 3 x22 (Value.int .i64 1)) fun v39n24 =>
 LB_balerref11_Bits lf d rec k fu x0 x2 x3 x4 x6 x16 x17 x18 x19 v39n24))) (
 k (Ex.exit 2) [(0, x0), (2, x2), (3, x3), (4, x4), (6, x6), (16, x16), (17, x17), (18, x18), (19, x19), (22, x22), (23, v23n11)])
noncomputable def KB_balerref11_Bits (lf d : Nat) (rec : RT) (fu : Nat) (k : KT) (again : Value → Value → Value → Value → Value → Value → Value → M Value) (dflt : KT) : KT := (kEx 2 (runCur [0, 2, 3, 4, 6, 16, 17, 18, 19, 22, 23] (fun y0 y2 y3 y4 y6 y16 y17 y18 y19 y22 y23 =>
 optK (qS_add PP 9 y3 (Value.string { data := #[48] })) fun v41n25 =>
 optK (q_add PP 3 y18 (Value.int .i64 1)) fun v43n26 =>
 again y0 y2 v41n25 y6 y16 y17 v43n26) (dflt (Ex.exit 2))) dflt)
noncomputable def LA_balerref11_Bits (lf d : Nat) (rec : RT) (k : KT) : Nat → Value → Value → Value → Value → Value → Value → Value → M Value
 | 0, _, _, _, _, _, _, _ => M.fail
 | fu + 1, x0, x2, x3, x4, x16, x17, x18 =>
 optK (q_lss PP 3 x18 x17) fun v19n8 =>
 ifV v19n8 (
 optK (evIA3 PP 22 1 x16 x18) fun v20n9 =>
 insB (evLoad3 PP 3 v20n9) fun v21n10 =>
 LB_balerref11_Bits lf d rec (KB_balerref11_Bits lf d rec fu k (LA_balerref11_Bits lf d rec k fu) (kcB_balerref11_Bits lf d fu k)) lf x0 x2 x3 x4 v21n10 x16 x17 x18 v19n8 (Value.int .i64 0)) (
 k (Ex.exit 0) [(0, x0), (2, x2), (3, x3), (4, x4), (16, x16), (17, x17), (18, x18), (19, v19n8)])
noncomputable def F_balerref11_Bits (lf d : Nat) (rec : RT) (a0 : Value) : M Value :=
 optK (evIA3 PP 22 1 a0 (Value.int .i64 0)) fun v9n1 =>
 insB (evLoad3 PP 3 v9n1) fun v10n2 =>
 conv3 PP 3 38 .i64 .u32 v10n2 fun v11n3 =>
 (inside (rec 167 #[v11n3, (Value.int .i64 5)])).bind fun v12n4 =>
 optK (evIA3 PP 22 1 a0 (Value.int .i64 0)) fun v14n5 =>
 insB (evLoad3 PP 3 v14n5) fun v15n6 =>
 optK (len2 PP #[22] [a0]) fun v17n7 =>
 LA_balerref11_Bits lf d rec (KA_balerref11_Bits lf d rec (kcA_balerref11_Bits lf d)) lf a0 (Value.string { data := #[] }) v12n4 v15n6 a0 v17n7 (Value.int .i64 0)
set_option maxRecDepth 20000 in
theorem KQA_balerref11_Bits (lf d : Nat) : KA_balerref11_Bits lf d (evC lf d) (kcA_balerref11_Bits lf d) = kcA_balerref11_Bits lf d := by
  unfold KA_balerref11_Bits
  refine Eq.trans (kEx_eq ?_) ?_
  · exact (runCur_eq _ _ _ (by intro y0 y2 y3 y4 y16 y17 y18 y19; show _ = _; (try simp only [clash3_eq, insB_eq]); kernel_rfl))
  rfl
theorem LQB_balerref11_Bits (lf d : Nat) (k : KT) : ∀ fu : Nat, LB_balerref11_Bits lf d (evC lf d) k fu = lpB_balerref11_Bits lf d fu k
  | 0 => by funext x0 x2 x3 x4 x6 x16 x17 x18 x19 x22; kernel_rfl
  | fu + 1 => by
    have ih := LQB_balerref11_Bits lf d k fu
    funext x0 x2 x3 x4 x6 x16 x17 x18 x19 x22; simp only [LB_balerref11_Bits, ih, clash3_eq, insB_eq, qS_add_eq (P := PP) nf9, q_add_eq (P := PP) nf3, q_lss_eq (P := PP) nf3, q_sub_eq (P := PP) nf3]; kernel_rfl
set_option maxRecDepth 20000 in
theorem KQB_balerref11_Bits (lf d fu : Nat) (k : KT) (again : Value → Value → Value → Value → Value → Value → Value → M Value) (ha : again = lpA_balerref11_Bits lf d fu k) : KB_balerref11_Bits lf d (evC lf d) fu k again (kcB_balerref11_Bits lf d fu k) = kcB_balerref11_Bits lf d fu k := by
  subst ha
  unfold KB_balerref11_Bits
  refine Eq.trans (kEx_eq ?_) ?_
  · exact (runCur_eq _ _ _ (by intro y0 y2 y3 y4 y6 y16 y17 y18 y19 y22 y23; show _ = _; (try simp only [clash3_eq, insB_eq, qS_add_eq (P := PP) nf9, q_add_eq (P := PP) nf3]); kernel_rfl))
  rfl
theorem LQA_balerref11_Bits (lf d : Nat) (k : KT) : ∀ fu : Nat, LA_balerref11_Bits lf d (evC lf d) k fu = lpA_balerref11_Bits lf d fu k
  | 0 => by funext x0 x2 x3 x4 x16 x17 x18; kernel_rfl
  | fu + 1 => by
    have ih := LQA_balerref11_Bits lf d k fu
    funext x0 x2 x3 x4 x16 x17 x18; simp only [LA_balerref11_Bits, ih, KQB_balerref11_Bits lf d fu k _ rfl, LQB_balerref11_Bits, clash3_eq, evIA3_eq (P := PP) Tryz.underlying22 gs3, evLoad3_eq (P := PP) ga3, insB_eq, q_lss_eq (P := PP) nf3]; kernel_rfl
theorem fsh_balerref11_Bits (lf d : Nat) (a0 : Value) : inside (F_balerref11_Bits lf d (evC lf d) a0) = evC lf (d + 1) 230 #[a0] := by
  unfold F_balerref11_Bits; (try simp only [KQA_balerref11_Bits lf d, LQA_balerref11_Bits, clash3_eq, conv3_eq cw3x38, evIA3_eq (P := PP) Tryz.underlying22 gs3, evLoad3_eq (P := PP) ga3, insB_eq]); kernel_rfl

noncomputable def lpA_balerref10_Codes (lf d fu : Nat) (k : KT) (x0 x2 x3 x4 x5 : Value) : M Value := loopK (fun s1 k1 => codeK PP (evC lf d) (gtA 231) lf (codeAt (bodyOf PP 231) [true, true, true, false, true, false, false]) s1 k1) [0, 2, 3, 4, 5] fu [(0, x0), (2, x2), (3, x3), (4, x4), (5, x5)] k
noncomputable def kcA_balerref10_Codes (lf d : Nat) : KT := contAt PP (evC lf d) (gtA 231) lf (bodyOf PP 231) [true, true, true, false, true, false] (endK PP (resOf PP 231))
noncomputable def lpB_balerref10_Codes (lf d fu : Nat) (k : KT) (x0 x2 x3 x4 x5 x12 x15 x16 x17 : Value) : M Value := loopK (fun s1 k1 => codeK PP (evC lf d) (gtA 231) lf (codeAt (bodyOf PP 231) [true, true, true, false, true, false, false, true, false, false, true, false, false]) s1 k1) [0, 2, 3, 4, 5, 12, 15, 16, 17] fu [(0, x0), (2, x2), (3, x3), (4, x4), (5, x5), (12, x12), (15, x15), (16, x16), (17, x17)] k
noncomputable def kcB_balerref10_Codes (lf d fu : Nat) (k : KT) : KT := contAt PP (evC lf d) (gtA 231) lf (codeAt (bodyOf PP 231) [true, true, true, false, true, false, false]) [true, false, false, true, false] (againK (fun s1 => loopK (fun s1 k1 => codeK PP (evC lf d) (gtA 231) lf (codeAt (bodyOf PP 231) [true, true, true, false, true, false, false]) s1 k1) [0, 2, 3, 4, 5] fu (s1.keep [0, 2, 3, 4, 5]) k) k)
noncomputable def lpC_balerref10_Codes (lf d fu : Nat) (k : KT) (x0 x2 x3 x4 x5 x6 x7 x12 x15 x16 x17 x18 x24 x26 x27 x28 : Value) : M Value := loopK (fun s1 k1 => codeK PP (evC lf d) (gtA 231) lf (codeAt (bodyOf PP 231) [true, true, true, false, true, false, false, true, false, false, true, false, false, true, true, false, false, true, true, false, true, false, true, false, false]) s1 k1) [0, 2, 3, 4, 5, 6, 7, 12, 15, 16, 17, 18, 24, 26, 27, 28] fu [(0, x0), (2, x2), (3, x3), (4, x4), (5, x5), (6, x6), (7, x7), (12, x12), (15, x15), (16, x16), (17, x17), (18, x18), (24, x24), (26, x26), (27, x27), (28, x28)] k
noncomputable def kcC_balerref10_Codes (lf d fu : Nat) (k : KT) : KT := contAt PP (evC lf d) (gtA 231) lf (codeAt (bodyOf PP 231) [true, true, true, false, true, false, false, true, false, false, true, false, false]) [true, true, false, false, true, true, false, true, false, true, false] (againK (fun s1 => loopK (fun s1 k1 => codeK PP (evC lf d) (gtA 231) lf (codeAt (bodyOf PP 231) [true, true, true, false, true, false, false, true, false, false, true, false, false]) s1 k1) [0, 2, 3, 4, 5, 12, 15, 16, 17] fu (s1.keep [0, 2, 3, 4, 5, 12, 15, 16, 17]) k) k)
noncomputable def KA_balerref10_Codes (lf d : Nat) (rec : RT) (dflt : KT) : KT := (kEx 0 (runCur [0, 2, 3, 4, 5, 12] (fun y0 y2 y3 y4 y5 y12 =>
 outK [y3]) (dflt (Ex.exit 0))) dflt)
noncomputable def KB_balerref10_Codes (lf d : Nat) (rec : RT) (fu : Nat) (k : KT) (again : Value → Value → Value → Value → Value → M Value) (dflt : KT) : KT := (kEx 2 (runCur [0, 2, 3, 4, 5, 12, 15, 16, 17, 18] (fun y0 y2 y3 y4 y5 y12 y15 y16 y17 y18 =>
 optK (q_add PP 3 y5 (Value.int .i64 1)) fun v14n15 =>
 again y0 y2 y3 y4 v14n15) (dflt (Ex.exit 2))) dflt)
noncomputable def LC_balerref10_Codes (lf d : Nat) (rec : RT) (k : KT) : Nat → Value → Value → Value → Value → Value → Value → Value → Value → Value → Value → Value → Value → Value → Value → Value → Value → M Value
 | 0, _, _, _, _, _, _, _, _, _, _, _, _, _, _, _, _ => M.fail
 | fu + 1, x0, x2, x3, x4, x5, x6, x7, x12, x15, x16, x17, x18, x24, x26, x27, x28 =>
 optK (q_lss PP 3 x28 x27) fun v29n16 =>
 ifV v29n16 (
 optK (qS_add PP 9 x4 (Value.string { data := #[48] })) fun v31n17 =>
 optK (q_add PP 3 x28 (Value.int .i64 1)) fun v32n18 =>
 LC_balerref10_Codes lf d rec k fu x0 x2 x3 v31n17 x5 x6 x7 x12 x15 x16 x17 x18 x24 x26 x27 v32n18) (
 k (Ex.exit 4) [(0, x0), (2, x2), (3, x3), (4, x4), (5, x5), (6, x6), (7, x7), (12, x12), (15, x15), (16, x16), (17, x17), (18, x18), (24, x24), (26, x26), (27, x27), (28, x28), (29, v29n16)])
noncomputable def KC_balerref10_Codes (lf d : Nat) (rec : RT) (fu : Nat) (k : KT) (again : Value → Value → Value → Value → Value → Value → Value → Value → Value → M Value) (dflt : KT) : KT := (kEx 4 (runCur [0, 2, 3, 4, 5, 6, 7, 12, 15, 16, 17, 18, 24, 26, 27, 28, 29] (fun y0 y2 y3 y4 y5 y6 y7 y12 y15 y16 y17 y18 y24 y26 y27 y28 y29 =>
 optK (evIA3 PP 47 1 y3 y6) fun v39n19 =>
 insB (evStore3 PP 9 v39n19 y4) fun u20 =>
 optK (q_add PP 3 y17 (Value.int .i64 1)) fun v40n21 =>
 again y0 y2 y3 y4 y5 y12 y15 y16 v40n21) (dflt (Ex.exit 4))) dflt)
noncomputable def LB_balerref10_Codes (lf d : Nat) (rec : RT) (k : KT) : Nat → Value → Value → Value → Value → Value → Value → Value → Value → Value → M Value
 | 0, _, _, _, _, _, _, _, _, _ => M.fail
 | fu + 1, x0, x2, x3, x4, x5, x12, x15, x16, x17 =>
 optK (q_lss PP 3 x17 x16) fun v18n5 =>
 ifV v18n5 (
 optK (evIA3 PP 22 1 x15 x17) fun v20n6 =>
 insB (evLoad3 PP 3 v20n6) fun v21n7 =>
 optK (q_neq PP 3 v21n7 x5) fun v24n8 =>
 ifV v24n8 (
 optK (q_add PP 3 x17 (Value.int .i64 1)) fun v40n9 =>
 LB_balerref10_Codes lf d rec k fu x0 x2 x3 x4 x5 x12 x15 x16 v40n9) (
 optK (qS_eql PP 9 x4 (Value.string { data := #[] })) fun v26n10 =>
 ifV v26n10 (
 LC_balerref10_Codes lf d rec (KC_balerref10_Codes lf d rec fu k (LB_balerref10_Codes lf d rec k fu) (kcC_balerref10_Codes lf d fu k)) lf x0 x2 x3 x4 x5 x17 v21n7 x12 x15 x16 x17 v18n5 v24n8 v26n10 x5 (Value.int .i64 0)) (
 (inside (rec 245 #[x4, x5])).bind fun v35n11 =>
 optK (evIA3 PP 47 1 x3 x17) fun v39n12 =>
 insB (evStore3 PP 9 v39n12 v35n11) fun u13 =>
 optK (q_add PP 3 x17 (Value.int .i64 1)) fun v40n14 =>
 LB_balerref10_Codes lf d rec k fu x0 x2 x3 v35n11 x5 x12 x15 x16 v40n14))) (
 k (Ex.exit 2) [(0, x0), (2, x2), (3, x3), (4, x4), (5, x5), (12, x12), (15, x15), (16, x16), (17, x17), (18, v18n5)])
noncomputable def LA_balerref10_Codes (lf d : Nat) (rec : RT) (k : KT) : Nat → Value → Value → Value → Value → Value → M Value
 | 0, _, _, _, _, _ => M.fail
 | fu + 1, x0, x2, x3, x4, x5 =>
 optK (q_leq PP 3 x5 (Value.int .i64 20)) fun v12n3 =>
 ifV v12n3 (
 optK (len2 PP #[22] [x0]) fun v16n4 =>
 LB_balerref10_Codes lf d rec (KB_balerref10_Codes lf d rec fu k (LA_balerref10_Codes lf d rec k fu) (kcB_balerref10_Codes lf d fu k)) lf x0 x2 x3 x4 x5 v12n3 x0 v16n4 (Value.int .i64 0)) (
 k (Ex.exit 0) [(0, x0), (2, x2), (3, x3), (4, x4), (5, x5), (12, v12n3)])
noncomputable def F_balerref10_Codes (lf d : Nat) (rec : RT) (a0 : Value) : M Value :=
 optK (len2 PP #[22] [a0]) fun v9n1 =>
 insB (evMake3 PP 47 v9n1 v9n1) fun v10n2 =>
 LA_balerref10_Codes lf d rec (KA_balerref10_Codes lf d rec (kcA_balerref10_Codes lf d)) lf a0 (Value.slice none 0 0) v10n2 (Value.string { data := #[] }) (Value.int .i64 1)
set_option maxRecDepth 20000 in
theorem KQA_balerref10_Codes (lf d : Nat) : KA_balerref10_Codes lf d (evC lf d) (kcA_balerref10_Codes lf d) = kcA_balerref10_Codes lf d := by
  unfold KA_balerref10_Codes
  refine Eq.trans (kEx_eq ?_) ?_
  · exact (runCur_eq _ _ _ (by intro y0 y2 y3 y4 y5 y12; show _ = _; (try simp only [clash3_eq, insB_eq]); kernel_rfl))
  rfl
set_option maxRecDepth 20000 in
theorem KQB_balerref10_Codes (lf d fu : Nat) (k : KT) (again : Value → Value → Value → Value → Value → M Value) (ha : again = lpA_balerref10_Codes lf d fu k) : KB_balerref10_Codes lf d (evC lf d) fu k again (kcB_balerref10_Codes lf d fu k) = kcB_balerref10_Codes lf d fu k := by
  subst ha
  unfold KB_balerref10_Codes
  refine Eq.trans (kEx_eq ?_) ?_
  · exact (runCur_eq _ _ _ (by intro y0 y2 y3 y4 y5 y12 y15 y16 y17 y18; show _ = _; (try simp only [clash3_eq, insB_eq, q_add_eq (P := PP) nf3]); kernel_rfl))
  rfl
theorem LQC_balerref10_Codes (lf d : Nat) (k : KT) : ∀ fu : Nat, LC_balerref10_Codes lf d (evC lf d) k fu = lpC_balerref10_Codes lf d fu k
  | 0 => by funext x0 x2 x3 x4 x5 x6 x7 x12 x15 x16 x17 x18 x24 x26 x27 x28; kernel_rfl
  | fu + 1 => by
    have ih := LQC_balerref10_Codes lf d k fu
    funext x0 x2 x3 x4 x5 x6 x7 x12 x15 x16 x17 x18 x24 x26 x27 x28; simp only [LC_balerref10_Codes, ih, clash3_eq, insB_eq, qS_add_eq (P := PP) nf9, q_add_eq (P := PP) nf3, q_lss_eq (P := PP) nf3]; kernel_rfl
set_option maxRecDepth 20000 in
theorem KQC_balerref10_Codes (lf d fu : Nat) (k : KT) (again : Value → Value → Value → Value → Value → Value → Value → Value → Value → M Value) (ha : again = lpB_balerref10_Codes lf d fu k) : KC_balerref10_Codes lf d (evC lf d) fu k again (kcC_balerref10_Codes lf d fu k) = kcC_balerref10_Codes lf d fu k := by
  subst ha
  unfold KC_balerref10_Codes
  refine Eq.trans (kEx_eq ?_) ?_
  · exact (runCur_eq _ _ _ (by intro y0 y2 y3 y4 y5 y6 y7 y12 y15 y16 y17 y18 y24 y26 y27 y28 y29; show _ = _; (try simp only [clash3_eq, evIA3_eq (P := PP) Tryz.underlying47 gs9, evStore3_eq (P := PP) gs9, insB_eq, q_add_eq (P := PP) nf3]); kernel_rfl))
  rfl
theorem LQB_balerref10_Codes (lf d : Nat) (k : KT) : ∀ fu : Nat, LB_balerref10_Codes lf d (evC lf d) k fu = lpB_balerref10_Codes lf d fu k
  | 0 => by funext x0 x2 x3 x4 x5 x12 x15 x16 x17; kernel_rfl
  | fu + 1 => by
    have ih := LQB_balerref10_Codes lf d k fu
    funext x0 x2 x3 x4 x5 x12 x15 x16 x17; simp only [LB_balerref10_Codes, ih, KQC_balerref10_Codes lf d fu k _ rfl, LQC_balerref10_Codes, clash3_eq, evIA3_eq (P := PP) Tryz.underlying22 gs3, evIA3_eq (P := PP) Tryz.underlying47 gs9, evLoad3_eq (P := PP) ga3, evStore3_eq (P := PP) gs9, insB_eq, qS_eql_eq (P := PP) nf9, q_add_eq (P := PP) nf3, q_lss_eq (P := PP) nf3, q_neq_eq (P := PP) nf3]; kernel_rfl
theorem LQA_balerref10_Codes (lf d : Nat) (k : KT) : ∀ fu : Nat, LA_balerref10_Codes lf d (evC lf d) k fu = lpA_balerref10_Codes lf d fu k
  | 0 => by funext x0 x2 x3 x4 x5; kernel_rfl
  | fu + 1 => by
    have ih := LQA_balerref10_Codes lf d k fu
    funext x0 x2 x3 x4 x5; simp only [LA_balerref10_Codes, ih, KQB_balerref10_Codes lf d fu k _ rfl, LQB_balerref10_Codes, clash3_eq, insB_eq, q_leq_eq (P := PP) nf3]; kernel_rfl
theorem fsh_balerref10_Codes (lf d : Nat) (a0 : Value) : inside (F_balerref10_Codes lf d (evC lf d) a0) = evC lf (d + 1) 231 #[a0] := by
  unfold F_balerref10_Codes; (try simp only [KQA_balerref10_Codes lf d, LQA_balerref10_Codes, clash3_eq, evMake3_eq, insB_eq]); kernel_rfl

noncomputable def lpA_balerref02_Bits (lf d fu : Nat) (k : KT) (x0 x2 x3 : Value) : M Value := loopK (fun s1 k1 => codeK PP (evC lf d) (gtA 232) lf (codeAt (bodyOf PP 232) [true, false, true, false, false]) s1 k1) [0, 2, 3] fu [(0, x0), (2, x2), (3, x3)] k
noncomputable def kcA_balerref02_Bits (lf d : Nat) : KT := contAt PP (evC lf d) (gtA 232) lf (bodyOf PP 232) [true, false, true, false] (endK PP (resOf PP 232))
noncomputable def LA_balerref02_Bits (lf d : Nat) (rec : RT) (k : KT) : Nat → Value → Value → Value → M Value
 | 0, _, _, _ => M.fail
 | fu + 1, x0, x2, x3 =>
 optK (q_lss PP 3 x3 (Value.int .i64 8)) fun v4n1 =>
 ifV v4n1 (
 optK (q_geq PP 38 x0 (Value.int .u32 2147483648)) fun v6n2 =>
 ifV v6n2 (
 optK (q_sub PP 38 x0 (Value.int .u32 2147483648)) fun v8n3 =>
 optK (q_mul PP 38 v8n3 (Value.int .u32 2)) fun v9n4 =>
 optK (q_xor PP 38 v9n4 (Value.int .u32 79764919)) fun v10n5 =>
 optK (q_add PP 3 x3 (Value.int .i64 1)) fun v13n6 =>
 LA_balerref02_Bits lf d rec k fu v10n5 x2 v13n6) (
 optK (q_mul PP 38 x0 (Value.int .u32 2)) fun v12n7 =>
 optK (q_add PP 3 x3 (Value.int .i64 1)) fun v13n8 =>
 LA_balerref02_Bits lf d rec k fu v12n7 x2 v13n8)) (
 k (Ex.exit 0) [(0, x0), (2, x2), (3, x3), (4, v4n1)])
noncomputable def KA_balerref02_Bits (lf d : Nat) (rec : RT) (dflt : KT) : KT := (kEx 0 (runCur [0, 2, 3, 4] (fun y0 y2 y3 y4 =>
 outK [y0]) (dflt (Ex.exit 0))) dflt)
noncomputable def F_balerref02_Bits (lf d : Nat) (rec : RT) (a0 : Value) : M Value :=
 LA_balerref02_Bits lf d rec (KA_balerref02_Bits lf d rec (kcA_balerref02_Bits lf d)) lf a0 (Value.int .u32 0) (Value.int .i64 0)
theorem LQA_balerref02_Bits (lf d : Nat) (k : KT) : ∀ fu : Nat, LA_balerref02_Bits lf d (evC lf d) k fu = lpA_balerref02_Bits lf d fu k
  | 0 => by funext x0 x2 x3; kernel_rfl
  | fu + 1 => by
    have ih := LQA_balerref02_Bits lf d k fu
    funext x0 x2 x3; simp only [LA_balerref02_Bits, ih, clash3_eq, insB_eq, q_add_eq (P := PP) nf3, q_geq_eq (P := PP) nf38, q_lss_eq (P := PP) nf3, q_mul_eq (P := PP) nf38, q_sub_eq (P := PP) nf38, q_xor_eq (P := PP) nf38]; kernel_rfl
set_option maxRecDepth 20000 in
theorem KQA_balerref02_Bits (lf d : Nat) : KA_balerref02_Bits lf d (evC lf d) (kcA_balerref02_Bits lf d) = kcA_balerref02_Bits lf d := by
  unfold KA_balerref02_Bits
  refine Eq.trans (kEx_eq ?_) ?_
  · exact (runCur_eq _ _ _ (by intro y0 y2 y3 y4; show _ = _; (try simp only [clash3_eq, insB_eq]); kernel_rfl))
  rfl
theorem fsh_balerref02_Bits (lf d : Nat) (a0 : Value) : inside (F_balerref02_Bits lf d (evC lf d) a0) = evC lf (d + 1) 232 #[a0] := by
  unfold F_balerref02_Bits; (try simp only [KQA_balerref02_Bits lf d, LQA_balerref02_Bits, clash3_eq, insB_eq]); kernel_rfl

noncomputable def F_rle_Piece (lf d : Nat) (rec : RT) (a0 : Value) : M Value :=
 insB (evBox3 PP 166 a0) fun v1n1 =>
 optK (evFA3 PP 166 1 v1n1 1) fun v4n2 =>
 insB (evLoad3 PP 3 v4n2) fun v5n3 =>
 optK (q_lss PP 3 v5n3 (Value.int .i64 1)) fun v6n4 =>
 ifV v6n4 (
 outK [(Value.string { data := #[] }), (Value.int .i64 1)]) (
 optK (evFA3 PP 166 1 v1n1 1) fun v8n5 =>
 insB (evLoad3 PP 3 v8n5) fun v9n6 =>
 optK (q_gtr PP 3 v9n6 (Value.int .i64 255)) fun v10n7 =>
 ifV v10n7 (
 outK [(Value.string { data := #[] }), (Value.int .i64 1)]) (
 insB (evLoadA3 PP 166 2 v1n1) fun v12n8 =>
 (inside (rec 246 #[v12n8])).bind fun v13n9 =>
 outK [v13n9, (Value.int .i64 0)]))
theorem fsh_rle_Piece (lf d : Nat) (a0 : Value) : inside (F_rle_Piece lf d (evC lf d) a0) = evC lf (d + 1) 233 #[a0] := by
  unfold F_rle_Piece; (try simp only [clash3_eq, evBox3_eq, evFA3_eq (P := PP) gf166f1, evLoad3_eq (P := PP) ga3, evLoadA3_eq (P := PP) ga166 gs166, insB_eq, q_gtr_eq (P := PP) nf3, q_lss_eq (P := PP) nf3]); kernel_rfl

noncomputable def F_crc_Sum_Put (lf d : Nat) (rec : RT) (a0 a1 : Value) : M Value :=
 optK (qP_neq PP 157 a0 (Value.pointer none)) fun v5n1 =>
 ifV v5n1 (
 optK (nil2 a0) fun v8n2 =>
 optK (evFA3 PP 207 0 v8n2 0) fun v9n3 =>
 optK (nil2 a0) fun v11n4 =>
 optK (evFA3 PP 207 256 v11n4 1) fun v12n5 =>
 insB (evLoad3 PP 38 v12n5) fun v13n6 =>
 (inside (rec 247 #[v9n3, v13n6, a1])).bind fun v15n7 =>
 optK (nil2 a0) fun v16n8 =>
 optK (evFA3 PP 207 256 v16n8 1) fun v17n9 =>
 insB (evStore3 PP 38 v17n9 v15n7) fun u10 =>
 outK []) (
 outK [])
theorem fsh_crc_Sum_Put (lf d : Nat) (a0 a1 : Value) : inside (F_crc_Sum_Put lf d (evC lf d) a0 a1) = evC lf (d + 1) 234 #[a0, a1] := by
  unfold F_crc_Sum_Put; (try simp only [clash3_eq, evFA3_eq (P := PP) gf207f0, evFA3_eq (P := PP) gf207f1, evLoad3_eq (P := PP) ga38, evStore3_eq (P := PP) gs38, insB_eq, qP_neq_eq (P := PP) Tryz.underlying157]); kernel_rfl

noncomputable def lpA_lens_treesOf (lf d fu : Nat) (k : KT) (x0 x1 x2 x3 x12 x13 : Value) : M Value := loopK (fun s1 k1 => codeK PP (evC lf d) (gtA 235) lf (codeAt (bodyOf PP 235) [true, true, false, true, false, false]) s1 k1) [0, 1, 2, 3, 12, 13] fu [(0, x0), (1, x1), (2, x2), (3, x3), (12, x12), (13, x13)] k
noncomputable def kcA_lens_treesOf (lf d : Nat) : KT := contAt PP (evC lf d) (gtA 235) lf (bodyOf PP 235) [true, true, false, true, false] (endK PP (resOf PP 235))
noncomputable def LA_lens_treesOf (lf d : Nat) (rec : RT) (k : KT) : Nat → Value → Value → Value → Value → Value → Value → M Value
 | 0, _, _, _, _, _, _ => M.fail
 | fu + 1, x0, x1, x2, x3, x12, x13 =>
 optK (q_lss PP 3 x13 x12) fun v14n14 =>
 ifV v14n14 (
 optK (nil2 x3) fun v18n15 =>
 optK (evFA3 PP 260 2 v18n15 2) fun v19n16 =>
 insB (evLoad3 PP 22 v19n16) fun v20n17 =>
 insB (evBS3 PP 22 1 [(0, x13)]) fun v22n18 =>
 insB (evAppend3 PP 22 v20n17 v22n18) fun v23n19 =>
 optK (nil2 x3) fun v24n20 =>
 optK (evFA3 PP 260 2 v24n20 2) fun v25n21 =>
 insB (evStore3 PP 22 v25n21 v23n19) fun u22 =>
 optK (nil2 x3) fun v28n23 =>
 optK (evFA3 PP 260 1 v28n23 1) fun v29n24 =>
 insB (evLoad3 PP 22 v29n24) fun v30n25 =>
 insB (evBS3 PP 22 1 [(0, (Value.int .i64 (-1)))]) fun v31n26 =>
 insB (evAppend3 PP 22 v30n25 v31n26) fun v32n27 =>
 optK (nil2 x3) fun v33n28 =>
 optK (evFA3 PP 260 1 v33n28 1) fun v34n29 =>
 insB (evStore3 PP 22 v34n29 v32n27) fun u30 =>
 optK (q_add PP 3 x13 (Value.int .i64 1)) fun v35n31 =>
 LA_lens_treesOf lf d rec k fu x0 x1 x2 x3 x12 v35n31) (
 k (Ex.exit 0) [(0, x0), (1, x1), (2, x2), (3, x3), (12, x12), (13, x13), (14, v14n14)])
noncomputable def KA_lens_treesOf (lf d : Nat) (rec : RT) (dflt : KT) : KT := (kEx 0 (runCur [0, 1, 2, 3, 12, 13, 14] (fun y0 y1 y2 y3 y12 y13 y14 =>
 optK (nil2 y3) fun v37n32 =>
 optK (evFA3 PP 260 2 v37n32 2) fun v38n33 =>
 insB (evLoad3 PP 22 v38n33) fun v39n34 =>
 (inside (rec 248 #[v39n34, (Value.func (Go.Fn.func 249) #[] #[y1])])).bind fun v41n35 =>
 outK [y3]) (dflt (Ex.exit 0))) dflt)
noncomputable def F_lens_treesOf (lf d : Nat) (rec : RT) (a0 : Value) : M Value :=
 insB (evBox3 PP 22 a0) fun v1n1 =>
 (timed (
 insB (evLoad3 PP 22 v1n1) fun v5n3 => M.ret v5n3)).bind fun vtn2 =>
 (timed (
 (inside (rec 95 #[vtn2.1])).bind fun v6n5 => M.ret v6n5)).bind fun vtn4 =>
 (timed (
 insB (evLoad3 PP 22 v1n1) fun v7n7 => M.ret v7n7)).bind fun vtn6 =>
 optK (len2 PP #[22] [vtn6.1]) fun v8n8 =>
 insB (evBuildZ PP 260 [Value.slice none 0 0, Value.slice none 0 0, Value.slice none 0 0, Value.int .i64 0] [(0, vtn4.1), (3, v8n8)]) fun v9n9 =>
 (timed (
 insB (evBox3 PP 260 v9n9) fun v10n11 => M.ret v10n11)).bind fun vtn10 =>
 chkT ((!(clash3 vtn4.2 vtn6.2) && true) && true) (
 insB (evLoad3 PP 22 v1n1) fun v11n12 =>
 optK (len2 PP #[22] [v11n12]) fun v12n13 =>
 LA_lens_treesOf lf d rec (KA_lens_treesOf lf d rec (kcA_lens_treesOf lf d)) lf a0 v1n1 (Value.pointer none) vtn10.1 v12n13 (Value.int .i64 0))
theorem LQA_lens_treesOf (lf d : Nat) (k : KT) : ∀ fu : Nat, LA_lens_treesOf lf d (evC lf d) k fu = lpA_lens_treesOf lf d fu k
  | 0 => by funext x0 x1 x2 x3 x12 x13; kernel_rfl
  | fu + 1 => by
    have ih := LQA_lens_treesOf lf d k fu
    funext x0 x1 x2 x3 x12 x13; simp only [LA_lens_treesOf, ih, clash3_eq, evAppend3_eq, evBS3_eq, evFA3_eq (P := PP) gf260f1, evFA3_eq (P := PP) gf260f2, evLoad3_eq (P := PP) ga22, evStore3_eq (P := PP) gs22, insB_eq, q_add_eq (P := PP) nf3, q_lss_eq (P := PP) nf3]; kernel_rfl
set_option maxRecDepth 20000 in
theorem KQA_lens_treesOf (lf d : Nat) : KA_lens_treesOf lf d (evC lf d) (kcA_lens_treesOf lf d) = kcA_lens_treesOf lf d := by
  unfold KA_lens_treesOf
  refine Eq.trans (kEx_eq ?_) ?_
  · exact (runCur_eq _ _ _ (by intro y0 y1 y2 y3 y12 y13 y14; show _ = _; (try simp only [clash3_eq, evFA3_eq (P := PP) gf260f2, evLoad3_eq (P := PP) ga22, insB_eq]); kernel_rfl))
  rfl
theorem fsh_lens_treesOf (lf d : Nat) (a0 : Value) : inside (F_lens_treesOf lf d (evC lf d) a0) = evC lf (d + 1) 235 #[a0] := by
  unfold F_lens_treesOf; (try simp only [KQA_lens_treesOf lf d, LQA_lens_treesOf, bz260, clash3_eq, evBox3_eq, evLoad3_eq (P := PP) ga22, insB_eq]); kernel_rfl

noncomputable def F_lens_trees_least (lf d : Nat) (rec : RT) (a0 : Value) : M Value :=
 optK (nil2 a0) fun v5n1 =>
 optK (evFA3 PP 260 3 v5n1 3) fun v6n2 =>
 insB (evLoad3 PP 3 v6n2) fun v7n3 =>
 optK (nil2 a0) fun v9n4 =>
 optK (evFA3 PP 260 0 v9n4 0) fun v10n5 =>
 insB (evLoad3 PP 22 v10n5) fun v11n6 =>
 optK (len2 PP #[22] [v11n6]) fun v12n7 =>
 optK (q_eql PP 3 v7n3 v12n7) fun v13n8 =>
 ifV v13n8 (
 optK (nil2 a0) fun v48n9 =>
 optK (evFA3 PP 260 2 v48n9 2) fun v49n10 =>
 insB (evLoad3 PP 22 v49n10) fun v50n11 =>
 optK (evIA3 PP 22 1 v50n11 (Value.int .i64 0)) fun v51n12 =>
 insB (evLoad3 PP 3 v51n12) fun v52n13 =>
 optK (nil2 a0) fun v55n14 =>
 optK (evFA3 PP 260 2 v55n14 2) fun v56n15 =>
 insB (evLoad3 PP 22 v56n15) fun v57n16 =>
 slice2 PP 22 v57n16 (some (Value.int .i64 1)) none none fun v58n17 =>
 optK (nil2 a0) fun v59n18 =>
 optK (evFA3 PP 260 2 v59n18 2) fun v60n19 =>
 insB (evStore3 PP 22 v60n19 v58n17) fun u20 =>
 outK [v52n13]) (
 optK (nil2 a0) fun v16n21 =>
 optK (evFA3 PP 260 2 v16n21 2) fun v17n22 =>
 insB (evLoad3 PP 22 v17n22) fun v18n23 =>
 optK (len2 PP #[22] [v18n23]) fun v19n24 =>
 optK (q_gtr PP 3 v19n24 (Value.int .i64 0)) fun v20n25 =>
 ifV v20n25 (
 optK (nil2 a0) fun v23n26 =>
 optK (evFA3 PP 260 0 v23n26 0) fun v24n27 =>
 insB (evLoad3 PP 22 v24n27) fun v25n28 =>
 optK (nil2 a0) fun v27n29 =>
 optK (evFA3 PP 260 2 v27n29 2) fun v28n30 =>
 insB (evLoad3 PP 22 v28n30) fun v29n31 =>
 optK (evIA3 PP 22 1 v29n31 (Value.int .i64 0)) fun v30n32 =>
 insB (evLoad3 PP 3 v30n32) fun v31n33 =>
 optK (evIA3 PP 22 1 v25n28 v31n33) fun v32n34 =>
 insB (evLoad3 PP 3 v32n34) fun v33n35 =>
 optK (nil2 a0) fun v35n36 =>
 optK (evFA3 PP 260 0 v35n36 0) fun v36n37 =>
 insB (evLoad3 PP 22 v36n37) fun v37n38 =>
 optK (nil2 a0) fun v39n39 =>
 optK (evFA3 PP 260 3 v39n39 3) fun v40n40 =>
 insB (evLoad3 PP 3 v40n40) fun v41n41 =>
 optK (evIA3 PP 22 1 v37n38 v41n41) fun v42n42 =>
 insB (evLoad3 PP 3 v42n42) fun v43n43 =>
 optK (q_leq PP 3 v33n35 v43n43) fun v44n44 =>
 ifV v44n44 (
 optK (nil2 a0) fun v48n45 =>
 optK (evFA3 PP 260 2 v48n45 2) fun v49n46 =>
 insB (evLoad3 PP 22 v49n46) fun v50n47 =>
 optK (evIA3 PP 22 1 v50n47 (Value.int .i64 0)) fun v51n48 =>
 insB (evLoad3 PP 3 v51n48) fun v52n49 =>
 optK (nil2 a0) fun v55n50 =>
 optK (evFA3 PP 260 2 v55n50 2) fun v56n51 =>
 insB (evLoad3 PP 22 v56n51) fun v57n52 =>
 slice2 PP 22 v57n52 (some (Value.int .i64 1)) none none fun v58n53 =>
 optK (nil2 a0) fun v59n54 =>
 optK (evFA3 PP 260 2 v59n54 2) fun v60n55 =>
 insB (evStore3 PP 22 v60n55 v58n53) fun u56 =>
 outK [v52n49]) (
 optK (nil2 a0) fun v63n57 =>
 optK (evFA3 PP 260 3 v63n57 3) fun v64n58 =>
 insB (evLoad3 PP 3 v64n58) fun v65n59 =>
 optK (q_add PP 3 v65n59 (Value.int .i64 1)) fun v66n60 =>
 optK (nil2 a0) fun v67n61 =>
 optK (evFA3 PP 260 3 v67n61 3) fun v68n62 =>
 insB (evStore3 PP 3 v68n62 v66n60) fun u63 =>
 optK (nil2 a0) fun v70n64 =>
 optK (evFA3 PP 260 3 v70n64 3) fun v71n65 =>
 insB (evLoad3 PP 3 v71n65) fun v72n66 =>
 optK (q_sub PP 3 v72n66 (Value.int .i64 1)) fun v73n67 =>
 outK [v73n67])) (
 optK (nil2 a0) fun v63n68 =>
 optK (evFA3 PP 260 3 v63n68 3) fun v64n69 =>
 insB (evLoad3 PP 3 v64n69) fun v65n70 =>
 optK (q_add PP 3 v65n70 (Value.int .i64 1)) fun v66n71 =>
 optK (nil2 a0) fun v67n72 =>
 optK (evFA3 PP 260 3 v67n72 3) fun v68n73 =>
 insB (evStore3 PP 3 v68n73 v66n71) fun u74 =>
 optK (nil2 a0) fun v70n75 =>
 optK (evFA3 PP 260 3 v70n75 3) fun v71n76 =>
 insB (evLoad3 PP 3 v71n76) fun v72n77 =>
 optK (q_sub PP 3 v72n77 (Value.int .i64 1)) fun v73n78 =>
 outK [v73n78]))
theorem fsh_lens_trees_least (lf d : Nat) (a0 : Value) : inside (F_lens_trees_least lf d (evC lf d) a0) = evC lf (d + 1) 236 #[a0] := by
  unfold F_lens_trees_least; (try simp only [clash3_eq, evFA3_eq (P := PP) gf260f0, evFA3_eq (P := PP) gf260f2, evFA3_eq (P := PP) gf260f3, evIA3_eq (P := PP) Tryz.underlying22 gs3, evLoad3_eq (P := PP) ga22, evLoad3_eq (P := PP) ga3, evStore3_eq (P := PP) gs22, evStore3_eq (P := PP) gs3, insB_eq, q_add_eq (P := PP) nf3, q_eql_eq (P := PP) nf3, q_gtr_eq (P := PP) nf3, q_leq_eq (P := PP) nf3, q_sub_eq (P := PP) nf3]); kernel_rfl

noncomputable def F_lens_trees_join (lf d : Nat) (rec : RT) (a0 a1 a2 : Value) : M Value :=
 optK (nil2 a0) fun v7n1 =>
 optK (evFA3 PP 260 1 v7n1 1) fun v8n2 =>
 insB (evLoad3 PP 22 v8n2) fun v9n3 =>
 optK (nil2 a0) fun v12n4 =>
 optK (evFA3 PP 260 0 v12n4 0) fun v13n5 =>
 insB (evLoad3 PP 22 v13n5) fun v14n6 =>
 optK (len2 PP #[22] [v14n6]) fun v15n7 =>
 optK (evIA3 PP 22 1 v9n3 a1) fun v16n8 =>
 insB (evStore3 PP 3 v16n8 v15n7) fun u9 =>
 optK (nil2 a0) fun v18n10 =>
 optK (evFA3 PP 260 1 v18n10 1) fun v19n11 =>
 insB (evLoad3 PP 22 v19n11) fun v20n12 =>
 optK (nil2 a0) fun v23n13 =>
 optK (evFA3 PP 260 0 v23n13 0) fun v24n14 =>
 insB (evLoad3 PP 22 v24n14) fun v25n15 =>
 optK (len2 PP #[22] [v25n15]) fun v26n16 =>
 optK (evIA3 PP 22 1 v20n12 a2) fun v27n17 =>
 insB (evStore3 PP 3 v27n17 v26n16) fun u18 =>
 optK (nil2 a0) fun v30n19 =>
 optK (evFA3 PP 260 0 v30n19 0) fun v31n20 =>
 insB (evLoad3 PP 22 v31n20) fun v32n21 =>
 optK (nil2 a0) fun v34n22 =>
 optK (evFA3 PP 260 0 v34n22 0) fun v35n23 =>
 insB (evLoad3 PP 22 v35n23) fun v36n24 =>
 optK (evIA3 PP 22 1 v36n24 a1) fun v38n25 =>
 insB (evLoad3 PP 3 v38n25) fun v39n26 =>
 optK (nil2 a0) fun v41n27 =>
 optK (evFA3 PP 260 0 v41n27 0) fun v42n28 =>
 insB (evLoad3 PP 22 v42n28) fun v43n29 =>
 optK (evIA3 PP 22 1 v43n29 a2) fun v45n30 =>
 insB (evLoad3 PP 3 v45n30) fun v46n31 =>
 optK (q_add PP 3 v39n26 v46n31) fun v47n32 =>
 insB (evBS3 PP 22 1 [(0, v47n32)]) fun v48n33 =>
 insB (evAppend3 PP 22 v32n21 v48n33) fun v49n34 =>
 optK (nil2 a0) fun v50n35 =>
 optK (evFA3 PP 260 0 v50n35 0) fun v51n36 =>
 insB (evStore3 PP 22 v51n36 v49n34) fun u37 =>
 optK (nil2 a0) fun v54n38 =>
 optK (evFA3 PP 260 1 v54n38 1) fun v55n39 =>
 insB (evLoad3 PP 22 v55n39) fun v56n40 =>
 insB (evBS3 PP 22 1 [(0, (Value.int .i64 (-1)))]) fun v57n41 =>
 insB (evAppend3 PP 22 v56n40 v57n41) fun v58n42 =>
 optK (nil2 a0) fun v59n43 =>
 optK (evFA3 PP 260 1 v59n43 1) fun v60n44 =>
 insB (evStore3 PP 22 v60n44 v58n42) fun u45 =>
 outK []
theorem fsh_lens_trees_join (lf d : Nat) (a0 a1 a2 : Value) : inside (F_lens_trees_join lf d (evC lf d) a0 a1 a2) = evC lf (d + 1) 237 #[a0, a1, a2] := by
  unfold F_lens_trees_join; (try simp only [clash3_eq, evAppend3_eq, evBS3_eq, evFA3_eq (P := PP) gf260f0, evFA3_eq (P := PP) gf260f1, evIA3_eq (P := PP) Tryz.underlying22 gs3, evLoad3_eq (P := PP) ga22, evLoad3_eq (P := PP) ga3, evStore3_eq (P := PP) gs22, evStore3_eq (P := PP) gs3, insB_eq, q_add_eq (P := PP) nf3]); kernel_rfl

noncomputable def F_sorter_Sorter_above (lf d : Nat) (rec : RT) (a0 a1 a2 : Value) : M Value :=
 (inside (rec 251 #[a0, a1])).bind fun v11n1 =>
 (inside (rec 251 #[a0, a2])).bind fun v14n2 =>
 insB (evAllocZ 23 (repV (Value.int .i64 0) 2)) fun v7n3 =>
 insB (evAllocZ 23 (repV (Value.int .i64 0) 2)) fun v8n4 =>
 insB (evStoreA3 PP 23 2 v7n3 v11n1) fun u5 =>
 insB (evStoreA3 PP 23 2 v8n4 v14n2) fun u6 =>
 optK (evIAP3 PP 23 2 1 v7n3 (Value.int .i64 0)) fun v15n7 =>
 insB (evLoad3 PP 3 v15n7) fun v16n8 =>
 optK (evIAP3 PP 23 2 1 v8n4 (Value.int .i64 0)) fun v17n9 =>
 insB (evLoad3 PP 3 v17n9) fun v18n10 =>
 optK (q_gtr PP 3 v16n8 v18n10) fun v19n11 =>
 ifV v19n11 (
 outK [(Value.bool true)]) (
 optK (evIAP3 PP 23 2 1 v7n3 (Value.int .i64 0)) fun v21n12 =>
 insB (evLoad3 PP 3 v21n12) fun v22n13 =>
 optK (evIAP3 PP 23 2 1 v8n4 (Value.int .i64 0)) fun v23n14 =>
 insB (evLoad3 PP 3 v23n14) fun v24n15 =>
 optK (q_eql PP 3 v22n13 v24n15) fun v25n16 =>
 ifV v25n16 (
 optK (evIAP3 PP 23 2 1 v7n3 (Value.int .i64 1)) fun v27n17 =>
 insB (evLoad3 PP 3 v27n17) fun v28n18 =>
 optK (evIAP3 PP 23 2 1 v8n4 (Value.int .i64 1)) fun v29n19 =>
 insB (evLoad3 PP 3 v29n19) fun v30n20 =>
 optK (q_gtr PP 3 v28n18 v30n20) fun v31n21 =>
 outK [v31n21]) (
 outK [(Value.bool false)]))
theorem fsh_sorter_Sorter_above (lf d : Nat) (a0 a1 a2 : Value) : inside (F_sorter_Sorter_above lf d (evC lf d) a0 a1 a2) = evC lf (d + 1) 238 #[a0, a1, a2] := by
  unfold F_sorter_Sorter_above; (try simp only [az23, clash3_eq, evIAP3_eq (P := PP) Tryz.underlying23 gs3, evLoad3_eq (P := PP) ga3, evStoreA3_eq (P := PP) gs23, insB_eq, q_eql_eq (P := PP) nf3, q_gtr_eq (P := PP) nf3]); kernel_rfl

noncomputable def F_sorter_Sorter_pass (lf d : Nat) (rec : RT) (a0 : Value) : M Value :=
 optK (nil2 a0) fun v4n1 =>
 optK (evFA3 PP 214 2 v4n1 2) fun v5n2 =>
 insB (evLoad3 PP 22 v5n2) fun v6n3 =>
 optK (nil2 a0) fun v9n4 =>
 optK (evFA3 PP 214 3 v9n4 3) fun v10n5 =>
 insB (evLoad3 PP 22 v10n5) fun v11n6 =>
 optK (nil2 a0) fun v12n7 =>
 optK (evFA3 PP 214 2 v12n7 2) fun v13n8 =>
 insB (evStore3 PP 22 v13n8 v11n6) fun u9 =>
 optK (nil2 a0) fun v16n10 =>
 optK (evFA3 PP 214 3 v16n10 3) fun v17n11 =>
 insB (evStore3 PP 22 v17n11 v6n3) fun u12 =>
 optK (nil2 a0) fun v19n13 =>
 optK (evFA3 PP 214 12 v19n13 10) fun v20n14 =>
 insB (evStore3 PP 3 v20n14 (Value.int .i64 0)) fun u15 =>
 optK (nil2 a0) fun v22n16 =>
 optK (evFA3 PP 214 13 v22n16 11) fun v23n17 =>
 insB (evLoad3 PP 3 v23n17) fun v24n18 =>
 optK (nil2 a0) fun v26n19 =>
 optK (evFA3 PP 214 1 v26n19 1) fun v27n20 =>
 insB (evLoad3 PP 22 v27n20) fun v28n21 =>
 optK (len2 PP #[22] [v28n21]) fun v29n22 =>
 optK (q_sub PP 3 v29n22 (Value.int .i64 1)) fun v30n23 =>
 optK (q_eql PP 3 v24n18 v30n23) fun v31n24 =>
 ifV v31n24 (
 optK (nil2 a0) fun v45n25 =>
 optK (evFA3 PP 214 15 v45n25 13) fun v46n26 =>
 insB (evStore3 PP 4 v46n26 (Value.bool true)) fun u27 =>
 outK []) (
 optK (nil2 a0) fun v34n28 =>
 optK (evFA3 PP 214 4 v34n28 4) fun v35n29 =>
 insB (evLoad3 PP 3 v35n29) fun v36n30 =>
 optK (nil2 a0) fun v38n31 =>
 optK (evFA3 PP 214 1 v38n31 1) fun v39n32 =>
 insB (evLoad3 PP 22 v39n32) fun v40n33 =>
 optK (len2 PP #[22] [v40n33]) fun v41n34 =>
 optK (q_geq PP 3 v36n30 v41n34) fun v42n35 =>
 ifV v42n35 (
 optK (nil2 a0) fun v45n36 =>
 optK (evFA3 PP 214 15 v45n36 13) fun v46n37 =>
 insB (evStore3 PP 4 v46n37 (Value.bool true)) fun u38 =>
 outK []) (
 optK (nil2 a0) fun v49n39 =>
 optK (evFA3 PP 214 4 v49n39 4) fun v50n40 =>
 insB (evLoad3 PP 3 v50n40) fun v51n41 =>
 optK (q_mul PP 3 (Value.int .i64 2) v51n41) fun v52n42 =>
 optK (max2 [(Value.int .i64 1), v52n42]) fun v53n43 =>
 optK (nil2 a0) fun v54n44 =>
 optK (evFA3 PP 214 4 v54n44 4) fun v55n45 =>
 insB (evStore3 PP 3 v55n45 v53n43) fun u46 =>
 optK (nil2 a0) fun v58n47 =>
 optK (evFA3 PP 214 5 v58n47 5) fun v59n48 =>
 insB (evLoad3 PP 210 v59n48) fun v60n49 =>
 optK (nil2 a0) fun v62n50 =>
 optK (evFA3 PP 214 1 v62n50 1) fun v63n51 =>
 insB (evLoad3 PP 22 v63n51) fun v64n52 =>
 optK (len2 PP #[22] [v64n52]) fun v65n53 =>
 insB (evBuildZ PP 212 [Value.int .i64 0, Value.int .i64 0, Value.int .i64 0] [(0, (Value.int .i64 0)), (2, v65n53)]) fun v66n54 =>
 insB (evBS3 PP 210 1 [(0, v66n54)]) fun v67n55 =>
 insB (evAppend3 PP 210 v60n49 v67n55) fun v68n56 =>
 optK (nil2 a0) fun v69n57 =>
 optK (evFA3 PP 214 5 v69n57 5) fun v70n58 =>
 insB (evStore3 PP 210 v70n58 v68n56) fun u59 =>
 outK []))
theorem fsh_sorter_Sorter_pass (lf d : Nat) (a0 : Value) : inside (F_sorter_Sorter_pass lf d (evC lf d) a0) = evC lf (d + 1) 239 #[a0] := by
  unfold F_sorter_Sorter_pass; (try simp only [bz212, clash3_eq, evAppend3_eq, evBS3_eq, evFA3_eq (P := PP) gf214f1, evFA3_eq (P := PP) gf214f10, evFA3_eq (P := PP) gf214f11, evFA3_eq (P := PP) gf214f13, evFA3_eq (P := PP) gf214f2, evFA3_eq (P := PP) gf214f3, evFA3_eq (P := PP) gf214f4, evFA3_eq (P := PP) gf214f5, evLoad3_eq (P := PP) ga210, evLoad3_eq (P := PP) ga22, evLoad3_eq (P := PP) ga3, evStore3_eq (P := PP) gs210, evStore3_eq (P := PP) gs22, evStore3_eq (P := PP) gs3, evStore3_eq (P := PP) gs4, insB_eq, q_eql_eq (P := PP) nf3, q_geq_eq (P := PP) nf3, q_mul_eq (P := PP) nf3, q_sub_eq (P := PP) nf3]); kernel_rfl

noncomputable def lpA_balerref12_First (lf d fu : Nat) (k : KT) (x0 x1 x4 x5 x6 x14 x15 : Value) : M Value := loopK (fun s1 k1 => codeK PP (evC lf d) (gtA 240) lf (codeAt (bodyOf PP 240) [true, true, true, false, true, false, false]) s1 k1) [0, 1, 4, 5, 6, 14, 15] fu [(0, x0), (1, x1), (4, x4), (5, x5), (6, x6), (14, x14), (15, x15)] k
noncomputable def kcA_balerref12_First (lf d : Nat) : KT := contAt PP (evC lf d) (gtA 240) lf (bodyOf PP 240) [true, true, true, false, true, false] (endK PP (resOf PP 240))
noncomputable def lpB_balerref12_First (lf d fu : Nat) (k : KT) (x0 x1 x4 x5 x6 x7 x8 x9 x14 x15 x16 x18 x19 x20 : Value) : M Value := loopK (fun s1 k1 => codeK PP (evC lf d) (gtA 240) lf (codeAt (bodyOf PP 240) [true, true, true, false, true, false, false, true, true, false, false, true, true, true, false, true, false, false]) s1 k1) [0, 1, 4, 5, 6, 7, 8, 9, 14, 15, 16, 18, 19, 20] fu [(0, x0), (1, x1), (4, x4), (5, x5), (6, x6), (7, x7), (8, x8), (9, x9), (14, x14), (15, x15), (16, x16), (18, x18), (19, x19), (20, x20)] k
noncomputable def kcB_balerref12_First (lf d fu : Nat) (k : KT) : KT := contAt PP (evC lf d) (gtA 240) lf (codeAt (bodyOf PP 240) [true, true, true, false, true, false, false]) [true, true, false, false, true, true, true, false, true, false] (againK (fun s1 => loopK (fun s1 k1 => codeK PP (evC lf d) (gtA 240) lf (codeAt (bodyOf PP 240) [true, true, true, false, true, false, false]) s1 k1) [0, 1, 4, 5, 6, 14, 15] fu (s1.keep [0, 1, 4, 5, 6, 14, 15]) k) k)
noncomputable def KA_balerref12_First (lf d : Nat) (rec : RT) (dflt : KT) : KT := (kEx 0 (runCur [0, 1, 4, 5, 6, 14, 15, 16] (fun y0 y1 y4 y5 y6 y14 y15 y16 =>
 outK [y6]) (dflt (Ex.exit 0))) dflt)
noncomputable def LB_balerref12_First (lf d : Nat) (rec : RT) (k : KT) : Nat → Value → Value → Value → Value → Value → Value → Value → Value → Value → Value → Value → Value → Value → Value → M Value
 | 0, _, _, _, _, _, _, _, _, _, _, _, _, _, _ => M.fail
 | fu + 1, x0, x1, x4, x5, x6, x7, x8, x9, x14, x15, x16, x18, x19, x20 =>
 optK (q_lss PP 3 x20 x19) fun v21n4 =>
 ifV v21n4 (
 optK (evIA3 PP 22 1 x18 x20) fun v22n5 =>
 insB (evLoad3 PP 3 v22n5) fun v23n6 =>
 optK (q_sub PP 3 x1 (Value.int .i64 1)) fun v26n7 =>
 optK (q_gtr PP 3 x9 v26n7) fun v27n8 =>
 ifV v27n8 (
 optK (q_sub PP 3 x1 (Value.int .i64 1)) fun v29n9 =>
 optK (q_mul PP 3 v29n9 x5) fun v32n10 =>
 optK (q_quo PP 3 v32n10 x1) fun v34n11 =>
 optK (q_eql PP 3 v34n11 x7) fun v36n12 =>
 ifV v36n12 (
 insB (evBS3 PP 22 1 [(0, (Value.int .i64 0))]) fun v38n13 =>
 insB (evAppend3 PP 22 x8 v38n13) fun v39n14 =>
 optK (q_add PP 3 v29n9 v23n6) fun v45n15 =>
 optK (q_add PP 3 x20 (Value.int .i64 1)) fun v46n16 =>
 LB_balerref12_First lf d rec k fu x0 x1 x4 x5 x6 x7 v39n14 v45n15 x14 x15 x16 x18 x19 v46n16) (
 insB (evBS3 PP 22 1 [(0, (Value.int .i64 15))]) fun v41n17 =>
 insB (evAppend3 PP 22 x8 v41n17) fun v42n18 =>
 optK (q_add PP 3 v29n9 v23n6) fun v45n19 =>
 optK (q_add PP 3 x20 (Value.int .i64 1)) fun v46n20 =>
 LB_balerref12_First lf d rec k fu x0 x1 x4 x5 x6 x7 v42n18 v45n19 x14 x15 x16 x18 x19 v46n20)) (
 optK (q_mul PP 3 x9 x5) fun v32n21 =>
 optK (q_quo PP 3 v32n21 x1) fun v34n22 =>
 optK (q_eql PP 3 v34n22 x7) fun v36n23 =>
 ifV v36n23 (
 insB (evBS3 PP 22 1 [(0, (Value.int .i64 0))]) fun v38n24 =>
 insB (evAppend3 PP 22 x8 v38n24) fun v39n25 =>
 optK (q_add PP 3 x9 v23n6) fun v45n26 =>
 optK (q_add PP 3 x20 (Value.int .i64 1)) fun v46n27 =>
 LB_balerref12_First lf d rec k fu x0 x1 x4 x5 x6 x7 v39n25 v45n26 x14 x15 x16 x18 x19 v46n27) (
 insB (evBS3 PP 22 1 [(0, (Value.int .i64 15))]) fun v41n28 =>
 insB (evAppend3 PP 22 x8 v41n28) fun v42n29 =>
 optK (q_add PP 3 x9 v23n6) fun v45n30 =>
 optK (q_add PP 3 x20 (Value.int .i64 1)) fun v46n31 =>
 LB_balerref12_First lf d rec k fu x0 x1 x4 x5 x6 x7 v42n29 v45n30 x14 x15 x16 x18 x19 v46n31))) (
 k (Ex.exit 2) [(0, x0), (1, x1), (4, x4), (5, x5), (6, x6), (7, x7), (8, x8), (9, x9), (14, x14), (15, x15), (16, x16), (18, x18), (19, x19), (20, x20), (21, v21n4)])
noncomputable def KB_balerref12_First (lf d : Nat) (rec : RT) (fu : Nat) (k : KT) (again : Value → Value → Value → Value → Value → Value → Value → M Value) (dflt : KT) : KT := (kEx 2 (runCur [0, 1, 4, 5, 6, 7, 8, 9, 14, 15, 16, 18, 19, 20, 21] (fun y0 y1 y4 y5 y6 y7 y8 y9 y14 y15 y16 y18 y19 y20 y21 =>
 insB (evBS3 PP 72 1 [(0, y8)]) fun v49n32 =>
 insB (evAppend3 PP 72 y6 v49n32) fun v50n33 =>
 optK (q_add PP 3 y15 (Value.int .i64 1)) fun v51n34 =>
 again y0 y1 y4 y5 v50n33 y14 v51n34) (dflt (Ex.exit 2))) dflt)
noncomputable def LA_balerref12_First (lf d : Nat) (rec : RT) (k : KT) : Nat → Value → Value → Value → Value → Value → Value → Value → M Value
 | 0, _, _, _, _, _, _, _ => M.fail
 | fu + 1, x0, x1, x4, x5, x6, x14, x15 =>
 optK (q_lss PP 3 x15 x14) fun v16n2 =>
 ifV v16n2 (
 optK (len2 PP #[22] [x0]) fun v19n3 =>
 LB_balerref12_First lf d rec (KB_balerref12_First lf d rec fu k (LA_balerref12_First lf d rec k fu) (kcB_balerref12_First lf d fu k)) lf x0 x1 x4 x5 x6 x15 (Value.slice none 0 0) (Value.int .i64 0) x14 x15 v16n2 x0 v19n3 (Value.int .i64 0)) (
 k (Ex.exit 0) [(0, x0), (1, x1), (4, x4), (5, x5), (6, x6), (14, x14), (15, x15), (16, v16n2)])
noncomputable def F_balerref12_First (lf d : Nat) (rec : RT) (a0 a1 : Value) : M Value :=
 (inside (rec 252 #[a1])).bind fun v13n1 =>
 LA_balerref12_First lf d rec (KA_balerref12_First lf d rec (kcA_balerref12_First lf d)) lf a0 a1 (Value.slice none 0 0) v13n1 (Value.slice none 0 0) v13n1 (Value.int .i64 0)
set_option maxRecDepth 20000 in
theorem KQA_balerref12_First (lf d : Nat) : KA_balerref12_First lf d (evC lf d) (kcA_balerref12_First lf d) = kcA_balerref12_First lf d := by
  unfold KA_balerref12_First
  refine Eq.trans (kEx_eq ?_) ?_
  · exact (runCur_eq _ _ _ (by intro y0 y1 y4 y5 y6 y14 y15 y16; show _ = _; (try simp only [clash3_eq, insB_eq]); kernel_rfl))
  rfl
theorem LQB_balerref12_First (lf d : Nat) (k : KT) : ∀ fu : Nat, LB_balerref12_First lf d (evC lf d) k fu = lpB_balerref12_First lf d fu k
  | 0 => by funext x0 x1 x4 x5 x6 x7 x8 x9 x14 x15 x16 x18 x19 x20; kernel_rfl
  | fu + 1 => by
    have ih := LQB_balerref12_First lf d k fu
    funext x0 x1 x4 x5 x6 x7 x8 x9 x14 x15 x16 x18 x19 x20; simp only [LB_balerref12_First, ih, clash3_eq, evAppend3_eq, evBS3_eq, evIA3_eq (P := PP) Tryz.underlying22 gs3, evLoad3_eq (P := PP) ga3, insB_eq, q_add_eq (P := PP) nf3, q_eql_eq (P := PP) nf3, q_gtr_eq (P := PP) nf3, q_lss_eq (P := PP) nf3, q_mul_eq (P := PP) nf3, q_quo_eq (P := PP) nf3, q_sub_eq (P := PP) nf3]; kernel_rfl
set_option maxRecDepth 20000 in
theorem KQB_balerref12_First (lf d fu : Nat) (k : KT) (again : Value → Value → Value → Value → Value → Value → Value → M Value) (ha : again = lpA_balerref12_First lf d fu k) : KB_balerref12_First lf d (evC lf d) fu k again (kcB_balerref12_First lf d fu k) = kcB_balerref12_First lf d fu k := by
  subst ha
  unfold KB_balerref12_First
  refine Eq.trans (kEx_eq ?_) ?_
  · exact (runCur_eq _ _ _ (by intro y0 y1 y4 y5 y6 y7 y8 y9 y14 y15 y16 y18 y19 y20 y21; show _ = _; (try simp only [clash3_eq, evAppend3_eq, evBS3_eq, insB_eq, q_add_eq (P := PP) nf3]); kernel_rfl))
  rfl
theorem LQA_balerref12_First (lf d : Nat) (k : KT) : ∀ fu : Nat, LA_balerref12_First lf d (evC lf d) k fu = lpA_balerref12_First lf d fu k
  | 0 => by funext x0 x1 x4 x5 x6 x14 x15; kernel_rfl
  | fu + 1 => by
    have ih := LQA_balerref12_First lf d k fu
    funext x0 x1 x4 x5 x6 x14 x15; simp only [LA_balerref12_First, ih, KQB_balerref12_First lf d fu k _ rfl, LQB_balerref12_First, clash3_eq, insB_eq, q_lss_eq (P := PP) nf3]; kernel_rfl
theorem fsh_balerref12_First (lf d : Nat) (a0 a1 : Value) : inside (F_balerref12_First lf d (evC lf d) a0 a1) = evC lf (d + 1) 240 #[a0, a1] := by
  unfold F_balerref12_First; (try simp only [KQA_balerref12_First lf d, LQA_balerref12_First, clash3_eq, insB_eq]); kernel_rfl

noncomputable def lpA_balerref08_Counts (lf d fu : Nat) (k : KT) (x0 x1 x4 x5 x7 x8 : Value) : M Value := loopK (fun s1 k1 => codeK PP (evC lf d) (gtA 241) lf (codeAt (bodyOf PP 241) [true, true, false, true, false, false]) s1 k1) [0, 1, 4, 5, 7, 8] fu [(0, x0), (1, x1), (4, x4), (5, x5), (7, x7), (8, x8)] k
noncomputable def kcA_balerref08_Counts (lf d : Nat) : KT := contAt PP (evC lf d) (gtA 241) lf (bodyOf PP 241) [true, true, false, true, false] (endK PP (resOf PP 241))
noncomputable def LA_balerref08_Counts (lf d : Nat) (rec : RT) (k : KT) : Nat → Value → Value → Value → Value → Value → Value → M Value
 | 0, _, _, _, _, _, _ => M.fail
 | fu + 1, x0, x1, x4, x5, x7, x8 =>
 optK (q_lss PP 3 x8 x7) fun v9n1 =>
 ifV v9n1 (
 (inside (rec 253 #[x0, x8])).bind fun v14n2 =>
 insB (evBS3 PP 22 1 [(0, v14n2)]) fun v15n3 =>
 insB (evAppend3 PP 22 x5 v15n3) fun v16n4 =>
 optK (q_add PP 3 x8 (Value.int .i64 1)) fun v17n5 =>
 LA_balerref08_Counts lf d rec k fu x0 x1 x4 v16n4 x7 v17n5) (
 k (Ex.exit 0) [(0, x0), (1, x1), (4, x4), (5, x5), (7, x7), (8, x8), (9, v9n1)])
noncomputable def KA_balerref08_Counts (lf d : Nat) (rec : RT) (dflt : KT) : KT := (kEx 0 (runCur [0, 1, 4, 5, 7, 8, 9] (fun y0 y1 y4 y5 y7 y8 y9 =>
 outK [y5]) (dflt (Ex.exit 0))) dflt)
noncomputable def F_balerref08_Counts (lf d : Nat) (rec : RT) (a0 a1 : Value) : M Value :=
 LA_balerref08_Counts lf d rec (KA_balerref08_Counts lf d rec (kcA_balerref08_Counts lf d)) lf a0 a1 (Value.slice none 0 0) (Value.slice none 0 0) a1 (Value.int .i64 0)
theorem LQA_balerref08_Counts (lf d : Nat) (k : KT) : ∀ fu : Nat, LA_balerref08_Counts lf d (evC lf d) k fu = lpA_balerref08_Counts lf d fu k
  | 0 => by funext x0 x1 x4 x5 x7 x8; kernel_rfl
  | fu + 1 => by
    have ih := LQA_balerref08_Counts lf d k fu
    funext x0 x1 x4 x5 x7 x8; simp only [LA_balerref08_Counts, ih, clash3_eq, evAppend3_eq, evBS3_eq, insB_eq, q_add_eq (P := PP) nf3, q_lss_eq (P := PP) nf3]; kernel_rfl
set_option maxRecDepth 20000 in
theorem KQA_balerref08_Counts (lf d : Nat) : KA_balerref08_Counts lf d (evC lf d) (kcA_balerref08_Counts lf d) = kcA_balerref08_Counts lf d := by
  unfold KA_balerref08_Counts
  refine Eq.trans (kEx_eq ?_) ?_
  · exact (runCur_eq _ _ _ (by intro y0 y1 y4 y5 y7 y8 y9; show _ = _; (try simp only [clash3_eq, insB_eq]); kernel_rfl))
  rfl
theorem fsh_balerref08_Counts (lf d : Nat) (a0 a1 : Value) : inside (F_balerref08_Counts lf d (evC lf d) a0 a1) = evC lf (d + 1) 241 #[a0, a1] := by
  unfold F_balerref08_Counts; (try simp only [KQA_balerref08_Counts lf d, LQA_balerref08_Counts, clash3_eq, insB_eq]); kernel_rfl

noncomputable def lpA_balerref08_Groups (lf d fu : Nat) (k : KT) (x0 x2 x3 x4 x7 x8 x9 : Value) : M Value := loopK (fun s1 k1 => codeK PP (evC lf d) (gtA 242) lf (codeAt (bodyOf PP 242) [true, true, true, false, true, false, false]) s1 k1) [0, 2, 3, 4, 7, 8, 9] fu [(0, x0), (2, x2), (3, x3), (4, x4), (7, x7), (8, x8), (9, x9)] k
noncomputable def kcA_balerref08_Groups (lf d : Nat) : KT := contAt PP (evC lf d) (gtA 242) lf (bodyOf PP 242) [true, true, true, false, true, false] (endK PP (resOf PP 242))
noncomputable def LA_balerref08_Groups (lf d : Nat) (rec : RT) (k : KT) : Nat → Value → Value → Value → Value → Value → Value → Value → M Value
 | 0, _, _, _, _, _, _, _ => M.fail
 | fu + 1, x0, x2, x3, x4, x7, x8, x9 =>
 optK (q_lss PP 3 x9 x8) fun v10n2 =>
 ifV v10n2 (
 optK (evIA3 PP 22 1 x7 x9) fun v12n3 =>
 insB (evLoad3 PP 3 v12n3) fun v13n4 =>
 insB (evBS3 PP 22 1 [(0, v13n4)]) fun v16n5 =>
 insB (evAppend3 PP 22 x4 v16n5) fun v17n6 =>
 optK (len2 PP #[22] [v17n6]) fun v19n7 =>
 optK (q_eql PP 3 v19n7 (Value.int .i64 50)) fun v20n8 =>
 ifV v20n8 (
 insB (evBS3 PP 72 1 [(0, v17n6)]) fun v30n9 =>
 insB (evAppend3 PP 72 x3 v30n9) fun v31n10 =>
 optK (q_add PP 3 x9 (Value.int .i64 1)) fun v32n11 =>
 LA_balerref08_Groups lf d rec k fu x0 x2 v31n10 (Value.slice none 0 0) x7 x8 v32n11) (
 optK (q_add PP 3 x9 (Value.int .i64 1)) fun v23n12 =>
 optK (len2 PP #[22] [x0]) fun v25n13 =>
 optK (q_eql PP 3 v23n12 v25n13) fun v26n14 =>
 ifV v26n14 (
 insB (evBS3 PP 72 1 [(0, v17n6)]) fun v30n15 =>
 insB (evAppend3 PP 72 x3 v30n15) fun v31n16 =>
 optK (q_add PP 3 x9 (Value.int .i64 1)) fun v32n17 =>
 LA_balerref08_Groups lf d rec k fu x0 x2 v31n16 (Value.slice none 0 0) x7 x8 v32n17) (
 optK (q_add PP 3 x9 (Value.int .i64 1)) fun v32n18 =>
 LA_balerref08_Groups lf d rec k fu x0 x2 x3 v17n6 x7 x8 v32n18))) (
 k (Ex.exit 0) [(0, x0), (2, x2), (3, x3), (4, x4), (7, x7), (8, x8), (9, x9), (10, v10n2)])
noncomputable def KA_balerref08_Groups (lf d : Nat) (rec : RT) (dflt : KT) : KT := (kEx 0 (runCur [0, 2, 3, 4, 7, 8, 9, 10] (fun y0 y2 y3 y4 y7 y8 y9 y10 =>
 outK [y3]) (dflt (Ex.exit 0))) dflt)
noncomputable def F_balerref08_Groups (lf d : Nat) (rec : RT) (a0 : Value) : M Value :=
 optK (len2 PP #[22] [a0]) fun v8n1 =>
 LA_balerref08_Groups lf d rec (KA_balerref08_Groups lf d rec (kcA_balerref08_Groups lf d)) lf a0 (Value.slice none 0 0) (Value.slice none 0 0) (Value.slice none 0 0) a0 v8n1 (Value.int .i64 0)
theorem LQA_balerref08_Groups (lf d : Nat) (k : KT) : ∀ fu : Nat, LA_balerref08_Groups lf d (evC lf d) k fu = lpA_balerref08_Groups lf d fu k
  | 0 => by funext x0 x2 x3 x4 x7 x8 x9; kernel_rfl
  | fu + 1 => by
    have ih := LQA_balerref08_Groups lf d k fu
    funext x0 x2 x3 x4 x7 x8 x9; simp only [LA_balerref08_Groups, ih, clash3_eq, evAppend3_eq, evBS3_eq, evIA3_eq (P := PP) Tryz.underlying22 gs3, evLoad3_eq (P := PP) ga3, insB_eq, q_add_eq (P := PP) nf3, q_eql_eq (P := PP) nf3, q_lss_eq (P := PP) nf3]; kernel_rfl
set_option maxRecDepth 20000 in
theorem KQA_balerref08_Groups (lf d : Nat) : KA_balerref08_Groups lf d (evC lf d) (kcA_balerref08_Groups lf d) = kcA_balerref08_Groups lf d := by
  unfold KA_balerref08_Groups
  refine Eq.trans (kEx_eq ?_) ?_
  · exact (runCur_eq _ _ _ (by intro y0 y2 y3 y4 y7 y8 y9 y10; show _ = _; (try simp only [clash3_eq, insB_eq]); kernel_rfl))
  rfl
theorem fsh_balerref08_Groups (lf d : Nat) (a0 : Value) : inside (F_balerref08_Groups lf d (evC lf d) a0) = evC lf (d + 1) 242 #[a0] := by
  unfold F_balerref08_Groups; (try simp only [KQA_balerref08_Groups lf d, LQA_balerref08_Groups, clash3_eq, insB_eq]); kernel_rfl

noncomputable def lpA_balerref12_pick (lf d fu : Nat) (k : KT) (x0 x1 x4 x5 x8 x9 x10 : Value) : M Value := loopK (fun s1 k1 => codeK PP (evC lf d) (gtA 243) lf (codeAt (bodyOf PP 243) [true, true, false, true, false, false]) s1 k1) [0, 1, 4, 5, 8, 9, 10] fu [(0, x0), (1, x1), (4, x4), (5, x5), (8, x8), (9, x9), (10, x10)] k
noncomputable def kcA_balerref12_pick (lf d : Nat) : KT := contAt PP (evC lf d) (gtA 243) lf (bodyOf PP 243) [true, true, false, true, false] (endK PP (resOf PP 243))
noncomputable def LA_balerref12_pick (lf d : Nat) (rec : RT) (k : KT) : Nat → Value → Value → Value → Value → Value → Value → Value → M Value
 | 0, _, _, _, _, _, _, _ => M.fail
 | fu + 1, x0, x1, x4, x5, x8, x9, x10 =>
 optK (q_lss PP 3 x10 x9) fun v11n2 =>
 ifV v11n2 (
 optK (evIA3 PP 72 1 x8 x10) fun v13n3 =>
 insB (evLoad3 PP 22 v13n3) fun v14n4 =>
 (timed (
 (inside (rec 254 #[x0, v14n4])).bind fun v17n6 => M.ret v17n6)).bind fun vtn5 =>
 optK (evIA3 PP 72 1 x1 x5) fun v21n7 =>
 (timed (
 insB (evLoad3 PP 22 v21n7) fun v22n9 => M.ret v22n9)).bind fun vtn8 =>
 (timed (
 (inside (rec 254 #[x0, vtn8.1])).bind fun v23n11 => M.ret v23n11)).bind fun vtn10 =>
 optK (q_lss PP 3 vtn5.1 vtn10.1) fun v24n12 =>
 chkT ((!(clash3 vtn5.2 vtn8.2) && true) && true) (
 ifV v24n12 (
 optK (q_add PP 3 x10 (Value.int .i64 1)) fun v26n13 =>
 LA_balerref12_pick lf d rec k fu x0 x1 x4 x10 x8 x9 v26n13) (
 optK (q_add PP 3 x10 (Value.int .i64 1)) fun v26n14 =>
 LA_balerref12_pick lf d rec k fu x0 x1 x4 x5 x8 x9 v26n14))) (
 k (Ex.exit 0) [(0, x0), (1, x1), (4, x4), (5, x5), (8, x8), (9, x9), (10, x10), (11, v11n2)])
noncomputable def KA_balerref12_pick (lf d : Nat) (rec : RT) (dflt : KT) : KT := (kEx 0 (runCur [0, 1, 4, 5, 8, 9, 10, 11] (fun y0 y1 y4 y5 y8 y9 y10 y11 =>
 outK [y5]) (dflt (Ex.exit 0))) dflt)
noncomputable def F_balerref12_pick (lf d : Nat) (rec : RT) (a0 a1 : Value) : M Value :=
 optK (len2 PP #[72] [a1]) fun v9n1 =>
 LA_balerref12_pick lf d rec (KA_balerref12_pick lf d rec (kcA_balerref12_pick lf d)) lf a0 a1 (Value.int .i64 0) (Value.int .i64 0) a1 v9n1 (Value.int .i64 0)
theorem LQA_balerref12_pick (lf d : Nat) (k : KT) : ∀ fu : Nat, LA_balerref12_pick lf d (evC lf d) k fu = lpA_balerref12_pick lf d fu k
  | 0 => by funext x0 x1 x4 x5 x8 x9 x10; kernel_rfl
  | fu + 1 => by
    have ih := LQA_balerref12_pick lf d k fu
    funext x0 x1 x4 x5 x8 x9 x10; simp only [LA_balerref12_pick, ih, clash3_eq, evIA3_eq (P := PP) Tryz.underlying72 gs22, evLoad3_eq (P := PP) ga22, insB_eq, q_add_eq (P := PP) nf3, q_lss_eq (P := PP) nf3]; kernel_rfl
set_option maxRecDepth 20000 in
theorem KQA_balerref12_pick (lf d : Nat) : KA_balerref12_pick lf d (evC lf d) (kcA_balerref12_pick lf d) = kcA_balerref12_pick lf d := by
  unfold KA_balerref12_pick
  refine Eq.trans (kEx_eq ?_) ?_
  · exact (runCur_eq _ _ _ (by intro y0 y1 y4 y5 y8 y9 y10 y11; show _ = _; (try simp only [clash3_eq, insB_eq]); kernel_rfl))
  rfl
theorem fsh_balerref12_pick (lf d : Nat) (a0 a1 : Value) : inside (F_balerref12_pick lf d (evC lf d) a0 a1) = evC lf (d + 1) 243 #[a0, a1] := by
  unfold F_balerref12_pick; (try simp only [KQA_balerref12_pick lf d, LQA_balerref12_pick, clash3_eq, insB_eq]); kernel_rfl

noncomputable def lpA_balerref09_Of (lf d fu : Nat) (k : KT) (x0 x2 x3 x7 x8 x9 : Value) : M Value := loopK (fun s1 k1 => codeK PP (evC lf d) (gtA 244) lf (codeAt (bodyOf PP 244) [true, true, false, true, false, false]) s1 k1) [0, 2, 3, 7, 8, 9] fu [(0, x0), (2, x2), (3, x3), (7, x7), (8, x8), (9, x9)] k
noncomputable def kcA_balerref09_Of (lf d : Nat) : KT := contAt PP (evC lf d) (gtA 244) lf (bodyOf PP 244) [true, true, false, true, false] (endK PP (resOf PP 244))
noncomputable def lpB_balerref09_Of (lf d fu : Nat) (k : KT) (x0 x2 x3 x7 x8 x9 x10 x20 : Value) : M Value := loopK (fun s1 k1 => codeK PP (evC lf d) (gtA 244) lf (codeAt (bodyOf PP 244) [true, true, true, false, true, false, false]) s1 k1) [0, 2, 3, 7, 8, 9, 10, 20] fu [(0, x0), (2, x2), (3, x3), (7, x7), (8, x8), (9, x9), (10, x10), (20, x20)] k
noncomputable def kcB_balerref09_Of (lf d : Nat) : KT := contAt PP (evC lf d) (gtA 244) lf (bodyOf PP 244) [true, true, true, false, true, false] (endK PP (resOf PP 244))
noncomputable def LA_balerref09_Of (lf d : Nat) (rec : RT) (k : KT) : Nat → Value → Value → Value → Value → Value → Value → M Value
 | 0, _, _, _, _, _, _ => M.fail
 | fu + 1, x0, x2, x3, x7, x8, x9 =>
 optK (q_lss PP 3 x9 x8) fun v10n2 =>
 ifV v10n2 (
 optK (evIA3 PP 22 1 x7 x9) fun v11n3 =>
 insB (evLoad3 PP 3 v11n3) fun v12n4 =>
 optK (q_eql PP 3 v12n4 (Value.int .i64 0)) fun v14n5 =>
 ifV v14n5 (
 insB (evBS3 PP 22 1 [(0, (Value.int .i64 1))]) fun v17n6 =>
 insB (evAppend3 PP 22 x3 v17n6) fun v18n7 =>
 optK (q_add PP 3 x9 (Value.int .i64 1)) fun v19n8 =>
 LA_balerref09_Of lf d rec k fu x0 x2 v18n7 x7 x8 v19n8) (
 insB (evBS3 PP 22 1 [(0, v12n4)]) fun v17n9 =>
 insB (evAppend3 PP 22 x3 v17n9) fun v18n10 =>
 optK (q_add PP 3 x9 (Value.int .i64 1)) fun v19n11 =>
 LA_balerref09_Of lf d rec k fu x0 x2 v18n10 x7 x8 v19n11)) (
 k (Ex.exit 0) [(0, x0), (2, x2), (3, x3), (7, x7), (8, x8), (9, x9), (10, v10n2)])
noncomputable def LB_balerref09_Of (lf d : Nat) (rec : RT) (k : KT) : Nat → Value → Value → Value → Value → Value → Value → Value → Value → M Value
 | 0, _, _, _, _, _, _, _, _ => M.fail
 | fu + 1, x0, x2, x3, x7, x8, x9, x10, x20 =>
 optK (q_lss PP 3 x20 (Value.int .i64 100)) fun v21n12 =>
 ifV v21n12 (
 (inside (rec 255 #[x3])).bind fun v23n13 =>
 (inside (rec 256 #[v23n13, (Value.int .i64 1), (Value.int .i64 20)])).bind fun v25n14 =>
 ifV v25n14 (
 k Ex.ret [(0, x0), (2, v23n13), (3, x3), (6, v23n13), (7, x7), (8, x8), (9, x9), (10, x10), (20, x20), (21, v21n12), (25, v25n14)]) (
 (inside (rec 257 #[x3])).bind fun v28n15 =>
 optK (q_add PP 3 x20 (Value.int .i64 1)) fun v29n16 =>
 LB_balerref09_Of lf d rec k fu x0 x2 v28n15 x7 x8 x9 x10 v29n16)) (
 k (Ex.exit 2) [(0, x0), (2, x2), (3, x3), (7, x7), (8, x8), (9, x9), (10, x10), (20, x20), (21, v21n12)])
noncomputable def KB_balerref09_Of (lf d : Nat) (rec : RT) (dflt : KT) : KT := (kEx 2 (runCur [0, 2, 3, 7, 8, 9, 10, 20, 21] (fun y0 y2 y3 y7 y8 y9 y10 y20 y21 =>
 outK [(Value.slice none 0 0)]) (dflt (Ex.exit 2))) (kRt (runCur [0, 2, 3, 6, 7, 8, 9, 10, 20, 21, 25] (fun y0 y2 y3 y6 y7 y8 y9 y10 y20 y21 y25 =>
 outK [y2]) (dflt Ex.ret)) dflt))
noncomputable def KA_balerref09_Of (lf d : Nat) (rec : RT) (dflt : KT) : KT := (kEx 0 (runCur [0, 2, 3, 7, 8, 9, 10] (fun y0 y2 y3 y7 y8 y9 y10 =>
 LB_balerref09_Of lf d rec (KB_balerref09_Of lf d rec (kcB_balerref09_Of lf d)) lf y0 y2 y3 y7 y8 y9 y10 (Value.int .i64 0)) (dflt (Ex.exit 0))) dflt)
noncomputable def F_balerref09_Of (lf d : Nat) (rec : RT) (a0 : Value) : M Value :=
 optK (len2 PP #[22] [a0]) fun v8n1 =>
 LA_balerref09_Of lf d rec (KA_balerref09_Of lf d rec (kcA_balerref09_Of lf d)) lf a0 (Value.slice none 0 0) (Value.slice none 0 0) a0 v8n1 (Value.int .i64 0)
theorem LQA_balerref09_Of (lf d : Nat) (k : KT) : ∀ fu : Nat, LA_balerref09_Of lf d (evC lf d) k fu = lpA_balerref09_Of lf d fu k
  | 0 => by funext x0 x2 x3 x7 x8 x9; kernel_rfl
  | fu + 1 => by
    have ih := LQA_balerref09_Of lf d k fu
    funext x0 x2 x3 x7 x8 x9; simp only [LA_balerref09_Of, ih, clash3_eq, evAppend3_eq, evBS3_eq, evIA3_eq (P := PP) Tryz.underlying22 gs3, evLoad3_eq (P := PP) ga3, insB_eq, q_add_eq (P := PP) nf3, q_eql_eq (P := PP) nf3, q_lss_eq (P := PP) nf3]; kernel_rfl
theorem LQB_balerref09_Of (lf d : Nat) (k : KT) : ∀ fu : Nat, LB_balerref09_Of lf d (evC lf d) k fu = lpB_balerref09_Of lf d fu k
  | 0 => by funext x0 x2 x3 x7 x8 x9 x10 x20; kernel_rfl
  | fu + 1 => by
    have ih := LQB_balerref09_Of lf d k fu
    funext x0 x2 x3 x7 x8 x9 x10 x20; simp only [LB_balerref09_Of, ih, clash3_eq, insB_eq, q_add_eq (P := PP) nf3, q_lss_eq (P := PP) nf3]; kernel_rfl
set_option maxRecDepth 20000 in
theorem KQB_balerref09_Of (lf d : Nat) : KB_balerref09_Of lf d (evC lf d) (kcB_balerref09_Of lf d) = kcB_balerref09_Of lf d := by
  unfold KB_balerref09_Of
  refine Eq.trans (kEx_eq ?_) ?_
  · exact (runCur_eq _ _ _ (by intro y0 y2 y3 y7 y8 y9 y10 y20 y21; show _ = _; (try simp only [clash3_eq, insB_eq]); kernel_rfl))
  refine Eq.trans (kRt_eq ?_) ?_
  · exact (runCur_eq _ _ _ (by intro y0 y2 y3 y6 y7 y8 y9 y10 y20 y21 y25; show _ = _; (try simp only [clash3_eq, insB_eq]); kernel_rfl))
  rfl
set_option maxRecDepth 20000 in
theorem KQA_balerref09_Of (lf d : Nat) : KA_balerref09_Of lf d (evC lf d) (kcA_balerref09_Of lf d) = kcA_balerref09_Of lf d := by
  unfold KA_balerref09_Of
  refine Eq.trans (kEx_eq ?_) ?_
  · exact (runCur_eq _ _ _ (by intro y0 y2 y3 y7 y8 y9 y10; show _ = _; (try simp only [KQB_balerref09_Of lf d, LQB_balerref09_Of, clash3_eq, insB_eq]); kernel_rfl))
  rfl
theorem fsh_balerref09_Of (lf d : Nat) (a0 : Value) : inside (F_balerref09_Of lf d (evC lf d) a0) = evC lf (d + 1) 244 #[a0] := by
  unfold F_balerref09_Of; (try simp only [KQA_balerref09_Of lf d, LQA_balerref09_Of, clash3_eq, insB_eq]); kernel_rfl

noncomputable def lpA_balerref10_next (lf d fu : Nat) (k : KT) (x0 x1 x4 x5 x6 x7 : Value) : M Value := loopK (fun s1 k1 => codeK PP (evC lf d) (gtA 245) lf (codeAt (bodyOf PP 245) [true, true, true, false, true, false, false]) s1 k1) [0, 1, 4, 5, 6, 7] fu [(0, x0), (1, x1), (4, x4), (5, x5), (6, x6), (7, x7)] k
noncomputable def kcA_balerref10_next (lf d : Nat) : KT := contAt PP (evC lf d) (gtA 245) lf (bodyOf PP 245) [true, true, true, false, true, false] (endK PP (resOf PP 245))
noncomputable def lpB_balerref10_next (lf d fu : Nat) (k : KT) (x0 x1 x4 x5 x6 x7 x13 : Value) : M Value := loopK (fun s1 k1 => codeK PP (evC lf d) (gtA 245) lf (codeAt (bodyOf PP 245) [true, true, true, true, false, false, false]) s1 k1) [0, 1, 4, 5, 6, 7, 13] fu [(0, x0), (1, x1), (4, x4), (5, x5), (6, x6), (7, x7), (13, x13)] k
noncomputable def kcB_balerref10_next (lf d : Nat) : KT := contAt PP (evC lf d) (gtA 245) lf (bodyOf PP 245) [true, true, true, true, false, false] (endK PP (resOf PP 245))
noncomputable def LA_balerref10_next (lf d : Nat) (rec : RT) (k : KT) : Nat → Value → Value → Value → Value → Value → Value → M Value
 | 0, _, _, _, _, _, _ => M.fail
 | fu + 1, x0, x1, x4, x5, x6, x7 =>
 optK (q_geq PP 3 x7 (Value.int .i64 0)) fun v13n3 =>
 ifV v13n3 (
 optK (index3 PP 9 x0 x7) fun v18n4 =>
 optK (q_eql PP 5 v18n4 (Value.int .u8 49)) fun v19n5 =>
 optK (bin2 PP .neq 4 v19n5 x6) fun v22n6 =>
 ifV v22n6 (
 optK (qS_add PP 9 (Value.string { data := #[49] }) x5) fun v24n7 =>
 ifV x6 (
 optK (q_sub PP 3 x7 (Value.int .i64 1)) fun v15n8 =>
 LA_balerref10_next lf d rec k fu x0 x1 x4 v24n7 v19n5 v15n8) (
 optK (q_sub PP 3 x7 (Value.int .i64 1)) fun v15n9 =>
 LA_balerref10_next lf d rec k fu x0 x1 x4 v24n7 (Value.bool false) v15n9)) (
 optK (qS_add PP 9 (Value.string { data := #[48] }) x5) fun v26n10 =>
 ifV x6 (
 optK (q_sub PP 3 x7 (Value.int .i64 1)) fun v15n11 =>
 LA_balerref10_next lf d rec k fu x0 x1 x4 v26n10 v19n5 v15n11) (
 optK (q_sub PP 3 x7 (Value.int .i64 1)) fun v15n12 =>
 LA_balerref10_next lf d rec k fu x0 x1 x4 v26n10 (Value.bool false) v15n12))) (
 k (Ex.exit 0) [(0, x0), (1, x1), (4, x4), (5, x5), (6, x6), (7, x7), (13, v13n3)])
noncomputable def LB_balerref10_next (lf d : Nat) (rec : RT) (k : KT) : Nat → Value → Value → Value → Value → Value → Value → Value → M Value
 | 0, _, _, _, _, _, _, _ => M.fail
 | fu + 1, x0, x1, x4, x5, x6, x7, x13 =>
 optK (len2 PP #[9] [x5]) fun v32n13 =>
 optK (q_lss PP 3 v32n13 x1) fun v34n14 =>
 ifV v34n14 (
 optK (qS_add PP 9 x5 (Value.string { data := #[48] })) fun v36n15 =>
 LB_balerref10_next lf d rec k fu x0 x1 x4 v36n15 x6 x7 x13) (
 k (Ex.exit 2) [(0, x0), (1, x1), (4, x4), (5, x5), (6, x6), (7, x7), (13, x13), (34, v34n14)])
noncomputable def KB_balerref10_next (lf d : Nat) (rec : RT) (dflt : KT) : KT := (kEx 2 (runCur [0, 1, 4, 5, 6, 7, 13, 34] (fun y0 y1 y4 y5 y6 y7 y13 y34 =>
 outK [y5]) (dflt (Ex.exit 2))) dflt)
noncomputable def KA_balerref10_next (lf d : Nat) (rec : RT) (dflt : KT) : KT := (kEx 0 (runCur [0, 1, 4, 5, 6, 7, 13] (fun y0 y1 y4 y5 y6 y7 y13 =>
 LB_balerref10_next lf d rec (KB_balerref10_next lf d rec (kcB_balerref10_next lf d)) lf y0 y1 y4 y5 y6 y7 y13) (dflt (Ex.exit 0))) dflt)
noncomputable def F_balerref10_next (lf d : Nat) (rec : RT) (a0 a1 : Value) : M Value :=
 optK (len2 PP #[9] [a0]) fun v10n1 =>
 optK (q_sub PP 3 v10n1 (Value.int .i64 1)) fun v11n2 =>
 LA_balerref10_next lf d rec (KA_balerref10_next lf d rec (kcA_balerref10_next lf d)) lf a0 a1 (Value.string { data := #[] }) (Value.string { data := #[] }) (Value.bool true) v11n2
theorem LQA_balerref10_next (lf d : Nat) (k : KT) : ∀ fu : Nat, LA_balerref10_next lf d (evC lf d) k fu = lpA_balerref10_next lf d fu k
  | 0 => by funext x0 x1 x4 x5 x6 x7; kernel_rfl
  | fu + 1 => by
    have ih := LQA_balerref10_next lf d k fu
    funext x0 x1 x4 x5 x6 x7; simp only [LA_balerref10_next, ih, clash3_eq, index3_eq (P := PP) Tryz.underlying9, insB_eq, qS_add_eq (P := PP) nf9, q_eql_eq (P := PP) nf5, q_geq_eq (P := PP) nf3, q_sub_eq (P := PP) nf3]; kernel_rfl
theorem LQB_balerref10_next (lf d : Nat) (k : KT) : ∀ fu : Nat, LB_balerref10_next lf d (evC lf d) k fu = lpB_balerref10_next lf d fu k
  | 0 => by funext x0 x1 x4 x5 x6 x7 x13; kernel_rfl
  | fu + 1 => by
    have ih := LQB_balerref10_next lf d k fu
    funext x0 x1 x4 x5 x6 x7 x13; simp only [LB_balerref10_next, ih, clash3_eq, insB_eq, qS_add_eq (P := PP) nf9, q_lss_eq (P := PP) nf3]; kernel_rfl
set_option maxRecDepth 20000 in
theorem KQB_balerref10_next (lf d : Nat) : KB_balerref10_next lf d (evC lf d) (kcB_balerref10_next lf d) = kcB_balerref10_next lf d := by
  unfold KB_balerref10_next
  refine Eq.trans (kEx_eq ?_) ?_
  · exact (runCur_eq _ _ _ (by intro y0 y1 y4 y5 y6 y7 y13 y34; show _ = _; (try simp only [clash3_eq, insB_eq]); kernel_rfl))
  rfl
set_option maxRecDepth 20000 in
theorem KQA_balerref10_next (lf d : Nat) : KA_balerref10_next lf d (evC lf d) (kcA_balerref10_next lf d) = kcA_balerref10_next lf d := by
  unfold KA_balerref10_next
  refine Eq.trans (kEx_eq ?_) ?_
  · exact (runCur_eq _ _ _ (by intro y0 y1 y4 y5 y6 y7 y13; show _ = _; (try simp only [KQB_balerref10_next lf d, LQB_balerref10_next, clash3_eq, insB_eq]); kernel_rfl))
  rfl
theorem fsh_balerref10_next (lf d : Nat) (a0 a1 : Value) : inside (F_balerref10_next lf d (evC lf d) a0 a1) = evC lf (d + 1) 245 #[a0, a1] := by
  unfold F_balerref10_next; (try simp only [KQA_balerref10_next lf d, LQA_balerref10_next, clash3_eq, insB_eq, q_sub_eq (P := PP) nf3]); kernel_rfl

noncomputable def F_rle_text (lf d : Nat) (rec : RT) (a0 : Value) : M Value :=
 insB (evBox3 PP 166 a0) fun v1n1 =>
 optK (evFA3 PP 166 0 v1n1 0) fun v4n2 =>
 insB (evLoad3 PP 5 v4n2) fun v5n3 =>
 insB (evBS3 PP 133 1 [(0, v5n3)]) fun v6n4 =>
 insB (evToStr3 v6n4) fun v7n5 =>
 optK (evFA3 PP 166 1 v1n1 1) fun v8n6 =>
 insB (evLoad3 PP 3 v8n6) fun v9n7 =>
 optK (q_lss PP 3 v9n7 (Value.int .i64 4)) fun v10n8 =>
 ifV v10n8 (
 optK (evFA3 PP 166 1 v1n1 1) fun v12n9 =>
 insB (evLoad3 PP 3 v12n9) fun v13n10 =>
 (inside (rec 258 #[v7n5, v13n10])).bind fun v14n11 =>
 outK [v14n11]) (
 (timed (
 (inside (rec 258 #[v7n5, (Value.int .i64 4)])).bind fun v16n13 => M.ret v16n13)).bind fun vtn12 =>
 optK (evFA3 PP 166 1 v1n1 1) fun v17n14 =>
 (timed (
 insB (evLoad3 PP 3 v17n14) fun v18n16 => M.ret v18n16)).bind fun vtn15 =>
 optK (q_sub PP 3 vtn15.1 (Value.int .i64 4)) fun v19n17 =>
 (timed (
 conv3 PP 3 5 .i64 .u8 v19n17 fun v20n19 => M.ret v20n19)).bind fun vtn18 =>
 (timed (
 insB (evBS3 PP 133 1 [(0, vtn18.1)]) fun v21n21 => M.ret v21n21)).bind fun vtn20 =>
 (timed (
 insB (evToStr3 vtn20.1) fun v22n23 => M.ret v22n23)).bind fun vtn22 =>
 optK (qS_add PP 9 vtn12.1 vtn22.1) fun v23n24 =>
 chkT ((!(clash3 vtn12.2 vtn15.2) && (!(clash3 vtn12.2 vtn18.2) && (!(clash3 vtn12.2 vtn20.2) && (!(clash3 vtn12.2 vtn22.2) && true)))) && true) (
 outK [v23n24]))
theorem fsh_rle_text (lf d : Nat) (a0 : Value) : inside (F_rle_text lf d (evC lf d) a0) = evC lf (d + 1) 246 #[a0] := by
  unfold F_rle_text; (try simp only [clash3_eq, conv3_eq cw3x5, evBS3_eq, evBox3_eq, evFA3_eq (P := PP) gf166f0, evFA3_eq (P := PP) gf166f1, evLoad3_eq (P := PP) ga3, evLoad3_eq (P := PP) ga5, evToStr3_eq, insB_eq, qS_add_eq (P := PP) nf9, q_lss_eq (P := PP) nf3, q_sub_eq (P := PP) nf3]); kernel_rfl

noncomputable def F_crc_step (lf d : Nat) (rec : RT) (a0 a1 a2 : Value) : M Value :=
 optK (q_shl PP 38 a1 (Value.int .u64 8)) fun v8n1 =>
 optK (q_shr PP 38 a1 (Value.int .u64 24)) fun v11n2 =>
 conv3 PP 38 5 .u32 .u8 v11n2 fun v12n3 =>
 optK (q_xor PP 5 v12n3 a2) fun v14n4 =>
 optK (nil2 a0) fun v15n5 =>
 optK (evIAP3 PP 204 256 1 v15n5 v14n4) fun v16n6 =>
 insB (evLoad3 PP 38 v16n6) fun v17n7 =>
 optK (q_xor PP 38 v8n1 v17n7) fun v18n8 =>
 outK [v18n8]
theorem fsh_crc_step (lf d : Nat) (a0 a1 a2 : Value) : inside (F_crc_step lf d (evC lf d) a0 a1 a2) = evC lf (d + 1) 247 #[a0, a1, a2] := by
  unfold F_crc_step; (try simp only [clash3_eq, conv3_eq cw38x5, evIAP3_eq (P := PP) Tryz.underlying204 gs38, evLoad3_eq (P := PP) ga38, insB_eq, q_shl_eq (P := PP) nf38, q_shr_eq (P := PP) nf38, q_xor_eq (P := PP) nf38, q_xor_eq (P := PP) nf5]); kernel_rfl

noncomputable def F_slices_SortStableFunc_int_int (lf d : Nat) (rec : RT) (a0 a1 : Value) : M Value :=
 optK (len2 PP #[22] [a0]) fun v6n1 =>
 (inside (rec 259 #[a0, v6n1, a1])).bind fun v8n2 =>
 outK []
theorem fsh_slices_SortStableFunc_int_int (lf d : Nat) (a0 a1 : Value) : inside (F_slices_SortStableFunc_int_int lf d (evC lf d) a0 a1) = evC lf (d + 1) 248 #[a0, a1] := by
  unfold F_slices_SortStableFunc_int_int; (try simp only [clash3_eq, insB_eq]); kernel_rfl

noncomputable def F_lens_treesOf_1 (lf d : Nat) (rec : RT) (a0 a1 a2 : Value) : M Value :=
 insB (evLoad3 PP 22 a2) fun v6n1 =>
 optK (evIA3 PP 22 1 v6n1 a0) fun v8n2 =>
 insB (evLoad3 PP 3 v8n2) fun v9n3 =>
 insB (evLoad3 PP 22 a2) fun v10n4 =>
 optK (evIA3 PP 22 1 v10n4 a1) fun v12n5 =>
 insB (evLoad3 PP 3 v12n5) fun v13n6 =>
 (inside (rec 250 #[v9n3, v13n6])).bind fun v14n7 =>
 outK [v14n7]
theorem fsh_lens_treesOf_1 (lf d : Nat) (a0 a1 a2 : Value) : inside (F_lens_treesOf_1 lf d (evC lf d) a0 a1 a2) = evC lf (d + 1) 249 #[a0, a1, a2] := by
  unfold F_lens_treesOf_1; (try simp only [clash3_eq, evIA3_eq (P := PP) Tryz.underlying22 gs3, evLoad3_eq (P := PP) ga22, evLoad3_eq (P := PP) ga3, insB_eq]); kernel_rfl

noncomputable def F_cmp_Compare_int (lf d : Nat) (rec : RT) (a0 a1 : Value) : M Value :=
 (inside (rec 260 #[a0])).bind fun v8n1 =>
 (inside (rec 260 #[a1])).bind fun v10n2 =>
 ifV v8n1 (
 ifV v10n2 (
 outK [(Value.int .i64 0)]) (
 outK [(Value.int .i64 (-1))])) (
 ifV v10n2 (
 outK [(Value.int .i64 1)]) (
 optK (q_lss PP 3 a0 a1) fun v16n3 =>
 ifV v16n3 (
 outK [(Value.int .i64 (-1))]) (
 optK (q_gtr PP 3 a0 a1) fun v19n4 =>
 ifV v19n4 (
 outK [(Value.int .i64 1)]) (
 outK [(Value.int .i64 0)]))))
theorem fsh_cmp_Compare_int (lf d : Nat) (a0 a1 : Value) : inside (F_cmp_Compare_int lf d (evC lf d) a0 a1) = evC lf (d + 1) 250 #[a0, a1] := by
  unfold F_cmp_Compare_int; (try simp only [clash3_eq, insB_eq, q_gtr_eq (P := PP) nf3, q_lss_eq (P := PP) nf3]); kernel_rfl

noncomputable def F_sorter_Sorter_key (lf d : Nat) (rec : RT) (a0 a1 : Value) : M Value :=
 insB (evAllocZ 23 (repV (Value.int .i64 0) 2)) fun v4n1 =>
 optK (nil2 a0) fun v6n2 =>
 optK (evFA3 PP 214 4 v6n2 4) fun v7n3 =>
 insB (evLoad3 PP 3 v7n3) fun v8n4 =>
 optK (q_eql PP 3 v8n4 (Value.int .i64 0)) fun v9n5 =>
 ifV v9n5 (
 optK (nil2 a0) fun v11n6 =>
 optK (evFA3 PP 214 0 v11n6 0) fun v12n7 =>
 insB (evLoad3 PP 9 v12n7) fun v13n8 =>
 optK (index3 PP 9 v13n8 a1) fun v15n9 =>
 conv3 PP 5 3 .u8 .i64 v15n9 fun v16n10 =>
 (inside (evBuild PP 23 [(0, v16n10), (1, (Value.int .i64 0))])).bind fun v17n11 =>
 insB (evStoreA3 PP 23 2 v4n1 v17n11) fun u12 =>
 (evLoad PP 23 v4n1).bind fun vrn13 =>
 outK [vrn13]) (
 optK (nil2 a0) fun v19n14 =>
 optK (evFA3 PP 214 2 v19n14 2) fun v20n15 =>
 insB (evLoad3 PP 22 v20n15) fun v21n16 =>
 optK (evIA3 PP 22 1 v21n16 a1) fun v23n17 =>
 insB (evLoad3 PP 3 v23n17) fun v24n18 =>
 optK (nil2 a0) fun v26n19 =>
 optK (evFA3 PP 214 2 v26n19 2) fun v27n20 =>
 insB (evLoad3 PP 22 v27n20) fun v28n21 =>
 optK (nil2 a0) fun v31n22 =>
 optK (evFA3 PP 214 4 v31n22 4) fun v32n23 =>
 insB (evLoad3 PP 3 v32n23) fun v33n24 =>
 optK (q_add PP 3 a1 v33n24) fun v34n25 =>
 optK (nil2 a0) fun v36n26 =>
 optK (evFA3 PP 214 0 v36n26 0) fun v37n27 =>
 insB (evLoad3 PP 9 v37n27) fun v38n28 =>
 optK (len2 PP #[9] [v38n28]) fun v39n29 =>
 optK (q_rem PP 3 v34n25 v39n29) fun v40n30 =>
 optK (evIA3 PP 22 1 v28n21 v40n30) fun v41n31 =>
 insB (evLoad3 PP 3 v41n31) fun v42n32 =>
 (inside (evBuild PP 23 [(0, v24n18), (1, v42n32)])).bind fun v43n33 =>
 insB (evStoreA3 PP 23 2 v4n1 v43n33) fun u34 =>
 (evLoad PP 23 v4n1).bind fun vrn35 =>
 outK [vrn35])
theorem fsh_sorter_Sorter_key (lf d : Nat) (a0 a1 : Value) : inside (F_sorter_Sorter_key lf d (evC lf d) a0 a1) = evC lf (d + 1) 251 #[a0, a1] := by
  unfold F_sorter_Sorter_key; (try simp only [az23, clash3_eq, conv3_eq cw5x3, evFA3_eq (P := PP) gf214f0, evFA3_eq (P := PP) gf214f2, evFA3_eq (P := PP) gf214f4, evIA3_eq (P := PP) Tryz.underlying22 gs3, evLoad3_eq (P := PP) ga22, evLoad3_eq (P := PP) ga3, evLoad3_eq (P := PP) ga9, evStoreA3_eq (P := PP) gs23, index3_eq (P := PP) Tryz.underlying9, insB_eq, q_add_eq (P := PP) nf3, q_eql_eq (P := PP) nf3, q_rem_eq (P := PP) nf3]); kernel_rfl

noncomputable def F_balerref12_Number (lf d : Nat) (rec : RT) (a0 : Value) : M Value :=
 optK (q_lss PP 3 a0 (Value.int .i64 200)) fun v4n1 =>
 ifV v4n1 (
 outK [(Value.int .i64 2)]) (
 optK (q_lss PP 3 a0 (Value.int .i64 600)) fun v6n2 =>
 ifV v6n2 (
 outK [(Value.int .i64 3)]) (
 optK (q_lss PP 3 a0 (Value.int .i64 1200)) fun v8n3 =>
 ifV v8n3 (
 outK [(Value.int .i64 4)]) (
 optK (q_lss PP 3 a0 (Value.int .i64 2400)) fun v10n4 =>
 ifV v10n4 (
 outK [(Value.int .i64 5)]) (
 outK [(Value.int .i64 6)]))))
theorem fsh_balerref12_Number (lf d : Nat) (a0 : Value) : inside (F_balerref12_Number lf d (evC lf d) a0) = evC lf (d + 1) 252 #[a0] := by
  unfold F_balerref12_Number; (try simp only [clash3_eq, insB_eq, q_lss_eq (P := PP) nf3]); kernel_rfl

noncomputable def lpA_balerref08_count (lf d fu : Nat) (k : KT) (x0 x1 x4 x5 x8 x9 x10 : Value) : M Value := loopK (fun s1 k1 => codeK PP (evC lf d) (gtA 253) lf (codeAt (bodyOf PP 253) [true, true, false, true, false, false]) s1 k1) [0, 1, 4, 5, 8, 9, 10] fu [(0, x0), (1, x1), (4, x4), (5, x5), (8, x8), (9, x9), (10, x10)] k
noncomputable def kcA_balerref08_count (lf d : Nat) : KT := contAt PP (evC lf d) (gtA 253) lf (bodyOf PP 253) [true, true, false, true, false] (endK PP (resOf PP 253))
noncomputable def LA_balerref08_count (lf d : Nat) (rec : RT) (k : KT) : Nat → Value → Value → Value → Value → Value → Value → Value → M Value
 | 0, _, _, _, _, _, _, _ => M.fail
 | fu + 1, x0, x1, x4, x5, x8, x9, x10 =>
 optK (q_lss PP 3 x10 x9) fun v11n2 =>
 ifV v11n2 (
 optK (evIA3 PP 22 1 x8 x10) fun v12n3 =>
 insB (evLoad3 PP 3 v12n3) fun v13n4 =>
 optK (q_eql PP 3 x1 v13n4) fun v16n5 =>
 ifV v16n5 (
 optK (q_add PP 3 x5 (Value.int .i64 1)) fun v18n6 =>
 optK (q_add PP 3 x10 (Value.int .i64 1)) fun v19n7 =>
 LA_balerref08_count lf d rec k fu x0 x1 x4 v18n6 x8 x9 v19n7) (
 optK (q_add PP 3 x10 (Value.int .i64 1)) fun v19n8 =>
 LA_balerref08_count lf d rec k fu x0 x1 x4 x5 x8 x9 v19n8)) (
 k (Ex.exit 0) [(0, x0), (1, x1), (4, x4), (5, x5), (8, x8), (9, x9), (10, x10), (11, v11n2)])
noncomputable def KA_balerref08_count (lf d : Nat) (rec : RT) (dflt : KT) : KT := (kEx 0 (runCur [0, 1, 4, 5, 8, 9, 10, 11] (fun y0 y1 y4 y5 y8 y9 y10 y11 =>
 outK [y5]) (dflt (Ex.exit 0))) dflt)
noncomputable def F_balerref08_count (lf d : Nat) (rec : RT) (a0 a1 : Value) : M Value :=
 optK (len2 PP #[22] [a0]) fun v9n1 =>
 LA_balerref08_count lf d rec (KA_balerref08_count lf d rec (kcA_balerref08_count lf d)) lf a0 a1 (Value.int .i64 0) (Value.int .i64 0) a0 v9n1 (Value.int .i64 0)
theorem LQA_balerref08_count (lf d : Nat) (k : KT) : ∀ fu : Nat, LA_balerref08_count lf d (evC lf d) k fu = lpA_balerref08_count lf d fu k
  | 0 => by funext x0 x1 x4 x5 x8 x9 x10; kernel_rfl
  | fu + 1 => by
    have ih := LQA_balerref08_count lf d k fu
    funext x0 x1 x4 x5 x8 x9 x10; simp only [LA_balerref08_count, ih, clash3_eq, evIA3_eq (P := PP) Tryz.underlying22 gs3, evLoad3_eq (P := PP) ga3, insB_eq, q_add_eq (P := PP) nf3, q_eql_eq (P := PP) nf3, q_lss_eq (P := PP) nf3]; kernel_rfl
set_option maxRecDepth 20000 in
theorem KQA_balerref08_count (lf d : Nat) : KA_balerref08_count lf d (evC lf d) (kcA_balerref08_count lf d) = kcA_balerref08_count lf d := by
  unfold KA_balerref08_count
  refine Eq.trans (kEx_eq ?_) ?_
  · exact (runCur_eq _ _ _ (by intro y0 y1 y4 y5 y8 y9 y10 y11; show _ = _; (try simp only [clash3_eq, insB_eq]); kernel_rfl))
  rfl
theorem fsh_balerref08_count (lf d : Nat) (a0 a1 : Value) : inside (F_balerref08_count lf d (evC lf d) a0 a1) = evC lf (d + 1) 253 #[a0, a1] := by
  unfold F_balerref08_count; (try simp only [KQA_balerref08_count lf d, LQA_balerref08_count, clash3_eq, insB_eq]); kernel_rfl

noncomputable def lpA_balerref08_Cost (lf d fu : Nat) (k : KT) (x0 x1 x4 x5 x8 x9 x10 : Value) : M Value := loopK (fun s1 k1 => codeK PP (evC lf d) (gtA 254) lf (codeAt (bodyOf PP 254) [true, true, false, true, false, false]) s1 k1) [0, 1, 4, 5, 8, 9, 10] fu [(0, x0), (1, x1), (4, x4), (5, x5), (8, x8), (9, x9), (10, x10)] k
noncomputable def kcA_balerref08_Cost (lf d : Nat) : KT := contAt PP (evC lf d) (gtA 254) lf (bodyOf PP 254) [true, true, false, true, false] (endK PP (resOf PP 254))
noncomputable def lpB_balerref08_Cost (lf d fu : Nat) (k : KT) (x0 x1 x4 x5 x6 x7 x8 x9 x10 x11 x17 x18 : Value) : M Value := loopK (fun s1 k1 => codeK PP (evC lf d) (gtA 254) lf (codeAt (bodyOf PP 254) [true, true, false, true, false, false, true, true, false, false, true, true, false, false]) s1 k1) [0, 1, 4, 5, 6, 7, 8, 9, 10, 11, 17, 18] fu [(0, x0), (1, x1), (4, x4), (5, x5), (6, x6), (7, x7), (8, x8), (9, x9), (10, x10), (11, x11), (17, x17), (18, x18)] k
noncomputable def kcB_balerref08_Cost (lf d fu : Nat) (k : KT) : KT := contAt PP (evC lf d) (gtA 254) lf (codeAt (bodyOf PP 254) [true, true, false, true, false, false]) [true, true, false, false, true, true, false] (againK (fun s1 => loopK (fun s1 k1 => codeK PP (evC lf d) (gtA 254) lf (codeAt (bodyOf PP 254) [true, true, false, true, false, false]) s1 k1) [0, 1, 4, 5, 8, 9, 10] fu (s1.keep [0, 1, 4, 5, 8, 9, 10]) k) k)
noncomputable def KA_balerref08_Cost (lf d : Nat) (rec : RT) (dflt : KT) : KT := (kEx 0 (runCur [0, 1, 4, 5, 8, 9, 10, 11] (fun y0 y1 y4 y5 y8 y9 y10 y11 =>
 outK [y5]) (dflt (Ex.exit 0))) dflt)
noncomputable def LB_balerref08_Cost (lf d : Nat) (rec : RT) (k : KT) : Nat → Value → Value → Value → Value → Value → Value → Value → Value → Value → Value → Value → Value → M Value
 | 0, _, _, _, _, _, _, _, _, _, _, _, _ => M.fail
 | fu + 1, x0, x1, x4, x5, x6, x7, x8, x9, x10, x11, x17, x18 =>
 optK (q_lss PP 3 x18 x17) fun v19n6 =>
 ifV v19n6 (
 optK (q_add PP 3 x5 x7) fun v22n7 =>
 (inside (rec 261 #[v22n7])).bind fun v23n8 =>
 optK (q_add PP 3 x18 (Value.int .i64 1)) fun v24n9 =>
 LB_balerref08_Cost lf d rec k fu x0 x1 x4 v23n8 x6 x7 x8 x9 x10 x11 x17 v24n9) (
 k (Ex.exit 2) [(0, x0), (1, x1), (4, x4), (5, x5), (6, x6), (7, x7), (8, x8), (9, x9), (10, x10), (11, x11), (17, x17), (18, x18), (19, v19n6)])
noncomputable def KB_balerref08_Cost (lf d : Nat) (rec : RT) (fu : Nat) (k : KT) (again : Value → Value → Value → Value → Value → Value → Value → M Value) (dflt : KT) : KT := (kEx 2 (runCur [0, 1, 4, 5, 6, 7, 8, 9, 10, 11, 17, 18, 19] (fun y0 y1 y4 y5 y6 y7 y8 y9 y10 y11 y17 y18 y19 =>
 optK (q_add PP 3 y10 (Value.int .i64 1)) fun v25n10 =>
 again y0 y1 y4 y5 y8 y9 v25n10) (dflt (Ex.exit 2))) dflt)
noncomputable def LA_balerref08_Cost (lf d : Nat) (rec : RT) (k : KT) : Nat → Value → Value → Value → Value → Value → Value → Value → M Value
 | 0, _, _, _, _, _, _, _ => M.fail
 | fu + 1, x0, x1, x4, x5, x8, x9, x10 =>
 optK (q_lss PP 3 x10 x9) fun v11n2 =>
 ifV v11n2 (
 optK (evIA3 PP 22 1 x8 x10) fun v13n3 =>
 insB (evLoad3 PP 3 v13n3) fun v14n4 =>
 (inside (rec 253 #[x0, x10])).bind fun v17n5 =>
 LB_balerref08_Cost lf d rec (KB_balerref08_Cost lf d rec fu k (LA_balerref08_Cost lf d rec k fu) (kcB_balerref08_Cost lf d fu k)) lf x0 x1 x4 x5 x10 v14n4 x8 x9 x10 v11n2 v17n5 (Value.int .i64 0)) (
 k (Ex.exit 0) [(0, x0), (1, x1), (4, x4), (5, x5), (8, x8), (9, x9), (10, x10), (11, v11n2)])
noncomputable def F_balerref08_Cost (lf d : Nat) (rec : RT) (a0 a1 : Value) : M Value :=
 optK (len2 PP #[22] [a1]) fun v9n1 =>
 LA_balerref08_Cost lf d rec (KA_balerref08_Cost lf d rec (kcA_balerref08_Cost lf d)) lf a0 a1 (Value.int .i64 0) (Value.int .i64 0) a1 v9n1 (Value.int .i64 0)
set_option maxRecDepth 20000 in
theorem KQA_balerref08_Cost (lf d : Nat) : KA_balerref08_Cost lf d (evC lf d) (kcA_balerref08_Cost lf d) = kcA_balerref08_Cost lf d := by
  unfold KA_balerref08_Cost
  refine Eq.trans (kEx_eq ?_) ?_
  · exact (runCur_eq _ _ _ (by intro y0 y1 y4 y5 y8 y9 y10 y11; show _ = _; (try simp only [clash3_eq, insB_eq]); kernel_rfl))
  rfl
theorem LQB_balerref08_Cost (lf d : Nat) (k : KT) : ∀ fu : Nat, LB_balerref08_Cost lf d (evC lf d) k fu = lpB_balerref08_Cost lf d fu k
  | 0 => by funext x0 x1 x4 x5 x6 x7 x8 x9 x10 x11 x17 x18; kernel_rfl
  | fu + 1 => by
    have ih := LQB_balerref08_Cost lf d k fu
    funext x0 x1 x4 x5 x6 x7 x8 x9 x10 x11 x17 x18; simp only [LB_balerref08_Cost, ih, clash3_eq, insB_eq, q_add_eq (P := PP) nf3, q_lss_eq (P := PP) nf3]; kernel_rfl
set_option maxRecDepth 20000 in
theorem KQB_balerref08_Cost (lf d fu : Nat) (k : KT) (again : Value → Value → Value → Value → Value → Value → Value → M Value) (ha : again = lpA_balerref08_Cost lf d fu k) : KB_balerref08_Cost lf d (evC lf d) fu k again (kcB_balerref08_Cost lf d fu k) = kcB_balerref08_Cost lf d fu k := by
  subst ha
  unfold KB_balerref08_Cost
  refine Eq.trans (kEx_eq ?_) ?_
  · exact (runCur_eq _ _ _ (by intro y0 y1 y4 y5 y6 y7 y8 y9 y10 y11 y17 y18 y19; show _ = _; (try simp only [clash3_eq, insB_eq, q_add_eq (P := PP) nf3]); kernel_rfl))
  rfl
theorem LQA_balerref08_Cost (lf d : Nat) (k : KT) : ∀ fu : Nat, LA_balerref08_Cost lf d (evC lf d) k fu = lpA_balerref08_Cost lf d fu k
  | 0 => by funext x0 x1 x4 x5 x8 x9 x10; kernel_rfl
  | fu + 1 => by
    have ih := LQA_balerref08_Cost lf d k fu
    funext x0 x1 x4 x5 x8 x9 x10; simp only [LA_balerref08_Cost, ih, KQB_balerref08_Cost lf d fu k _ rfl, LQB_balerref08_Cost, clash3_eq, evIA3_eq (P := PP) Tryz.underlying22 gs3, evLoad3_eq (P := PP) ga3, insB_eq, q_lss_eq (P := PP) nf3]; kernel_rfl
theorem fsh_balerref08_Cost (lf d : Nat) (a0 a1 : Value) : inside (F_balerref08_Cost lf d (evC lf d) a0 a1) = evC lf (d + 1) 254 #[a0, a1] := by
  unfold F_balerref08_Cost; (try simp only [KQA_balerref08_Cost lf d, LQA_balerref08_Cost, clash3_eq, insB_eq]); kernel_rfl

noncomputable def lpA_balerref09_Depths (lf d fu : Nat) (k : KT) (x0 x2 x3 x4 x18 x19 x20 : Value) : M Value := loopK (fun s1 k1 => codeK PP (evC lf d) (gtA 255) lf (codeAt (bodyOf PP 255) [true, true, true, false, true, false, false]) s1 k1) [0, 2, 3, 4, 18, 19, 20] fu [(0, x0), (2, x2), (3, x3), (4, x4), (18, x18), (19, x19), (20, x20)] k
noncomputable def kcA_balerref09_Depths (lf d : Nat) : KT := contAt PP (evC lf d) (gtA 255) lf (bodyOf PP 255) [true, true, true, false, true, false] (endK PP (resOf PP 255))
noncomputable def lpB_balerref09_Depths (lf d fu : Nat) (k : KT) (x0 x2 x3 x4 x7 x8 x18 x19 x20 x21 : Value) : M Value := loopK (fun s1 k1 => codeK PP (evC lf d) (gtA 255) lf (codeAt (bodyOf PP 255) [true, true, true, true, true, true, false, false, false]) s1 k1) [0, 2, 3, 4, 7, 8, 18, 19, 20, 21] fu [(0, x0), (2, x2), (3, x3), (4, x4), (7, x7), (8, x8), (18, x18), (19, x19), (20, x20), (21, x21)] k
noncomputable def kcB_balerref09_Depths (lf d : Nat) : KT := contAt PP (evC lf d) (gtA 255) lf (bodyOf PP 255) [true, true, true, true, true, true, false, false] (endK PP (resOf PP 255))
noncomputable def lpC_balerref09_Depths (lf d fu : Nat) (k : KT) (x0 x2 x3 x4 x7 x8 x9 x10 x11 x12 x13 x18 x19 x20 x21 x39 x66 x67 x68 : Value) : M Value := loopK (fun s1 k1 => codeK PP (evC lf d) (gtA 255) lf (codeAt (bodyOf PP 255) [true, true, true, true, true, true, false, false, false, true, false, true, true, true, true, true, true, true, true, true, false, true, false, false]) s1 k1) [0, 2, 3, 4, 7, 8, 9, 10, 11, 12, 13, 18, 19, 20, 21, 39, 66, 67, 68] fu [(0, x0), (2, x2), (3, x3), (4, x4), (7, x7), (8, x8), (9, x9), (10, x10), (11, x11), (12, x12), (13, x13), (18, x18), (19, x19), (20, x20), (21, x21), (39, x39), (66, x66), (67, x67), (68, x68)] k
noncomputable def kcC_balerref09_Depths (lf d fu : Nat) (k : KT) : KT := contAt PP (evC lf d) (gtA 255) lf (codeAt (bodyOf PP 255) [true, true, true, true, true, true, false, false, false]) [true, false, true, true, true, true, true, true, true, true, true, false, true, false] (againK (fun s1 => loopK (fun s1 k1 => codeK PP (evC lf d) (gtA 255) lf (codeAt (bodyOf PP 255) [true, true, true, true, true, true, false, false, false]) s1 k1) [0, 2, 3, 4, 7, 8, 18, 19, 20, 21] fu (s1.keep [0, 2, 3, 4, 7, 8, 18, 19, 20, 21]) k) k)
noncomputable def LA_balerref09_Depths (lf d : Nat) (rec : RT) (k : KT) : Nat → Value → Value → Value → Value → Value → Value → Value → M Value
 | 0, _, _, _, _, _, _, _ => M.fail
 | fu + 1, x0, x2, x3, x4, x18, x19, x20 =>
 optK (q_lss PP 3 x20 x19) fun v21n3 =>
 ifV v21n3 (
 optK (evIA3 PP 22 1 x18 x20) fun v23n4 =>
 insB (evLoad3 PP 3 v23n4) fun v24n5 =>
 insB (evBS3 PP 22 1 [(0, x20)]) fun v29n6 =>
 insB (evBuildZ PP 271 [Value.int .i64 0, Value.int .i64 0, Value.slice none 0 0] [(0, v24n5), (1, x20), (2, v29n6)]) fun v30n7 =>
 insB (evBS3 PP 269 1 [(0, v30n7)]) fun v31n8 =>
 insB (evAppend3 PP 269 x4 v31n8) fun v32n9 =>
 optK (q_add PP 3 x20 (Value.int .i64 1)) fun v33n10 =>
 LA_balerref09_Depths lf d rec k fu x0 x2 x3 v32n9 x18 x19 v33n10) (
 k (Ex.exit 0) [(0, x0), (2, x2), (3, x3), (4, x4), (18, x18), (19, x19), (20, x20), (21, v21n3)])
noncomputable def KB_balerref09_Depths (lf d : Nat) (rec : RT) (dflt : KT) : KT := (kEx 2 (runCur [0, 2, 3, 4, 7, 8, 18, 19, 20, 21, 39] (fun y0 y2 y3 y4 y7 y8 y18 y19 y20 y21 y39 =>
 outK [y7]) (dflt (Ex.exit 2))) dflt)
noncomputable def LC_balerref09_Depths (lf d : Nat) (rec : RT) (k : KT) : Nat → Value → Value → Value → Value → Value → Value → Value → Value → Value → Value → Value → Value → Value → Value → Value → Value → Value → Value → Value → M Value
 | 0, _, _, _, _, _, _, _, _, _, _, _, _, _, _, _, _, _, _, _ => M.fail
 | fu + 1, x0, x2, x3, x4, x7, x8, x9, x10, x11, x12, x13, x18, x19, x20, x21, x39, x66, x67, x68 =>
 optK (q_lss PP 3 x68 x67) fun v69n33 =>
 ifV v69n33 (
 optK (evIA3 PP 22 1 x66 x68) fun v70n34 =>
 insB (evLoad3 PP 3 v70n34) fun v71n35 =>
 optK (evIA3 PP 22 1 x7 v71n35) fun v74n36 =>
 insB (evLoad3 PP 3 v74n36) fun v75n37 =>
 optK (q_add PP 3 v75n37 (Value.int .i64 1)) fun v76n38 =>
 optK (evIA3 PP 22 1 x7 v71n35) fun v77n39 =>
 insB (evStore3 PP 3 v77n39 v76n38) fun u40 =>
 optK (q_add PP 3 x68 (Value.int .i64 1)) fun v78n41 =>
 LC_balerref09_Depths lf d rec k fu x0 x2 x3 x4 x7 x8 x9 x10 x11 x12 x13 x18 x19 x20 x21 x39 x66 x67 v78n41) (
 k (Ex.exit 4) [(0, x0), (2, x2), (3, x3), (4, x4), (7, x7), (8, x8), (9, x9), (10, x10), (11, x11), (12, x12), (13, x13), (18, x18), (19, x19), (20, x20), (21, x21), (39, x39), (66, x66), (67, x67), (68, x68), (69, v69n33)])
noncomputable def KC_balerref09_Depths (lf d : Nat) (rec : RT) (fu : Nat) (k : KT) (again : Value → Value → Value → Value → Value → Value → Value → Value → Value → Value → M Value) (dflt : KT) : KT := (kEx 4 (runCur [0, 2, 3, 4, 7, 8, 9, 10, 11, 12, 13, 18, 19, 20, 21, 39, 66, 67, 68, 69] (fun y0 y2 y3 y4 y7 y8 y9 y10 y11 y12 y13 y18 y19 y20 y21 y39 y66 y67 y68 y69 =>
 optK (evFA3 PP 271 0 y10 0) fun v80n42 =>
 insB (evLoad3 PP 3 v80n42) fun v81n43 =>
 optK (evFA3 PP 271 0 y12 0) fun v82n44 =>
 insB (evLoad3 PP 3 v82n44) fun v83n45 =>
 optK (q_add PP 3 v81n43 v83n45) fun v84n46 =>
 insB (evBuildZ PP 271 [Value.int .i64 0, Value.int .i64 0, Value.slice none 0 0] [(0, v84n46), (1, y8), (2, y13)]) fun v87n47 =>
 insB (evBS3 PP 269 1 [(0, v87n47)]) fun v88n48 =>
 insB (evAppend3 PP 269 y4 v88n48) fun v89n49 =>
 optK (q_add PP 3 y8 (Value.int .i64 1)) fun v91n50 =>
 again y0 y2 y3 v89n49 y7 v91n50 y18 y19 y20 y21) (dflt (Ex.exit 4))) dflt)
noncomputable def LB_balerref09_Depths (lf d : Nat) (rec : RT) (k : KT) : Nat → Value → Value → Value → Value → Value → Value → Value → Value → Value → Value → M Value
 | 0, _, _, _, _, _, _, _, _, _, _ => M.fail
 | fu + 1, x0, x2, x3, x4, x7, x8, x18, x19, x20, x21 =>
 optK (len2 PP #[269] [x4]) fun v38n12 =>
 optK (q_gtr PP 3 v38n12 (Value.int .i64 1)) fun v39n13 =>
 ifV v39n13 (
 (inside (rec 262 #[x4])).bind fun v41n14 =>
 optK (evIA3 PP 269 3 x4 v41n14) fun v44n15 =>
 insB (evLoadA3 PP 271 3 v44n15) fun v45n16 =>
 insB (evAllocZ 271 [Value.int .i64 0, Value.int .i64 0, Value.slice none 0 0]) fun v10n17 =>
 insB (evStoreA3 PP 271 3 v10n17 v45n16) fun u18 =>
 (inside (rec 263 #[x4, v41n14])).bind fun v48n19 =>
 (inside (rec 262 #[v48n19])).bind fun v50n20 =>
 optK (evIA3 PP 269 3 v48n19 v50n20) fun v53n21 =>
 insB (evLoadA3 PP 271 3 v53n21) fun v54n22 =>
 insB (evAllocZ 271 [Value.int .i64 0, Value.int .i64 0, Value.slice none 0 0]) fun v12n23 =>
 insB (evStoreA3 PP 271 3 v12n23 v54n22) fun u24 =>
 (inside (rec 263 #[v48n19, v50n20])).bind fun v57n25 =>
 optK (evFA3 PP 271 2 v10n17 2) fun v59n26 =>
 insB (evLoad3 PP 22 v59n26) fun v60n27 =>
 insB (evAppend3 PP 22 (Value.slice none 0 0) v60n27) fun v61n28 =>
 optK (evFA3 PP 271 2 v12n23 2) fun v63n29 =>
 insB (evLoad3 PP 22 v63n29) fun v64n30 =>
 insB (evAppend3 PP 22 v61n28 v64n30) fun v65n31 =>
 optK (len2 PP #[22] [v65n31]) fun v67n32 =>
 LC_balerref09_Depths lf d rec (KC_balerref09_Depths lf d rec fu k (LB_balerref09_Depths lf d rec k fu) (kcC_balerref09_Depths lf d fu k)) lf x0 x2 x3 v57n25 x7 x8 v41n14 v10n17 v50n20 v12n23 v65n31 x18 x19 x20 x21 v39n13 v65n31 v67n32 (Value.int .i64 0)) (
 k (Ex.exit 2) [(0, x0), (2, x2), (3, x3), (4, x4), (7, x7), (8, x8), (18, x18), (19, x19), (20, x20), (21, x21), (39, v39n13)])
noncomputable def KA_balerref09_Depths (lf d : Nat) (rec : RT) (dflt : KT) : KT := (kEx 0 (runCur [0, 2, 3, 4, 18, 19, 20, 21] (fun y0 y2 y3 y4 y18 y19 y20 y21 =>
 insB (evMake3 PP 22 y3 y3) fun v35n11 =>
 LB_balerref09_Depths lf d rec (KB_balerref09_Depths lf d rec (kcB_balerref09_Depths lf d)) lf y0 y2 y3 y4 v35n11 y3 y18 y19 y20 y21) (dflt (Ex.exit 0))) dflt)
noncomputable def F_balerref09_Depths (lf d : Nat) (rec : RT) (a0 : Value) : M Value :=
 optK (len2 PP #[22] [a0]) fun v17n1 =>
 optK (len2 PP #[22] [a0]) fun v19n2 =>
 LA_balerref09_Depths lf d rec (KA_balerref09_Depths lf d rec (kcA_balerref09_Depths lf d)) lf a0 (Value.slice none 0 0) v17n1 (Value.slice none 0 0) a0 v19n2 (Value.int .i64 0)
theorem LQA_balerref09_Depths (lf d : Nat) (k : KT) : ∀ fu : Nat, LA_balerref09_Depths lf d (evC lf d) k fu = lpA_balerref09_Depths lf d fu k
  | 0 => by funext x0 x2 x3 x4 x18 x19 x20; kernel_rfl
  | fu + 1 => by
    have ih := LQA_balerref09_Depths lf d k fu
    funext x0 x2 x3 x4 x18 x19 x20; simp only [LA_balerref09_Depths, ih, bz271, clash3_eq, evAppend3_eq, evBS3_eq, evIA3_eq (P := PP) Tryz.underlying22 gs3, evLoad3_eq (P := PP) ga3, insB_eq, q_add_eq (P := PP) nf3, q_lss_eq (P := PP) nf3]; kernel_rfl
set_option maxRecDepth 20000 in
theorem KQB_balerref09_Depths (lf d : Nat) : KB_balerref09_Depths lf d (evC lf d) (kcB_balerref09_Depths lf d) = kcB_balerref09_Depths lf d := by
  unfold KB_balerref09_Depths
  refine Eq.trans (kEx_eq ?_) ?_
  · exact (runCur_eq _ _ _ (by intro y0 y2 y3 y4 y7 y8 y18 y19 y20 y21 y39; show _ = _; (try simp only [clash3_eq, insB_eq]); kernel_rfl))
  rfl
theorem LQC_balerref09_Depths (lf d : Nat) (k : KT) : ∀ fu : Nat, LC_balerref09_Depths lf d (evC lf d) k fu = lpC_balerref09_Depths lf d fu k
  | 0 => by funext x0 x2 x3 x4 x7 x8 x9 x10 x11 x12 x13 x18 x19 x20 x21 x39 x66 x67 x68; kernel_rfl
  | fu + 1 => by
    have ih := LQC_balerref09_Depths lf d k fu
    funext x0 x2 x3 x4 x7 x8 x9 x10 x11 x12 x13 x18 x19 x20 x21 x39 x66 x67 x68; simp only [LC_balerref09_Depths, ih, clash3_eq, evIA3_eq (P := PP) Tryz.underlying22 gs3, evLoad3_eq (P := PP) ga3, evStore3_eq (P := PP) gs3, insB_eq, q_add_eq (P := PP) nf3, q_lss_eq (P := PP) nf3]; kernel_rfl
set_option maxRecDepth 20000 in
theorem KQC_balerref09_Depths (lf d fu : Nat) (k : KT) (again : Value → Value → Value → Value → Value → Value → Value → Value → Value → Value → M Value) (ha : again = lpB_balerref09_Depths lf d fu k) : KC_balerref09_Depths lf d (evC lf d) fu k again (kcC_balerref09_Depths lf d fu k) = kcC_balerref09_Depths lf d fu k := by
  subst ha
  unfold KC_balerref09_Depths
  refine Eq.trans (kEx_eq ?_) ?_
  · exact (runCur_eq _ _ _ (by intro y0 y2 y3 y4 y7 y8 y9 y10 y11 y12 y13 y18 y19 y20 y21 y39 y66 y67 y68 y69; show _ = _; (try simp only [bz271, clash3_eq, evAppend3_eq, evBS3_eq, evFA3_eq (P := PP) gf271f0, evLoad3_eq (P := PP) ga3, insB_eq, q_add_eq (P := PP) nf3]); kernel_rfl))
  rfl
theorem LQB_balerref09_Depths (lf d : Nat) (k : KT) : ∀ fu : Nat, LB_balerref09_Depths lf d (evC lf d) k fu = lpB_balerref09_Depths lf d fu k
  | 0 => by funext x0 x2 x3 x4 x7 x8 x18 x19 x20 x21; kernel_rfl
  | fu + 1 => by
    have ih := LQB_balerref09_Depths lf d k fu
    funext x0 x2 x3 x4 x7 x8 x18 x19 x20 x21; simp only [LB_balerref09_Depths, ih, KQC_balerref09_Depths lf d fu k _ rfl, LQC_balerref09_Depths, az271, clash3_eq, evAppend3_eq, evFA3_eq (P := PP) gf271f2, evIA3_eq (P := PP) Tryz.underlying269 gs271, evLoad3_eq (P := PP) ga22, evLoadA3_eq (P := PP) ga271 gs271, evStoreA3_eq (P := PP) gs271, insB_eq, q_gtr_eq (P := PP) nf3]; kernel_rfl
set_option maxRecDepth 20000 in
theorem KQA_balerref09_Depths (lf d : Nat) : KA_balerref09_Depths lf d (evC lf d) (kcA_balerref09_Depths lf d) = kcA_balerref09_Depths lf d := by
  unfold KA_balerref09_Depths
  refine Eq.trans (kEx_eq ?_) ?_
  · exact (runCur_eq _ _ _ (by intro y0 y2 y3 y4 y18 y19 y20 y21; show _ = _; (try simp only [KQB_balerref09_Depths lf d, LQB_balerref09_Depths, clash3_eq, evMake3_eq, insB_eq]); kernel_rfl))
  rfl
theorem fsh_balerref09_Depths (lf d : Nat) (a0 : Value) : inside (F_balerref09_Depths lf d (evC lf d) a0) = evC lf (d + 1) 255 #[a0] := by
  unfold F_balerref09_Depths; (try simp only [KQA_balerref09_Depths lf d, LQA_balerref09_Depths, clash3_eq, insB_eq]); kernel_rfl

noncomputable def lpA_balerref09_May (lf d fu : Nat) (k : KT) (x0 x1 x2 x6 x9 x10 x11 : Value) : M Value := loopK (fun s1 k1 => codeK PP (evC lf d) (gtA 256) lf (codeAt (bodyOf PP 256) [true, false, true, false, false]) s1 k1) [0, 1, 2, 6, 9, 10, 11] fu [(0, x0), (1, x1), (2, x2), (6, x6), (9, x9), (10, x10), (11, x11)] k
noncomputable def kcA_balerref09_May (lf d : Nat) : KT := contAt PP (evC lf d) (gtA 256) lf (bodyOf PP 256) [true, false, true, false] (endK PP (resOf PP 256))
noncomputable def LA_balerref09_May (lf d : Nat) (rec : RT) (k : KT) : Nat → Value → Value → Value → Value → Value → Value → Value → M Value
 | 0, _, _, _, _, _, _, _ => M.fail
 | fu + 1, x0, x1, x2, x6, x9, x10, x11 =>
 optK (q_lss PP 3 x11 x10) fun v12n2 =>
 ifV v12n2 (
 optK (evIA3 PP 22 1 x9 x11) fun v13n3 =>
 insB (evLoad3 PP 3 v13n3) fun v14n4 =>
 optK (q_lss PP 3 v14n4 x1) fun v17n5 =>
 ifV v17n5 (
 k Ex.ret [(0, x0), (1, x1), (2, x2), (6, (Value.bool false)), (8, v14n4), (9, x9), (10, x10), (11, x11), (12, v12n2), (22, (Value.bool true))]) (
 optK (q_gtr PP 3 v14n4 x2) fun v21n6 =>
 ifV v21n6 (
 k Ex.ret [(0, x0), (1, x1), (2, x2), (6, (Value.bool false)), (8, v14n4), (9, x9), (10, x10), (11, x11), (12, v12n2), (22, v21n6)]) (
 optK (q_add PP 3 x11 (Value.int .i64 1)) fun v23n7 =>
 LA_balerref09_May lf d rec k fu x0 x1 x2 x6 x9 x10 v23n7))) (
 k (Ex.exit 0) [(0, x0), (1, x1), (2, x2), (6, x6), (9, x9), (10, x10), (11, x11), (12, v12n2)])
noncomputable def KA_balerref09_May (lf d : Nat) (rec : RT) (dflt : KT) : KT := (kEx 0 (runCur [0, 1, 2, 6, 9, 10, 11, 12] (fun y0 y1 y2 y6 y9 y10 y11 y12 =>
 outK [(Value.bool true)]) (dflt (Ex.exit 0))) (kRt (runCur [0, 1, 2, 6, 8, 9, 10, 11, 12, 22] (fun y0 y1 y2 y6 y8 y9 y10 y11 y12 y22 =>
 outK [y6]) (dflt Ex.ret)) dflt))
noncomputable def F_balerref09_May (lf d : Nat) (rec : RT) (a0 a1 a2 : Value) : M Value :=
 optK (len2 PP #[22] [a0]) fun v10n1 =>
 LA_balerref09_May lf d rec (KA_balerref09_May lf d rec (kcA_balerref09_May lf d)) lf a0 a1 a2 (Value.bool false) a0 v10n1 (Value.int .i64 0)
theorem LQA_balerref09_May (lf d : Nat) (k : KT) : ∀ fu : Nat, LA_balerref09_May lf d (evC lf d) k fu = lpA_balerref09_May lf d fu k
  | 0 => by funext x0 x1 x2 x6 x9 x10 x11; kernel_rfl
  | fu + 1 => by
    have ih := LQA_balerref09_May lf d k fu
    funext x0 x1 x2 x6 x9 x10 x11; simp only [LA_balerref09_May, ih, clash3_eq, evIA3_eq (P := PP) Tryz.underlying22 gs3, evLoad3_eq (P := PP) ga3, insB_eq, q_add_eq (P := PP) nf3, q_gtr_eq (P := PP) nf3, q_lss_eq (P := PP) nf3]; kernel_rfl
set_option maxRecDepth 20000 in
theorem KQA_balerref09_May (lf d : Nat) : KA_balerref09_May lf d (evC lf d) (kcA_balerref09_May lf d) = kcA_balerref09_May lf d := by
  unfold KA_balerref09_May
  refine Eq.trans (kEx_eq ?_) ?_
  · exact (runCur_eq _ _ _ (by intro y0 y1 y2 y6 y9 y10 y11 y12; show _ = _; (try simp only [clash3_eq, insB_eq]); kernel_rfl))
  refine Eq.trans (kRt_eq ?_) ?_
  · exact (runCur_eq _ _ _ (by intro y0 y1 y2 y6 y8 y9 y10 y11 y12 y22; show _ = _; (try simp only [clash3_eq, insB_eq]); kernel_rfl))
  rfl
theorem fsh_balerref09_May (lf d : Nat) (a0 a1 a2 : Value) : inside (F_balerref09_May lf d (evC lf d) a0 a1 a2) = evC lf (d + 1) 256 #[a0, a1, a2] := by
  unfold F_balerref09_May; (try simp only [KQA_balerref09_May lf d, LQA_balerref09_May, clash3_eq, insB_eq]); kernel_rfl

noncomputable def lpA_balerref09_Halved (lf d fu : Nat) (k : KT) (x0 x2 x3 x6 x7 x8 : Value) : M Value := loopK (fun s1 k1 => codeK PP (evC lf d) (gtA 257) lf (codeAt (bodyOf PP 257) [true, true, false, true, false, false]) s1 k1) [0, 2, 3, 6, 7, 8] fu [(0, x0), (2, x2), (3, x3), (6, x6), (7, x7), (8, x8)] k
noncomputable def kcA_balerref09_Halved (lf d : Nat) : KT := contAt PP (evC lf d) (gtA 257) lf (bodyOf PP 257) [true, true, false, true, false] (endK PP (resOf PP 257))
noncomputable def LA_balerref09_Halved (lf d : Nat) (rec : RT) (k : KT) : Nat → Value → Value → Value → Value → Value → Value → M Value
 | 0, _, _, _, _, _, _ => M.fail
 | fu + 1, x0, x2, x3, x6, x7, x8 =>
 optK (q_lss PP 3 x8 x7) fun v9n2 =>
 ifV v9n2 (
 optK (evIA3 PP 22 1 x6 x8) fun v10n3 =>
 insB (evLoad3 PP 3 v10n3) fun v11n4 =>
 optK (q_lss PP 3 v11n4 (Value.int .i64 0)) fun v13n5 =>
 ifV v13n5 (
 optK (q_quo PP 3 (Value.int .i64 0) (Value.int .i64 2)) fun v16n6 =>
 optK (q_add PP 3 v16n6 (Value.int .i64 1)) fun v17n7 =>
 insB (evBS3 PP 22 1 [(0, v17n7)]) fun v18n8 =>
 insB (evAppend3 PP 22 x3 v18n8) fun v19n9 =>
 optK (q_add PP 3 x8 (Value.int .i64 1)) fun v20n10 =>
 LA_balerref09_Halved lf d rec k fu x0 x2 v19n9 x6 x7 v20n10) (
 optK (q_quo PP 3 v11n4 (Value.int .i64 2)) fun v16n11 =>
 optK (q_add PP 3 v16n11 (Value.int .i64 1)) fun v17n12 =>
 insB (evBS3 PP 22 1 [(0, v17n12)]) fun v18n13 =>
 insB (evAppend3 PP 22 x3 v18n13) fun v19n14 =>
 optK (q_add PP 3 x8 (Value.int .i64 1)) fun v20n15 =>
 LA_balerref09_Halved lf d rec k fu x0 x2 v19n14 x6 x7 v20n15)) (
 k (Ex.exit 0) [(0, x0), (2, x2), (3, x3), (6, x6), (7, x7), (8, x8), (9, v9n2)])
noncomputable def KA_balerref09_Halved (lf d : Nat) (rec : RT) (dflt : KT) : KT := (kEx 0 (runCur [0, 2, 3, 6, 7, 8, 9] (fun y0 y2 y3 y6 y7 y8 y9 =>
 outK [y3]) (dflt (Ex.exit 0))) dflt)
noncomputable def F_balerref09_Halved (lf d : Nat) (rec : RT) (a0 : Value) : M Value :=
 optK (len2 PP #[22] [a0]) fun v7n1 =>
 LA_balerref09_Halved lf d rec (KA_balerref09_Halved lf d rec (kcA_balerref09_Halved lf d)) lf a0 (Value.slice none 0 0) (Value.slice none 0 0) a0 v7n1 (Value.int .i64 0)
theorem LQA_balerref09_Halved (lf d : Nat) (k : KT) : ∀ fu : Nat, LA_balerref09_Halved lf d (evC lf d) k fu = lpA_balerref09_Halved lf d fu k
  | 0 => by funext x0 x2 x3 x6 x7 x8; kernel_rfl
  | fu + 1 => by
    have ih := LQA_balerref09_Halved lf d k fu
    funext x0 x2 x3 x6 x7 x8; simp only [LA_balerref09_Halved, ih, clash3_eq, evAppend3_eq, evBS3_eq, evIA3_eq (P := PP) Tryz.underlying22 gs3, evLoad3_eq (P := PP) ga3, insB_eq, q_add_eq (P := PP) nf3, q_lss_eq (P := PP) nf3, q_quo_eq (P := PP) nf3]; kernel_rfl
set_option maxRecDepth 20000 in
theorem KQA_balerref09_Halved (lf d : Nat) : KA_balerref09_Halved lf d (evC lf d) (kcA_balerref09_Halved lf d) = kcA_balerref09_Halved lf d := by
  unfold KA_balerref09_Halved
  refine Eq.trans (kEx_eq ?_) ?_
  · exact (runCur_eq _ _ _ (by intro y0 y2 y3 y6 y7 y8 y9; show _ = _; (try simp only [clash3_eq, insB_eq]); kernel_rfl))
  rfl
theorem fsh_balerref09_Halved (lf d : Nat) (a0 : Value) : inside (F_balerref09_Halved lf d (evC lf d) a0) = evC lf (d + 1) 257 #[a0] := by
  unfold F_balerref09_Halved; (try simp only [KQA_balerref09_Halved lf d, LQA_balerref09_Halved, clash3_eq, insB_eq]); kernel_rfl

noncomputable def lpA_slices_stableCmpFunc_int (lf d fu : Nat) (k : KT) (x0 x1 x2 x6 x7 x8 : Value) : M Value := loopK (fun s1 k1 => codeK PP (evC lf d) (gtA 259) lf (codeAt (bodyOf PP 259) [true, true, false, false, false]) s1 k1) [0, 1, 2, 6, 7, 8] fu [(0, x0), (1, x1), (2, x2), (6, x6), (7, x7), (8, x8)] k
noncomputable def kcA_slices_stableCmpFunc_int (lf d : Nat) : KT := contAt PP (evC lf d) (gtA 259) lf (bodyOf PP 259) [true, true, false, false] (endK PP (resOf PP 259))
noncomputable def lpB_slices_stableCmpFunc_int (lf d fu : Nat) (k : KT) (x0 x1 x2 x6 x7 x8 x13 : Value) : M Value := loopK (fun s1 k1 => codeK PP (evC lf d) (gtA 259) lf (codeAt (bodyOf PP 259) [true, true, true, true, false, false]) s1 k1) [0, 1, 2, 6, 7, 8, 13] fu [(0, x0), (1, x1), (2, x2), (6, x6), (7, x7), (8, x8), (13, x13)] k
noncomputable def kcB_slices_stableCmpFunc_int (lf d : Nat) : KT := contAt PP (evC lf d) (gtA 259) lf (bodyOf PP 259) [true, true, true, true, false] (endK PP (resOf PP 259))
noncomputable def lpC_slices_stableCmpFunc_int (lf d fu : Nat) (k : KT) (x0 x1 x2 x6 x7 x8 x13 x30 : Value) : M Value := loopK (fun s1 k1 => codeK PP (evC lf d) (gtA 259) lf (codeAt (bodyOf PP 259) [true, true, true, true, false, false, true, false, true, false, false, false]) s1 k1) [0, 1, 2, 6, 7, 8, 13, 30] fu [(0, x0), (1, x1), (2, x2), (6, x6), (7, x7), (8, x8), (13, x13), (30, x30)] k
noncomputable def kcC_slices_stableCmpFunc_int (lf d fu : Nat) (k : KT) : KT := contAt PP (evC lf d) (gtA 259) lf (codeAt (bodyOf PP 259) [true, true, true, true, false, false]) [true, false, true, false, false] (againK (fun s1 => loopK (fun s1 k1 => codeK PP (evC lf d) (gtA 259) lf (codeAt (bodyOf PP 259) [true, true, true, true, false, false]) s1 k1) [0, 1, 2, 6, 7, 8, 13] fu (s1.keep [0, 1, 2, 6, 7, 8, 13]) k) k)
noncomputable def LA_slices_stableCmpFunc_int (lf d : Nat) (rec : RT) (k : KT) : Nat → Value → Value → Value → Value → Value → Value → M Value
 | 0, _, _, _, _, _, _ => M.fail
 | fu + 1, x0, x1, x2, x6, x7, x8 =>
 optK (q_leq PP 3 x8 x1) fun v13n1 =>
 ifV v13n1 (
 (inside (rec 270 #[x0, x7, x8, x2])).bind fun v18n2 =>
 optK (q_add PP 3 x8 x6) fun v22n3 =>
 LA_slices_stableCmpFunc_int lf d rec k fu x0 x1 x2 x6 x8 v22n3) (
 k (Ex.exit 0) [(0, x0), (1, x1), (2, x2), (6, x6), (7, x7), (8, x8), (13, v13n1)])
noncomputable def KB_slices_stableCmpFunc_int (lf d : Nat) (rec : RT) (dflt : KT) : KT := (kEx 2 (runCur [0, 1, 2, 6, 7, 8, 13, 30] (fun y0 y1 y2 y6 y7 y8 y13 y30 =>
 outK []) (dflt (Ex.exit 2))) dflt)
noncomputable def LC_slices_stableCmpFunc_int (lf d : Nat) (rec : RT) (k : KT) : Nat → Value → Value → Value → Value → Value → Value → Value → Value → M Value
 | 0, _, _, _, _, _, _, _, _ => M.fail
 | fu + 1, x0, x1, x2, x6, x7, x8, x13, x30 =>
 optK (q_leq PP 3 x8 x1) fun v35n7 =>
 ifV v35n7 (
 optK (q_add PP 3 x7 x6) fun v40n8 =>
 (inside (rec 271 #[x0, x7, v40n8, x8, x2])).bind fun v43n9 =>
 optK (q_mul PP 3 (Value.int .i64 2) x6) fun v47n10 =>
 optK (q_add PP 3 x8 v47n10) fun v48n11 =>
 LC_slices_stableCmpFunc_int lf d rec k fu x0 x1 x2 x6 x8 v48n11 x13 x30) (
 k (Ex.exit 4) [(0, x0), (1, x1), (2, x2), (6, x6), (7, x7), (8, x8), (13, x13), (30, x30), (35, v35n7)])
noncomputable def KC_slices_stableCmpFunc_int (lf d : Nat) (rec : RT) (fu : Nat) (k : KT) (again : Value → Value → Value → Value → Value → Value → Value → M Value) (dflt : KT) : KT := (kEx 4 (runCur [0, 1, 2, 6, 7, 8, 13, 30, 35] (fun y0 y1 y2 y6 y7 y8 y13 y30 y35 =>
 optK (q_add PP 3 y7 y6) fun v51n12 =>
 optK (q_lss PP 3 v51n12 y1) fun v54n13 =>
 ifV v54n13 (
 (inside (rec 271 #[y0, y7, v51n12, y1, y2])).bind fun v60n14 =>
 optK (q_mul PP 3 y6 (Value.int .i64 2)) fun v62n15 =>
 again y0 y1 y2 v62n15 y7 y8 y13) (
 optK (q_mul PP 3 y6 (Value.int .i64 2)) fun v62n16 =>
 again y0 y1 y2 v62n16 y7 y8 y13)) (dflt (Ex.exit 4))) dflt)
noncomputable def LB_slices_stableCmpFunc_int (lf d : Nat) (rec : RT) (k : KT) : Nat → Value → Value → Value → Value → Value → Value → Value → M Value
 | 0, _, _, _, _, _, _, _ => M.fail
 | fu + 1, x0, x1, x2, x6, x7, x8, x13 =>
 optK (q_lss PP 3 x6 x1) fun v30n5 =>
 ifV v30n5 (
 optK (q_mul PP 3 (Value.int .i64 2) x6) fun v32n6 =>
 LC_slices_stableCmpFunc_int lf d rec (KC_slices_stableCmpFunc_int lf d rec fu k (LB_slices_stableCmpFunc_int lf d rec k fu) (kcC_slices_stableCmpFunc_int lf d fu k)) lf x0 x1 x2 x6 (Value.int .i64 0) v32n6 x13 v30n5) (
 k (Ex.exit 2) [(0, x0), (1, x1), (2, x2), (6, x6), (7, x7), (8, x8), (13, x13), (30, v30n5)])
noncomputable def KA_slices_stableCmpFunc_int (lf d : Nat) (rec : RT) (dflt : KT) : KT := (kEx 0 (runCur [0, 1, 2, 6, 7, 8, 13] (fun y0 y1 y2 y6 y7 y8 y13 =>
 (inside (rec 270 #[y0, y7, y1, y2])).bind fun v27n4 =>
 LB_slices_stableCmpFunc_int lf d rec (KB_slices_stableCmpFunc_int lf d rec (kcB_slices_stableCmpFunc_int lf d)) lf y0 y1 y2 y6 y7 y8 y13) (dflt (Ex.exit 0))) dflt)
noncomputable def F_slices_stableCmpFunc_int (lf d : Nat) (rec : RT) (a0 a1 a2 : Value) : M Value :=
 LA_slices_stableCmpFunc_int lf d rec (KA_slices_stableCmpFunc_int lf d rec (kcA_slices_stableCmpFunc_int lf d)) lf a0 a1 a2 (Value.int .i64 20) (Value.int .i64 0) (Value.int .i64 20)
theorem LQA_slices_stableCmpFunc_int (lf d : Nat) (k : KT) : ∀ fu : Nat, LA_slices_stableCmpFunc_int lf d (evC lf d) k fu = lpA_slices_stableCmpFunc_int lf d fu k
  | 0 => by funext x0 x1 x2 x6 x7 x8; kernel_rfl
  | fu + 1 => by
    have ih := LQA_slices_stableCmpFunc_int lf d k fu
    funext x0 x1 x2 x6 x7 x8; simp only [LA_slices_stableCmpFunc_int, ih, clash3_eq, insB_eq, q_add_eq (P := PP) nf3, q_leq_eq (P := PP) nf3]; kernel_rfl
set_option maxRecDepth 20000 in
theorem KQB_slices_stableCmpFunc_int (lf d : Nat) : KB_slices_stableCmpFunc_int lf d (evC lf d) (kcB_slices_stableCmpFunc_int lf d) = kcB_slices_stableCmpFunc_int lf d := by
  unfold KB_slices_stableCmpFunc_int
  refine Eq.trans (kEx_eq ?_) ?_
  · exact (runCur_eq _ _ _ (by intro y0 y1 y2 y6 y7 y8 y13 y30; show _ = _; (try simp only [clash3_eq, insB_eq]); kernel_rfl))
  rfl
theorem LQC_slices_stableCmpFunc_int (lf d : Nat) (k : KT) : ∀ fu : Nat, LC_slices_stableCmpFunc_int lf d (evC lf d) k fu = lpC_slices_stableCmpFunc_int lf d fu k
  | 0 => by funext x0 x1 x2 x6 x7 x8 x13 x30; kernel_rfl
  | fu + 1 => by
    have ih := LQC_slices_stableCmpFunc_int lf d k fu
    funext x0 x1 x2 x6 x7 x8 x13 x30; simp only [LC_slices_stableCmpFunc_int, ih, clash3_eq, insB_eq, q_add_eq (P := PP) nf3, q_leq_eq (P := PP) nf3, q_mul_eq (P := PP) nf3]; kernel_rfl
set_option maxRecDepth 20000 in
theorem KQC_slices_stableCmpFunc_int (lf d fu : Nat) (k : KT) (again : Value → Value → Value → Value → Value → Value → Value → M Value) (ha : again = lpB_slices_stableCmpFunc_int lf d fu k) : KC_slices_stableCmpFunc_int lf d (evC lf d) fu k again (kcC_slices_stableCmpFunc_int lf d fu k) = kcC_slices_stableCmpFunc_int lf d fu k := by
  subst ha
  unfold KC_slices_stableCmpFunc_int
  refine Eq.trans (kEx_eq ?_) ?_
  · exact (runCur_eq _ _ _ (by intro y0 y1 y2 y6 y7 y8 y13 y30 y35; show _ = _; (try simp only [clash3_eq, insB_eq, q_add_eq (P := PP) nf3, q_lss_eq (P := PP) nf3, q_mul_eq (P := PP) nf3]); kernel_rfl))
  rfl
theorem LQB_slices_stableCmpFunc_int (lf d : Nat) (k : KT) : ∀ fu : Nat, LB_slices_stableCmpFunc_int lf d (evC lf d) k fu = lpB_slices_stableCmpFunc_int lf d fu k
  | 0 => by funext x0 x1 x2 x6 x7 x8 x13; kernel_rfl
  | fu + 1 => by
    have ih := LQB_slices_stableCmpFunc_int lf d k fu
    funext x0 x1 x2 x6 x7 x8 x13; simp only [LB_slices_stableCmpFunc_int, ih, KQC_slices_stableCmpFunc_int lf d fu k _ rfl, LQC_slices_stableCmpFunc_int, clash3_eq, insB_eq, q_lss_eq (P := PP) nf3, q_mul_eq (P := PP) nf3]; kernel_rfl
set_option maxRecDepth 20000 in
theorem KQA_slices_stableCmpFunc_int (lf d : Nat) : KA_slices_stableCmpFunc_int lf d (evC lf d) (kcA_slices_stableCmpFunc_int lf d) = kcA_slices_stableCmpFunc_int lf d := by
  unfold KA_slices_stableCmpFunc_int
  refine Eq.trans (kEx_eq ?_) ?_
  · exact (runCur_eq _ _ _ (by intro y0 y1 y2 y6 y7 y8 y13; show _ = _; (try simp only [KQB_slices_stableCmpFunc_int lf d, LQB_slices_stableCmpFunc_int, clash3_eq, insB_eq]); kernel_rfl))
  rfl
theorem fsh_slices_stableCmpFunc_int (lf d : Nat) (a0 a1 a2 : Value) : inside (F_slices_stableCmpFunc_int lf d (evC lf d) a0 a1 a2) = evC lf (d + 1) 259 #[a0, a1, a2] := by
  unfold F_slices_stableCmpFunc_int; (try simp only [KQA_slices_stableCmpFunc_int lf d, LQA_slices_stableCmpFunc_int, clash3_eq, insB_eq]); kernel_rfl

noncomputable def F_cmp_isNaN_int (lf d : Nat) (rec : RT) (a0 : Value) : M Value :=
 optK (q_neq PP 3 a0 a0) fun v5n1 =>
 outK [v5n1]
theorem fsh_cmp_isNaN_int (lf d : Nat) (a0 : Value) : inside (F_cmp_isNaN_int lf d (evC lf d) a0) = evC lf (d + 1) 260 #[a0] := by
  unfold F_cmp_isNaN_int; (try simp only [clash3_eq, insB_eq, q_neq_eq (P := PP) nf3]); kernel_rfl

noncomputable def F_balerref08_most (lf d : Nat) (rec : RT) (a0 : Value) : M Value :=
 optK (q_gtr PP 3 a0 (Value.int .i64 1099511627776)) fun v4n1 =>
 ifV v4n1 (
 outK [(Value.int .i64 1099511627776)]) (
 outK [a0])
theorem fsh_balerref08_most (lf d : Nat) (a0 : Value) : inside (F_balerref08_most lf d (evC lf d) a0) = evC lf (d + 1) 261 #[a0] := by
  unfold F_balerref08_most; (try simp only [clash3_eq, insB_eq, q_gtr_eq (P := PP) nf3]); kernel_rfl

noncomputable def lpA_balerref09_least (lf d fu : Nat) (k : KT) (x0 x2 x3 x6 x7 x8 : Value) : M Value := loopK (fun s1 k1 => codeK PP (evC lf d) (gtA 262) lf (codeAt (bodyOf PP 262) [true, true, false, true, false, false]) s1 k1) [0, 2, 3, 6, 7, 8] fu [(0, x0), (2, x2), (3, x3), (6, x6), (7, x7), (8, x8)] k
noncomputable def kcA_balerref09_least (lf d : Nat) : KT := contAt PP (evC lf d) (gtA 262) lf (bodyOf PP 262) [true, true, false, true, false] (endK PP (resOf PP 262))
noncomputable def LA_balerref09_least (lf d : Nat) (rec : RT) (k : KT) : Nat → Value → Value → Value → Value → Value → Value → M Value
 | 0, _, _, _, _, _, _ => M.fail
 | fu + 1, x0, x2, x3, x6, x7, x8 =>
 optK (q_lss PP 3 x8 x7) fun v9n2 =>
 ifV v9n2 (
 optK (evIA3 PP 269 3 x6 x8) fun v11n3 =>
 insB (evLoadA3 PP 271 3 v11n3) fun v12n4 =>
 insB (evAllocZ 271 [Value.int .i64 0, Value.int .i64 0, Value.slice none 0 0]) fun v5n5 =>
 insB (evStoreA3 PP 271 3 v5n5 v12n4) fun u6 =>
 insB (evLoadA3 PP 271 3 v5n5) fun v13n7 =>
 optK (evIA3 PP 269 3 x0 x3) fun v16n8 =>
 insB (evLoadA3 PP 271 3 v16n8) fun v17n9 =>
 (inside (rec 272 #[v13n7, v17n9])).bind fun v18n10 =>
 ifV v18n10 (
 optK (q_add PP 3 x8 (Value.int .i64 1)) fun v20n11 =>
 LA_balerref09_least lf d rec k fu x0 x2 x8 x6 x7 v20n11) (
 optK (q_add PP 3 x8 (Value.int .i64 1)) fun v20n12 =>
 LA_balerref09_least lf d rec k fu x0 x2 x3 x6 x7 v20n12)) (
 k (Ex.exit 0) [(0, x0), (2, x2), (3, x3), (6, x6), (7, x7), (8, x8), (9, v9n2)])
noncomputable def KA_balerref09_least (lf d : Nat) (rec : RT) (dflt : KT) : KT := (kEx 0 (runCur [0, 2, 3, 6, 7, 8, 9] (fun y0 y2 y3 y6 y7 y8 y9 =>
 outK [y3]) (dflt (Ex.exit 0))) dflt)
noncomputable def F_balerref09_least (lf d : Nat) (rec : RT) (a0 : Value) : M Value :=
 optK (len2 PP #[269] [a0]) fun v7n1 =>
 LA_balerref09_least lf d rec (KA_balerref09_least lf d rec (kcA_balerref09_least lf d)) lf a0 (Value.int .i64 0) (Value.int .i64 0) a0 v7n1 (Value.int .i64 0)
theorem LQA_balerref09_least (lf d : Nat) (k : KT) : ∀ fu : Nat, LA_balerref09_least lf d (evC lf d) k fu = lpA_balerref09_least lf d fu k
  | 0 => by funext x0 x2 x3 x6 x7 x8; kernel_rfl
  | fu + 1 => by
    have ih := LQA_balerref09_least lf d k fu
    funext x0 x2 x3 x6 x7 x8; simp only [LA_balerref09_least, ih, az271, clash3_eq, evIA3_eq (P := PP) Tryz.underlying269 gs271, evLoadA3_eq (P := PP) ga271 gs271, evStoreA3_eq (P := PP) gs271, insB_eq, q_add_eq (P := PP) nf3, q_lss_eq (P := PP) nf3]; kernel_rfl
set_option maxRecDepth 20000 in
theorem KQA_balerref09_least (lf d : Nat) : KA_balerref09_least lf d (evC lf d) (kcA_balerref09_least lf d) = kcA_balerref09_least lf d := by
  unfold KA_balerref09_least
  refine Eq.trans (kEx_eq ?_) ?_
  · exact (runCur_eq _ _ _ (by intro y0 y2 y3 y6 y7 y8 y9; show _ = _; (try simp only [clash3_eq, insB_eq]); kernel_rfl))
  rfl
theorem fsh_balerref09_least (lf d : Nat) (a0 : Value) : inside (F_balerref09_least lf d (evC lf d) a0) = evC lf (d + 1) 262 #[a0] := by
  unfold F_balerref09_least; (try simp only [KQA_balerref09_least lf d, LQA_balerref09_least, clash3_eq, insB_eq]); kernel_rfl

noncomputable def lpA_balerref09_without (lf d fu : Nat) (k : KT) (x0 x1 x4 x5 x8 x9 x10 : Value) : M Value := loopK (fun s1 k1 => codeK PP (evC lf d) (gtA 263) lf (codeAt (bodyOf PP 263) [true, true, false, true, false, false]) s1 k1) [0, 1, 4, 5, 8, 9, 10] fu [(0, x0), (1, x1), (4, x4), (5, x5), (8, x8), (9, x9), (10, x10)] k
noncomputable def kcA_balerref09_without (lf d : Nat) : KT := contAt PP (evC lf d) (gtA 263) lf (bodyOf PP 263) [true, true, false, true, false] (endK PP (resOf PP 263))
noncomputable def LA_balerref09_without (lf d : Nat) (rec : RT) (k : KT) : Nat → Value → Value → Value → Value → Value → Value → Value → M Value
 | 0, _, _, _, _, _, _, _ => M.fail
 | fu + 1, x0, x1, x4, x5, x8, x9, x10 =>
 optK (q_lss PP 3 x10 x9) fun v11n2 =>
 ifV v11n2 (
 optK (evIA3 PP 269 3 x8 x10) fun v13n3 =>
 insB (evLoadA3 PP 271 3 v13n3) fun v14n4 =>
 insB (evAllocZ 271 [Value.int .i64 0, Value.int .i64 0, Value.slice none 0 0]) fun v7n5 =>
 insB (evStoreA3 PP 271 3 v7n5 v14n4) fun u6 =>
 optK (q_neq PP 3 x10 x1) fun v17n7 =>
 ifV v17n7 (
 insB (evLoadA3 PP 271 3 v7n5) fun v19n8 =>
 insB (evBS3 PP 269 1 [(0, v19n8)]) fun v20n9 =>
 insB (evAppend3 PP 269 x5 v20n9) fun v21n10 =>
 optK (q_add PP 3 x10 (Value.int .i64 1)) fun v22n11 =>
 LA_balerref09_without lf d rec k fu x0 x1 x4 v21n10 x8 x9 v22n11) (
 optK (q_add PP 3 x10 (Value.int .i64 1)) fun v22n12 =>
 LA_balerref09_without lf d rec k fu x0 x1 x4 x5 x8 x9 v22n12)) (
 k (Ex.exit 0) [(0, x0), (1, x1), (4, x4), (5, x5), (8, x8), (9, x9), (10, x10), (11, v11n2)])
noncomputable def KA_balerref09_without (lf d : Nat) (rec : RT) (dflt : KT) : KT := (kEx 0 (runCur [0, 1, 4, 5, 8, 9, 10, 11] (fun y0 y1 y4 y5 y8 y9 y10 y11 =>
 outK [y5]) (dflt (Ex.exit 0))) dflt)
noncomputable def F_balerref09_without (lf d : Nat) (rec : RT) (a0 a1 : Value) : M Value :=
 optK (len2 PP #[269] [a0]) fun v9n1 =>
 LA_balerref09_without lf d rec (KA_balerref09_without lf d rec (kcA_balerref09_without lf d)) lf a0 a1 (Value.slice none 0 0) (Value.slice none 0 0) a0 v9n1 (Value.int .i64 0)
theorem LQA_balerref09_without (lf d : Nat) (k : KT) : ∀ fu : Nat, LA_balerref09_without lf d (evC lf d) k fu = lpA_balerref09_without lf d fu k
  | 0 => by funext x0 x1 x4 x5 x8 x9 x10; kernel_rfl
  | fu + 1 => by
    have ih := LQA_balerref09_without lf d k fu
    funext x0 x1 x4 x5 x8 x9 x10; simp only [LA_balerref09_without, ih, az271, clash3_eq, evAppend3_eq, evBS3_eq, evIA3_eq (P := PP) Tryz.underlying269 gs271, evLoadA3_eq (P := PP) ga271 gs271, evStoreA3_eq (P := PP) gs271, insB_eq, q_add_eq (P := PP) nf3, q_lss_eq (P := PP) nf3, q_neq_eq (P := PP) nf3]; kernel_rfl
set_option maxRecDepth 20000 in
theorem KQA_balerref09_without (lf d : Nat) : KA_balerref09_without lf d (evC lf d) (kcA_balerref09_without lf d) = kcA_balerref09_without lf d := by
  unfold KA_balerref09_without
  refine Eq.trans (kEx_eq ?_) ?_
  · exact (runCur_eq _ _ _ (by intro y0 y1 y4 y5 y8 y9 y10 y11; show _ = _; (try simp only [clash3_eq, insB_eq]); kernel_rfl))
  rfl
theorem fsh_balerref09_without (lf d : Nat) (a0 a1 : Value) : inside (F_balerref09_without lf d (evC lf d) a0 a1) = evC lf (d + 1) 263 #[a0, a1] := by
  unfold F_balerref09_without; (try simp only [KQA_balerref09_without lf d, LQA_balerref09_without, clash3_eq, insB_eq]); kernel_rfl

noncomputable def lpA_slices_insertionSortCmpFunc_int (lf d fu : Nat) (k : KT) (x0 x1 x2 x3 x8 : Value) : M Value := loopK (fun s1 k1 => codeK PP (evC lf d) (gtA 270) lf (codeAt (bodyOf PP 270) [true, false, false]) s1 k1) [0, 1, 2, 3, 8] fu [(0, x0), (1, x1), (2, x2), (3, x3), (8, x8)] k
noncomputable def kcA_slices_insertionSortCmpFunc_int (lf d : Nat) : KT := contAt PP (evC lf d) (gtA 270) lf (bodyOf PP 270) [true, false] (endK PP (resOf PP 270))
noncomputable def lpB_slices_insertionSortCmpFunc_int (lf d fu : Nat) (k : KT) (x0 x1 x2 x3 x8 x9 x14 : Value) : M Value := loopK (fun s1 k1 => codeK PP (evC lf d) (gtA 270) lf (codeAt (bodyOf PP 270) [true, false, false, true, false, false, true, false, false]) s1 k1) [0, 1, 2, 3, 8, 9, 14] fu [(0, x0), (1, x1), (2, x2), (3, x3), (8, x8), (9, x9), (14, x14)] k
noncomputable def kcB_slices_insertionSortCmpFunc_int (lf d fu : Nat) (k : KT) : KT := contAt PP (evC lf d) (gtA 270) lf (codeAt (bodyOf PP 270) [true, false, false]) [true, false, false, true, false] (againK (fun s1 => loopK (fun s1 k1 => codeK PP (evC lf d) (gtA 270) lf (codeAt (bodyOf PP 270) [true, false, false]) s1 k1) [0, 1, 2, 3, 8] fu (s1.keep [0, 1, 2, 3, 8]) k) k)
noncomputable def KA_slices_insertionSortCmpFunc_int (lf d : Nat) (rec : RT) (dflt : KT) : KT := (kEx 0 (runCur [0, 1, 2, 3, 8, 14] (fun y0 y1 y2 y3 y8 y14 =>
 outK []) (dflt (Ex.exit 0))) dflt)
noncomputable def LB_slices_insertionSortCmpFunc_int (lf d : Nat) (rec : RT) (k : KT) : Nat → Value → Value → Value → Value → Value → Value → Value → M Value
 | 0, _, _, _, _, _, _, _ => M.fail
 | fu + 1, x0, x1, x2, x3, x8, x9, x14 =>
 optK (q_gtr PP 3 x9 x1) fun v20n3 =>
 ifV v20n3 (
 optK (evIA3 PP 22 1 x0 x9) fun v25n4 =>
 insB (evLoad3 PP 3 v25n4) fun v26n5 =>
 optK (q_sub PP 3 x9 (Value.int .i64 1)) fun v29n6 =>
 optK (evIA3 PP 22 1 x0 v29n6) fun v30n7 =>
 insB (evLoad3 PP 3 v30n7) fun v31n8 =>
 callV PP rec x3 [v26n5, v31n8] fun v32n9 =>
 optK (q_lss PP 3 v32n9 (Value.int .i64 0)) fun v33n10 =>
 ifV v33n10 (
 optK (q_sub PP 3 x9 (Value.int .i64 1)) fun v41n11 =>
 optK (q_sub PP 3 x9 (Value.int .i64 1)) fun v44n12 =>
 optK (evIA3 PP 22 1 x0 v44n12) fun v45n13 =>
 insB (evLoad3 PP 3 v45n13) fun v46n14 =>
 optK (evIA3 PP 22 1 x0 x9) fun v49n15 =>
 insB (evLoad3 PP 3 v49n15) fun v50n16 =>
 optK (evIA3 PP 22 1 x0 x9) fun v51n17 =>
 insB (evStore3 PP 3 v51n17 v46n14) fun u18 =>
 optK (evIA3 PP 22 1 x0 v41n11) fun v52n19 =>
 insB (evStore3 PP 3 v52n19 v50n16) fun u20 =>
 optK (q_sub PP 3 x9 (Value.int .i64 1)) fun v36n21 =>
 LB_slices_insertionSortCmpFunc_int lf d rec k fu x0 x1 x2 x3 x8 v36n21 x14) (
 k (Ex.exit 2) [(0, x0), (1, x1), (2, x2), (3, x3), (8, x8), (9, x9), (14, x14), (34, v33n10)])) (
 k (Ex.exit 2) [(0, x0), (1, x1), (2, x2), (3, x3), (8, x8), (9, x9), (14, x14), (34, (Value.bool false))])
noncomputable def KB_slices_insertionSortCmpFunc_int (lf d : Nat) (rec : RT) (fu : Nat) (k : KT) (again : Value → Value → Value → Value → Value → M Value) (dflt : KT) : KT := (kEx 2 (runCur [0, 1, 2, 3, 8, 9, 14, 34] (fun y0 y1 y2 y3 y8 y9 y14 y34 =>
 optK (q_add PP 3 y8 (Value.int .i64 1)) fun v16n22 =>
 again y0 y1 y2 y3 v16n22) (dflt (Ex.exit 2))) dflt)
noncomputable def LA_slices_insertionSortCmpFunc_int (lf d : Nat) (rec : RT) (k : KT) : Nat → Value → Value → Value → Value → Value → M Value
 | 0, _, _, _, _, _ => M.fail
 | fu + 1, x0, x1, x2, x3, x8 =>
 optK (q_lss PP 3 x8 x2) fun v14n2 =>
 ifV v14n2 (
 LB_slices_insertionSortCmpFunc_int lf d rec (KB_slices_insertionSortCmpFunc_int lf d rec fu k (LA_slices_insertionSortCmpFunc_int lf d rec k fu) (kcB_slices_insertionSortCmpFunc_int lf d fu k)) lf x0 x1 x2 x3 x8 x8 v14n2) (
 k (Ex.exit 0) [(0, x0), (1, x1), (2, x2), (3, x3), (8, x8), (14, v14n2)])
noncomputable def F_slices_insertionSortCmpFunc_int (lf d : Nat) (rec : RT) (a0 a1 a2 a3 : Value) : M Value :=
 optK (q_add PP 3 a1 (Value.int .i64 1)) fun v11n1 =>
 LA_slices_insertionSortCmpFunc_int lf d rec (KA_slices_insertionSortCmpFunc_int lf d rec (kcA_slices_insertionSortCmpFunc_int lf d)) lf a0 a1 a2 a3 v11n1
set_option maxRecDepth 20000 in
theorem KQA_slices_insertionSortCmpFunc_int (lf d : Nat) : KA_slices_insertionSortCmpFunc_int lf d (evC lf d) (kcA_slices_insertionSortCmpFunc_int lf d) = kcA_slices_insertionSortCmpFunc_int lf d := by
  unfold KA_slices_insertionSortCmpFunc_int
  refine Eq.trans (kEx_eq ?_) ?_
  · exact (runCur_eq _ _ _ (by intro y0 y1 y2 y3 y8 y14; show _ = _; (try simp only [clash3_eq, insB_eq]); kernel_rfl))
  rfl
theorem LQB_slices_insertionSortCmpFunc_int (lf d : Nat) (k : KT) : ∀ fu : Nat, LB_slices_insertionSortCmpFunc_int lf d (evC lf d) k fu = lpB_slices_insertionSortCmpFunc_int lf d fu k
  | 0 => by funext x0 x1 x2 x3 x8 x9 x14; kernel_rfl
  | fu + 1 => by
    have ih := LQB_slices_insertionSortCmpFunc_int lf d k fu
    funext x0 x1 x2 x3 x8 x9 x14; simp only [LB_slices_insertionSortCmpFunc_int, ih, clash3_eq, evIA3_eq (P := PP) Tryz.underlying22 gs3, evLoad3_eq (P := PP) ga3, evStore3_eq (P := PP) gs3, insB_eq, q_gtr_eq (P := PP) nf3, q_lss_eq (P := PP) nf3, q_sub_eq (P := PP) nf3]; kernel_rfl
set_option maxRecDepth 20000 in
theorem KQB_slices_insertionSortCmpFunc_int (lf d fu : Nat) (k : KT) (again : Value → Value → Value → Value → Value → M Value) (ha : again = lpA_slices_insertionSortCmpFunc_int lf d fu k) : KB_slices_insertionSortCmpFunc_int lf d (evC lf d) fu k again (kcB_slices_insertionSortCmpFunc_int lf d fu k) = kcB_slices_insertionSortCmpFunc_int lf d fu k := by
  subst ha
  unfold KB_slices_insertionSortCmpFunc_int
  refine Eq.trans (kEx_eq ?_) ?_
  · exact (runCur_eq _ _ _ (by intro y0 y1 y2 y3 y8 y9 y14 y34; show _ = _; (try simp only [clash3_eq, insB_eq, q_add_eq (P := PP) nf3]); kernel_rfl))
  rfl
theorem LQA_slices_insertionSortCmpFunc_int (lf d : Nat) (k : KT) : ∀ fu : Nat, LA_slices_insertionSortCmpFunc_int lf d (evC lf d) k fu = lpA_slices_insertionSortCmpFunc_int lf d fu k
  | 0 => by funext x0 x1 x2 x3 x8; kernel_rfl
  | fu + 1 => by
    have ih := LQA_slices_insertionSortCmpFunc_int lf d k fu
    funext x0 x1 x2 x3 x8; simp only [LA_slices_insertionSortCmpFunc_int, ih, KQB_slices_insertionSortCmpFunc_int lf d fu k _ rfl, LQB_slices_insertionSortCmpFunc_int, clash3_eq, insB_eq, q_lss_eq (P := PP) nf3]; kernel_rfl
theorem fsh_slices_insertionSortCmpFunc_int (lf d : Nat) (a0 a1 a2 a3 : Value) : inside (F_slices_insertionSortCmpFunc_int lf d (evC lf d) a0 a1 a2 a3) = evC lf (d + 1) 270 #[a0, a1, a2, a3] := by
  unfold F_slices_insertionSortCmpFunc_int; (try simp only [KQA_slices_insertionSortCmpFunc_int lf d, LQA_slices_insertionSortCmpFunc_int, clash3_eq, insB_eq, q_add_eq (P := PP) nf3]); kernel_rfl

noncomputable def lpA_slices_symMergeCmpFunc_int (lf d fu : Nat) (k : KT) (x0 x1 x2 x3 x4 x10 x11 x28 : Value) : M Value := loopK (fun s1 k1 => codeK PP (evC lf d) (gtA 271) lf (codeAt (bodyOf PP 271) [false, true, false, true, true, false, false, false]) s1 k1) [0, 1, 2, 3, 4, 10, 11, 28] fu [(0, x0), (1, x1), (2, x2), (3, x3), (4, x4), (10, x10), (11, x11), (28, x28)] k
noncomputable def kcA_slices_symMergeCmpFunc_int (lf d : Nat) : KT := contAt PP (evC lf d) (gtA 271) lf (bodyOf PP 271) [false, true, false, true, true, false, false] (endK PP (resOf PP 271))
noncomputable def lpB_slices_symMergeCmpFunc_int (lf d fu : Nat) (k : KT) (x0 x1 x2 x3 x4 x14 x15 x28 x80 : Value) : M Value := loopK (fun s1 k1 => codeK PP (evC lf d) (gtA 271) lf (codeAt (bodyOf PP 271) [true, false, true, false, true, true, false, false, false]) s1 k1) [0, 1, 2, 3, 4, 14, 15, 28, 80] fu [(0, x0), (1, x1), (2, x2), (3, x3), (4, x4), (14, x14), (15, x15), (28, x28), (80, x80)] k
noncomputable def kcB_slices_symMergeCmpFunc_int (lf d : Nat) : KT := contAt PP (evC lf d) (gtA 271) lf (bodyOf PP 271) [true, false, true, false, true, true, false, false] (endK PP (resOf PP 271))
noncomputable def lpC_slices_symMergeCmpFunc_int (lf d fu : Nat) (k : KT) (x0 x1 x2 x3 x4 x18 x19 x20 x21 x22 x28 x80 x140 : Value) : M Value := loopK (fun s1 k1 => codeK PP (evC lf d) (gtA 271) lf (codeAt (bodyOf PP 271) [true, true, true, true, true, true, true, false, false, false]) s1 k1) [0, 1, 2, 3, 4, 18, 19, 20, 21, 22, 28, 80, 140] fu [(0, x0), (1, x1), (2, x2), (3, x3), (4, x4), (18, x18), (19, x19), (20, x20), (21, x21), (22, x22), (28, x28), (80, x80), (140, x140)] k
noncomputable def kcC_slices_symMergeCmpFunc_int (lf d : Nat) : KT := contAt PP (evC lf d) (gtA 271) lf (bodyOf PP 271) [true, true, true, true, true, true, true, false, false] (endK PP (resOf PP 271))
noncomputable def lpD_slices_symMergeCmpFunc_int (lf d fu : Nat) (k : KT) (x0 x1 x2 x3 x4 x10 x11 x13 x28 x33 : Value) : M Value := loopK (fun s1 k1 => codeK PP (evC lf d) (gtA 271) lf (codeAt (bodyOf PP 271) [false, true, false, true, true, true, false, true, false, false]) s1 k1) [0, 1, 2, 3, 4, 10, 11, 13, 28, 33] fu [(0, x0), (1, x1), (2, x2), (3, x3), (4, x4), (10, x10), (11, x11), (13, x13), (28, x28), (33, x33)] k
noncomputable def kcD_slices_symMergeCmpFunc_int (lf d : Nat) : KT := contAt PP (evC lf d) (gtA 271) lf (bodyOf PP 271) [false, true, false, true, true, true, false, true, false] (endK PP (resOf PP 271))
noncomputable def lpE_slices_symMergeCmpFunc_int (lf d fu : Nat) (k : KT) (x0 x1 x2 x3 x4 x14 x15 x17 x28 x80 x85 : Value) : M Value := loopK (fun s1 k1 => codeK PP (evC lf d) (gtA 271) lf (codeAt (bodyOf PP 271) [true, false, true, false, true, true, true, false, true, false, false]) s1 k1) [0, 1, 2, 3, 4, 14, 15, 17, 28, 80, 85] fu [(0, x0), (1, x1), (2, x2), (3, x3), (4, x4), (14, x14), (15, x15), (17, x17), (28, x28), (80, x80), (85, x85)] k
noncomputable def kcE_slices_symMergeCmpFunc_int (lf d : Nat) : KT := contAt PP (evC lf d) (gtA 271) lf (bodyOf PP 271) [true, false, true, false, true, true, true, false, true, false] (endK PP (resOf PP 271))
noncomputable def LA_slices_symMergeCmpFunc_int (lf d : Nat) (rec : RT) (k : KT) : Nat → Value → Value → Value → Value → Value → Value → Value → Value → M Value
 | 0, _, _, _, _, _, _, _, _ => M.fail
 | fu + 1, x0, x1, x2, x3, x4, x10, x11, x28 =>
 optK (q_lss PP 3 x10 x11) fun v33n14 =>
 ifV v33n14 (
 optK (q_add PP 3 x10 x11) fun v36n15 =>
 conv3 PP 3 144 .i64 .u64 v36n15 fun v37n16 =>
 optK (q_shr PP 144 v37n16 (Value.int .u64 1)) fun v38n17 =>
 conv3 PP 144 3 .u64 .i64 v38n17 fun v39n18 =>
 optK (evIA3 PP 22 1 x0 v39n18) fun v43n19 =>
 insB (evLoad3 PP 3 v43n19) fun v44n20 =>
 optK (evIA3 PP 22 1 x0 x1) fun v47n21 =>
 insB (evLoad3 PP 3 v47n21) fun v48n22 =>
 callV PP rec x4 [v44n20, v48n22] fun v49n23 =>
 optK (q_lss PP 3 v49n23 (Value.int .i64 0)) fun v50n24 =>
 ifV v50n24 (
 optK (q_add PP 3 v39n18 (Value.int .i64 1)) fun v52n25 =>
 LA_slices_symMergeCmpFunc_int lf d rec k fu x0 x1 x2 x3 x4 v52n25 x11 x28) (
 LA_slices_symMergeCmpFunc_int lf d rec k fu x0 x1 x2 x3 x4 x10 v39n18 x28)) (
 k (Ex.exit 0) [(0, x0), (1, x1), (2, x2), (3, x3), (4, x4), (10, x10), (11, x11), (28, x28), (33, v33n14)])
noncomputable def LB_slices_symMergeCmpFunc_int (lf d : Nat) (rec : RT) (k : KT) : Nat → Value → Value → Value → Value → Value → Value → Value → Value → Value → M Value
 | 0, _, _, _, _, _, _, _, _, _ => M.fail
 | fu + 1, x0, x1, x2, x3, x4, x14, x15, x28, x80 =>
 optK (q_lss PP 3 x14 x15) fun v85n26 =>
 ifV v85n26 (
 optK (q_add PP 3 x14 x15) fun v88n27 =>
 conv3 PP 3 144 .i64 .u64 v88n27 fun v89n28 =>
 optK (q_shr PP 144 v89n28 (Value.int .u64 1)) fun v90n29 =>
 conv3 PP 144 3 .u64 .i64 v90n29 fun v91n30 =>
 optK (evIA3 PP 22 1 x0 x2) fun v95n31 =>
 insB (evLoad3 PP 3 v95n31) fun v96n32 =>
 optK (evIA3 PP 22 1 x0 v91n30) fun v99n33 =>
 insB (evLoad3 PP 3 v99n33) fun v100n34 =>
 callV PP rec x4 [v96n32, v100n34] fun v101n35 =>
 optK (q_lss PP 3 v101n35 (Value.int .i64 0)) fun v102n36 =>
 optK (un3 PP .not v102n36) fun v103n37 =>
 ifV v103n37 (
 optK (q_add PP 3 v91n30 (Value.int .i64 1)) fun v105n38 =>
 LB_slices_symMergeCmpFunc_int lf d rec k fu x0 x1 x2 x3 x4 v105n38 x15 x28 x80) (
 LB_slices_symMergeCmpFunc_int lf d rec k fu x0 x1 x2 x3 x4 x14 v91n30 x28 x80)) (
 k (Ex.exit 4) [(0, x0), (1, x1), (2, x2), (3, x3), (4, x4), (14, x14), (15, x15), (28, x28), (80, x80), (85, v85n26)])
noncomputable def LC_slices_symMergeCmpFunc_int (lf d : Nat) (rec : RT) (k : KT) : Nat → Value → Value → Value → Value → Value → Value → Value → Value → Value → Value → Value → Value → Value → M Value
 | 0, _, _, _, _, _, _, _, _, _, _, _, _, _ => M.fail
 | fu + 1, x0, x1, x2, x3, x4, x18, x19, x20, x21, x22, x28, x80, x140 =>
 optK (q_lss PP 3 x20 x21) fun v151n39 =>
 ifV v151n39 (
 optK (q_add PP 3 x20 x21) fun v154n40 =>
 conv3 PP 3 144 .i64 .u64 v154n40 fun v155n41 =>
 optK (q_shr PP 144 v155n41 (Value.int .u64 1)) fun v156n42 =>
 conv3 PP 144 3 .u64 .i64 v156n42 fun v157n43 =>
 optK (q_sub PP 3 x22 v157n43) fun v162n44 =>
 optK (evIA3 PP 22 1 x0 v162n44) fun v163n45 =>
 insB (evLoad3 PP 3 v163n45) fun v164n46 =>
 optK (evIA3 PP 22 1 x0 v157n43) fun v167n47 =>
 insB (evLoad3 PP 3 v167n47) fun v168n48 =>
 callV PP rec x4 [v164n46, v168n48] fun v169n49 =>
 optK (q_lss PP 3 v169n49 (Value.int .i64 0)) fun v170n50 =>
 optK (un3 PP .not v170n50) fun v171n51 =>
 ifV v171n51 (
 optK (q_add PP 3 v157n43 (Value.int .i64 1)) fun v173n52 =>
 LC_slices_symMergeCmpFunc_int lf d rec k fu x0 x1 x2 x3 x4 x18 x19 v173n52 x21 x22 x28 x80 x140) (
 LC_slices_symMergeCmpFunc_int lf d rec k fu x0 x1 x2 x3 x4 x18 x19 x20 v157n43 x22 x28 x80 x140)) (
 k (Ex.exit 8) [(0, x0), (1, x1), (2, x2), (3, x3), (4, x4), (18, x18), (19, x19), (20, x20), (21, x21), (22, x22), (28, x28), (80, x80), (140, x140), (151, v151n39)])
noncomputable def KC_slices_symMergeCmpFunc_int (lf d : Nat) (rec : RT) (dflt : KT) : KT := (kEx 8 (runCur [0, 1, 2, 3, 4, 18, 19, 20, 21, 22, 28, 80, 140, 151] (fun y0 y1 y2 y3 y4 y18 y19 y20 y21 y22 y28 y80 y140 y151 =>
 optK (q_sub PP 3 y19 y20) fun v177n53 =>
 optK (q_lss PP 3 y20 y2) fun v180n54 =>
 ifV v180n54 (
 optK (q_lss PP 3 y2 v177n53) fun v184n55 =>
 ifV v184n55 (
 (inside (rec 278 #[y0, y20, y2, v177n53, y4])).bind fun v191n56 =>
 optK (q_lss PP 3 y1 y20) fun v194n57 =>
 ifV v194n57 (
 optK (q_lss PP 3 y20 y18) fun v198n58 =>
 ifV v198n58 (
 (inside (rec 271 #[y0, y1, y20, y18, y4])).bind fun v205n59 =>
 optK (q_lss PP 3 y18 v177n53) fun v208n60 =>
 ifV v208n60 (
 optK (q_lss PP 3 v177n53 y3) fun v212n61 =>
 ifV v212n61 (
 (inside (rec 271 #[y0, y18, v177n53, y3, y4])).bind fun v219n62 =>
 outK []) (
 outK [])) (
 outK [])) (
 optK (q_lss PP 3 y18 v177n53) fun v208n63 =>
 ifV v208n63 (
 optK (q_lss PP 3 v177n53 y3) fun v212n64 =>
 ifV v212n64 (
 (inside (rec 271 #[y0, y18, v177n53, y3, y4])).bind fun v219n65 =>
 outK []) (
 outK [])) (
 outK []))) (
 optK (q_lss PP 3 y18 v177n53) fun v208n66 =>
 ifV v208n66 (
 optK (q_lss PP 3 v177n53 y3) fun v212n67 =>
 ifV v212n67 (
 (inside (rec 271 #[y0, y18, v177n53, y3, y4])).bind fun v219n68 =>
 outK []) (
 outK [])) (
 outK []))) (
 optK (q_lss PP 3 y1 y20) fun v194n69 =>
 ifV v194n69 (
 optK (q_lss PP 3 y20 y18) fun v198n70 =>
 ifV v198n70 (
 (inside (rec 271 #[y0, y1, y20, y18, y4])).bind fun v205n71 =>
 optK (q_lss PP 3 y18 v177n53) fun v208n72 =>
 ifV v208n72 (
 optK (q_lss PP 3 v177n53 y3) fun v212n73 =>
 ifV v212n73 (
 (inside (rec 271 #[y0, y18, v177n53, y3, y4])).bind fun v219n74 =>
 outK []) (
 outK [])) (
 outK [])) (
 optK (q_lss PP 3 y18 v177n53) fun v208n75 =>
 ifV v208n75 (
 optK (q_lss PP 3 v177n53 y3) fun v212n76 =>
 ifV v212n76 (
 (inside (rec 271 #[y0, y18, v177n53, y3, y4])).bind fun v219n77 =>
 outK []) (
 outK [])) (
 outK []))) (
 optK (q_lss PP 3 y18 v177n53) fun v208n78 =>
 ifV v208n78 (
 optK (q_lss PP 3 v177n53 y3) fun v212n79 =>
 ifV v212n79 (
 (inside (rec 271 #[y0, y18, v177n53, y3, y4])).bind fun v219n80 =>
 outK []) (
 outK [])) (
 outK [])))) (
 optK (q_lss PP 3 y1 y20) fun v194n81 =>
 ifV v194n81 (
 optK (q_lss PP 3 y20 y18) fun v198n82 =>
 ifV v198n82 (
 (inside (rec 271 #[y0, y1, y20, y18, y4])).bind fun v205n83 =>
 optK (q_lss PP 3 y18 v177n53) fun v208n84 =>
 ifV v208n84 (
 optK (q_lss PP 3 v177n53 y3) fun v212n85 =>
 ifV v212n85 (
 (inside (rec 271 #[y0, y18, v177n53, y3, y4])).bind fun v219n86 =>
 outK []) (
 outK [])) (
 outK [])) (
 optK (q_lss PP 3 y18 v177n53) fun v208n87 =>
 ifV v208n87 (
 optK (q_lss PP 3 v177n53 y3) fun v212n88 =>
 ifV v212n88 (
 (inside (rec 271 #[y0, y18, v177n53, y3, y4])).bind fun v219n89 =>
 outK []) (
 outK [])) (
 outK []))) (
 optK (q_lss PP 3 y18 v177n53) fun v208n90 =>
 ifV v208n90 (
 optK (q_lss PP 3 v177n53 y3) fun v212n91 =>
 ifV v212n91 (
 (inside (rec 271 #[y0, y18, v177n53, y3, y4])).bind fun v219n92 =>
 outK []) (
 outK [])) (
 outK [])))) (dflt (Ex.exit 8))) dflt)
noncomputable def LD_slices_symMergeCmpFunc_int (lf d : Nat) (rec : RT) (k : KT) : Nat → Value → Value → Value → Value → Value → Value → Value → Value → Value → Value → M Value
 | 0, _, _, _, _, _, _, _, _, _, _ => M.fail
 | fu + 1, x0, x1, x2, x3, x4, x10, x11, x13, x28, x33 =>
 optK (q_sub PP 3 x10 (Value.int .i64 1)) fun v57n93 =>
 optK (q_lss PP 3 x13 v57n93) fun v58n94 =>
 ifV v58n94 (
 optK (q_add PP 3 x13 (Value.int .i64 1)) fun v65n95 =>
 optK (q_add PP 3 x13 (Value.int .i64 1)) fun v68n96 =>
 optK (evIA3 PP 22 1 x0 v68n96) fun v69n97 =>
 insB (evLoad3 PP 3 v69n97) fun v70n98 =>
 optK (evIA3 PP 22 1 x0 x13) fun v73n99 =>
 insB (evLoad3 PP 3 v73n99) fun v74n100 =>
 optK (evIA3 PP 22 1 x0 x13) fun v75n101 =>
 insB (evStore3 PP 3 v75n101 v70n98) fun u102 =>
 optK (evIA3 PP 22 1 x0 v65n95) fun v76n103 =>
 insB (evStore3 PP 3 v76n103 v74n100) fun u104 =>
 optK (q_add PP 3 x13 (Value.int .i64 1)) fun v60n105 =>
 LD_slices_symMergeCmpFunc_int lf d rec k fu x0 x1 x2 x3 x4 x10 x11 v60n105 x28 x33) (
 k (Ex.exit 2) [(0, x0), (1, x1), (2, x2), (3, x3), (4, x4), (10, x10), (11, x11), (13, x13), (28, x28), (33, x33), (58, v58n94)])
noncomputable def KD_slices_symMergeCmpFunc_int (lf d : Nat) (rec : RT) (dflt : KT) : KT := (kEx 2 (runCur [0, 1, 2, 3, 4, 10, 11, 13, 28, 33, 58] (fun y0 y1 y2 y3 y4 y10 y11 y13 y28 y33 y58 =>
 outK []) (dflt (Ex.exit 2))) dflt)
noncomputable def LE_slices_symMergeCmpFunc_int (lf d : Nat) (rec : RT) (k : KT) : Nat → Value → Value → Value → Value → Value → Value → Value → Value → Value → Value → Value → M Value
 | 0, _, _, _, _, _, _, _, _, _, _, _ => M.fail
 | fu + 1, x0, x1, x2, x3, x4, x14, x15, x17, x28, x80, x85 =>
 optK (q_gtr PP 3 x17 x14) fun v110n106 =>
 ifV v110n106 (
 optK (q_sub PP 3 x17 (Value.int .i64 1)) fun v117n107 =>
 optK (q_sub PP 3 x17 (Value.int .i64 1)) fun v120n108 =>
 optK (evIA3 PP 22 1 x0 v120n108) fun v121n109 =>
 insB (evLoad3 PP 3 v121n109) fun v122n110 =>
 optK (evIA3 PP 22 1 x0 x17) fun v125n111 =>
 insB (evLoad3 PP 3 v125n111) fun v126n112 =>
 optK (evIA3 PP 22 1 x0 x17) fun v127n113 =>
 insB (evStore3 PP 3 v127n113 v122n110) fun u114 =>
 optK (evIA3 PP 22 1 x0 v117n107) fun v128n115 =>
 insB (evStore3 PP 3 v128n115 v126n112) fun u116 =>
 optK (q_sub PP 3 x17 (Value.int .i64 1)) fun v112n117 =>
 LE_slices_symMergeCmpFunc_int lf d rec k fu x0 x1 x2 x3 x4 x14 x15 v112n117 x28 x80 x85) (
 k (Ex.exit 6) [(0, x0), (1, x1), (2, x2), (3, x3), (4, x4), (14, x14), (15, x15), (17, x17), (28, x28), (80, x80), (85, x85), (110, v110n106)])
noncomputable def KE_slices_symMergeCmpFunc_int (lf d : Nat) (rec : RT) (dflt : KT) : KT := (kEx 6 (runCur [0, 1, 2, 3, 4, 14, 15, 17, 28, 80, 85, 110] (fun y0 y1 y2 y3 y4 y14 y15 y17 y28 y80 y85 y110 =>
 outK []) (dflt (Ex.exit 6))) dflt)
noncomputable def KA_slices_symMergeCmpFunc_int (lf d : Nat) (rec : RT) (dflt : KT) : KT := (kEx 0 (runCur [0, 1, 2, 3, 4, 10, 11, 28, 33] (fun y0 y1 y2 y3 y4 y10 y11 y28 y33 =>
 LD_slices_symMergeCmpFunc_int lf d rec (KD_slices_symMergeCmpFunc_int lf d rec (kcD_slices_symMergeCmpFunc_int lf d)) lf y0 y1 y2 y3 y4 y10 y11 y1 y28 y33) (dflt (Ex.exit 0))) dflt)
noncomputable def KB_slices_symMergeCmpFunc_int (lf d : Nat) (rec : RT) (dflt : KT) : KT := (kEx 4 (runCur [0, 1, 2, 3, 4, 14, 15, 28, 80, 85] (fun y0 y1 y2 y3 y4 y14 y15 y28 y80 y85 =>
 LE_slices_symMergeCmpFunc_int lf d rec (KE_slices_symMergeCmpFunc_int lf d rec (kcE_slices_symMergeCmpFunc_int lf d)) lf y0 y1 y2 y3 y4 y14 y15 y2 y28 y80 y85) (dflt (Ex.exit 4))) dflt)
noncomputable def F_slices_symMergeCmpFunc_int (lf d : Nat) (rec : RT) (a0 a1 a2 a3 a4 : Value) : M Value :=
 optK (q_sub PP 3 a2 a1) fun v27n1 =>
 optK (q_eql PP 3 v27n1 (Value.int .i64 1)) fun v28n2 =>
 ifV v28n2 (
 LA_slices_symMergeCmpFunc_int lf d rec (KA_slices_symMergeCmpFunc_int lf d rec (kcA_slices_symMergeCmpFunc_int lf d)) lf a0 a1 a2 a3 a4 a2 a3 v28n2) (
 optK (q_sub PP 3 a3 a2) fun v79n3 =>
 optK (q_eql PP 3 v79n3 (Value.int .i64 1)) fun v80n4 =>
 ifV v80n4 (
 LB_slices_symMergeCmpFunc_int lf d rec (KB_slices_symMergeCmpFunc_int lf d rec (kcB_slices_symMergeCmpFunc_int lf d)) lf a0 a1 a2 a3 a4 a1 a2 v28n2 v80n4) (
 optK (q_add PP 3 a1 a3) fun v131n5 =>
 conv3 PP 3 144 .i64 .u64 v131n5 fun v132n6 =>
 optK (q_shr PP 144 v132n6 (Value.int .u64 1)) fun v133n7 =>
 conv3 PP 144 3 .u64 .i64 v133n7 fun v134n8 =>
 optK (q_add PP 3 v134n8 a2) fun v137n9 =>
 optK (q_gtr PP 3 a2 v134n8) fun v140n10 =>
 ifV v140n10 (
 optK (q_sub PP 3 v137n9 a3) fun v143n11 =>
 optK (q_sub PP 3 v137n9 (Value.int .i64 1)) fun v148n12 =>
 LC_slices_symMergeCmpFunc_int lf d rec (KC_slices_symMergeCmpFunc_int lf d rec (kcC_slices_symMergeCmpFunc_int lf d)) lf a0 a1 a2 a3 a4 v134n8 v137n9 v143n11 v134n8 v148n12 v28n2 v80n4 v140n10) (
 optK (q_sub PP 3 v137n9 (Value.int .i64 1)) fun v148n13 =>
 LC_slices_symMergeCmpFunc_int lf d rec (KC_slices_symMergeCmpFunc_int lf d rec (kcC_slices_symMergeCmpFunc_int lf d)) lf a0 a1 a2 a3 a4 v134n8 v137n9 a1 a2 v148n13 v28n2 v80n4 v140n10)))
theorem LQA_slices_symMergeCmpFunc_int (lf d : Nat) (k : KT) : ∀ fu : Nat, LA_slices_symMergeCmpFunc_int lf d (evC lf d) k fu = lpA_slices_symMergeCmpFunc_int lf d fu k
  | 0 => by funext x0 x1 x2 x3 x4 x10 x11 x28; kernel_rfl
  | fu + 1 => by
    have ih := LQA_slices_symMergeCmpFunc_int lf d k fu
    funext x0 x1 x2 x3 x4 x10 x11 x28; simp only [LA_slices_symMergeCmpFunc_int, ih, clash3_eq, conv3_eq cw144x3, conv3_eq cw3x144, evIA3_eq (P := PP) Tryz.underlying22 gs3, evLoad3_eq (P := PP) ga3, insB_eq, q_add_eq (P := PP) nf3, q_lss_eq (P := PP) nf3, q_shr_eq (P := PP) nf144]; kernel_rfl
theorem LQB_slices_symMergeCmpFunc_int (lf d : Nat) (k : KT) : ∀ fu : Nat, LB_slices_symMergeCmpFunc_int lf d (evC lf d) k fu = lpB_slices_symMergeCmpFunc_int lf d fu k
  | 0 => by funext x0 x1 x2 x3 x4 x14 x15 x28 x80; kernel_rfl
  | fu + 1 => by
    have ih := LQB_slices_symMergeCmpFunc_int lf d k fu
    funext x0 x1 x2 x3 x4 x14 x15 x28 x80; simp only [LB_slices_symMergeCmpFunc_int, ih, clash3_eq, conv3_eq cw144x3, conv3_eq cw3x144, evIA3_eq (P := PP) Tryz.underlying22 gs3, evLoad3_eq (P := PP) ga3, insB_eq, q_add_eq (P := PP) nf3, q_lss_eq (P := PP) nf3, q_shr_eq (P := PP) nf144, un3_eq]; kernel_rfl
theorem LQC_slices_symMergeCmpFunc_int (lf d : Nat) (k : KT) : ∀ fu : Nat, LC_slices_symMergeCmpFunc_int lf d (evC lf d) k fu = lpC_slices_symMergeCmpFunc_int lf d fu k
  | 0 => by funext x0 x1 x2 x3 x4 x18 x19 x20 x21 x22 x28 x80 x140; kernel_rfl
  | fu + 1 => by
    have ih := LQC_slices_symMergeCmpFunc_int lf d k fu
    funext x0 x1 x2 x3 x4 x18 x19 x20 x21 x22 x28 x80 x140; simp only [LC_slices_symMergeCmpFunc_int, ih, clash3_eq, conv3_eq cw144x3, conv3_eq cw3x144, evIA3_eq (P := PP) Tryz.underlying22 gs3, evLoad3_eq (P := PP) ga3, insB_eq, q_add_eq (P := PP) nf3, q_lss_eq (P := PP) nf3, q_shr_eq (P := PP) nf144, q_sub_eq (P := PP) nf3, un3_eq]; kernel_rfl
set_option maxRecDepth 20000 in
theorem KQC_slices_symMergeCmpFunc_int (lf d : Nat) : KC_slices_symMergeCmpFunc_int lf d (evC lf d) (kcC_slices_symMergeCmpFunc_int lf d) = kcC_slices_symMergeCmpFunc_int lf d := by
  unfold KC_slices_symMergeCmpFunc_int
  refine Eq.trans (kEx_eq ?_) ?_
  · exact (runCur_eq _ _ _ (by intro y0 y1 y2 y3 y4 y18 y19 y20 y21 y22 y28 y80 y140 y151; show _ = _; (try simp only [clash3_eq, insB_eq, q_lss_eq (P := PP) nf3, q_sub_eq (P := PP) nf3]); kernel_rfl))
  rfl
theorem LQD_slices_symMergeCmpFunc_int (lf d : Nat) (k : KT) : ∀ fu : Nat, LD_slices_symMergeCmpFunc_int lf d (evC lf d) k fu = lpD_slices_symMergeCmpFunc_int lf d fu k
  | 0 => by funext x0 x1 x2 x3 x4 x10 x11 x13 x28 x33; kernel_rfl
  | fu + 1 => by
    have ih := LQD_slices_symMergeCmpFunc_int lf d k fu
    funext x0 x1 x2 x3 x4 x10 x11 x13 x28 x33; simp only [LD_slices_symMergeCmpFunc_int, ih, clash3_eq, evIA3_eq (P := PP) Tryz.underlying22 gs3, evLoad3_eq (P := PP) ga3, evStore3_eq (P := PP) gs3, insB_eq, q_add_eq (P := PP) nf3, q_lss_eq (P := PP) nf3, q_sub_eq (P := PP) nf3]; kernel_rfl
set_option maxRecDepth 20000 in
theorem KQD_slices_symMergeCmpFunc_int (lf d : Nat) : KD_slices_symMergeCmpFunc_int lf d (evC lf d) (kcD_slices_symMergeCmpFunc_int lf d) = kcD_slices_symMergeCmpFunc_int lf d := by
  unfold KD_slices_symMergeCmpFunc_int
  refine Eq.trans (kEx_eq ?_) ?_
  · exact (runCur_eq _ _ _ (by intro y0 y1 y2 y3 y4 y10 y11 y13 y28 y33 y58; show _ = _; (try simp only [clash3_eq, insB_eq]); kernel_rfl))
  rfl
theorem LQE_slices_symMergeCmpFunc_int (lf d : Nat) (k : KT) : ∀ fu : Nat, LE_slices_symMergeCmpFunc_int lf d (evC lf d) k fu = lpE_slices_symMergeCmpFunc_int lf d fu k
  | 0 => by funext x0 x1 x2 x3 x4 x14 x15 x17 x28 x80 x85; kernel_rfl
  | fu + 1 => by
    have ih := LQE_slices_symMergeCmpFunc_int lf d k fu
    funext x0 x1 x2 x3 x4 x14 x15 x17 x28 x80 x85; simp only [LE_slices_symMergeCmpFunc_int, ih, clash3_eq, evIA3_eq (P := PP) Tryz.underlying22 gs3, evLoad3_eq (P := PP) ga3, evStore3_eq (P := PP) gs3, insB_eq, q_gtr_eq (P := PP) nf3, q_sub_eq (P := PP) nf3]; kernel_rfl
set_option maxRecDepth 20000 in
theorem KQE_slices_symMergeCmpFunc_int (lf d : Nat) : KE_slices_symMergeCmpFunc_int lf d (evC lf d) (kcE_slices_symMergeCmpFunc_int lf d) = kcE_slices_symMergeCmpFunc_int lf d := by
  unfold KE_slices_symMergeCmpFunc_int
  refine Eq.trans (kEx_eq ?_) ?_
  · exact (runCur_eq _ _ _ (by intro y0 y1 y2 y3 y4 y14 y15 y17 y28 y80 y85 y110; show _ = _; (try simp only [clash3_eq, insB_eq]); kernel_rfl))
  rfl
set_option maxRecDepth 20000 in
theorem KQA_slices_symMergeCmpFunc_int (lf d : Nat) : KA_slices_symMergeCmpFunc_int lf d (evC lf d) (kcA_slices_symMergeCmpFunc_int lf d) = kcA_slices_symMergeCmpFunc_int lf d := by
  unfold KA_slices_symMergeCmpFunc_int
  refine Eq.trans (kEx_eq ?_) ?_
  · exact (runCur_eq _ _ _ (by intro y0 y1 y2 y3 y4 y10 y11 y28 y33; show _ = _; (try simp only [KQD_slices_symMergeCmpFunc_int lf d, LQD_slices_symMergeCmpFunc_int, clash3_eq, insB_eq]); kernel_rfl))
  rfl
set_option maxRecDepth 20000 in
theorem KQB_slices_symMergeCmpFunc_int (lf d : Nat) : KB_slices_symMergeCmpFunc_int lf d (evC lf d) (kcB_slices_symMergeCmpFunc_int lf d) = kcB_slices_symMergeCmpFunc_int lf d := by
  unfold KB_slices_symMergeCmpFunc_int
  refine Eq.trans (kEx_eq ?_) ?_
  · exact (runCur_eq _ _ _ (by intro y0 y1 y2 y3 y4 y14 y15 y28 y80 y85; show _ = _; (try simp only [KQE_slices_symMergeCmpFunc_int lf d, LQE_slices_symMergeCmpFunc_int, clash3_eq, insB_eq]); kernel_rfl))
  rfl
theorem fsh_slices_symMergeCmpFunc_int (lf d : Nat) (a0 a1 a2 a3 a4 : Value) : inside (F_slices_symMergeCmpFunc_int lf d (evC lf d) a0 a1 a2 a3 a4) = evC lf (d + 1) 271 #[a0, a1, a2, a3, a4] := by
  unfold F_slices_symMergeCmpFunc_int; (try simp only [KQA_slices_symMergeCmpFunc_int lf d, LQA_slices_symMergeCmpFunc_int, KQB_slices_symMergeCmpFunc_int lf d, LQB_slices_symMergeCmpFunc_int, KQC_slices_symMergeCmpFunc_int lf d, LQC_slices_symMergeCmpFunc_int, clash3_eq, conv3_eq cw144x3, conv3_eq cw3x144, insB_eq, q_add_eq (P := PP) nf3, q_eql_eq (P := PP) nf3, q_gtr_eq (P := PP) nf3, q_shr_eq (P := PP) nf144, q_sub_eq (P := PP) nf3]); kernel_rfl

noncomputable def F_balerref09_less (lf d : Nat) (rec : RT) (a0 a1 : Value) : M Value :=
 insB (evBox3 PP 271 a0) fun v2n1 =>
 insB (evBox3 PP 271 a1) fun v3n2 =>
 optK (evFA3 PP 271 0 v2n1 0) fun v5n3 =>
 insB (evLoad3 PP 3 v5n3) fun v6n4 =>
 optK (evFA3 PP 271 0 v3n2 0) fun v7n5 =>
 insB (evLoad3 PP 3 v7n5) fun v8n6 =>
 optK (q_lss PP 3 v6n4 v8n6) fun v9n7 =>
 ifV v9n7 (
 outK [(Value.bool true)]) (
 optK (evFA3 PP 271 0 v2n1 0) fun v11n8 =>
 insB (evLoad3 PP 3 v11n8) fun v12n9 =>
 optK (evFA3 PP 271 0 v3n2 0) fun v13n10 =>
 insB (evLoad3 PP 3 v13n10) fun v14n11 =>
 optK (q_eql PP 3 v12n9 v14n11) fun v15n12 =>
 ifV v15n12 (
 optK (evFA3 PP 271 1 v2n1 1) fun v17n13 =>
 insB (evLoad3 PP 3 v17n13) fun v18n14 =>
 optK (evFA3 PP 271 1 v3n2 1) fun v19n15 =>
 insB (evLoad3 PP 3 v19n15) fun v20n16 =>
 optK (q_lss PP 3 v18n14 v20n16) fun v21n17 =>
 outK [v21n17]) (
 outK [(Value.bool false)]))
theorem fsh_balerref09_less (lf d : Nat) (a0 a1 : Value) : inside (F_balerref09_less lf d (evC lf d) a0 a1) = evC lf (d + 1) 272 #[a0, a1] := by
  unfold F_balerref09_less; (try simp only [clash3_eq, evBox3_eq, evFA3_eq (P := PP) gf271f0, evFA3_eq (P := PP) gf271f1, evLoad3_eq (P := PP) ga3, insB_eq, q_eql_eq (P := PP) nf3, q_lss_eq (P := PP) nf3]); kernel_rfl

noncomputable def F_internal_stringslite_HasPrefix (lf d : Nat) (rec : RT) (a0 a1 : Value) : M Value :=
 optK (len2 PP #[9] [a0]) fun v6n1 =>
 optK (len2 PP #[9] [a1]) fun v8n2 =>
 optK (q_geq PP 3 v6n1 v8n2) fun v9n3 =>
 ifV v9n3 (
 optK (len2 PP #[9] [a1]) fun v13n4 =>
 slice3 PP 9 a0 none (some v13n4) none fun v14n5 =>
 optK (qS_eql PP 9 v14n5 a1) fun v16n6 =>
 outK [v16n6]) (
 outK [(Value.bool false)])
theorem fsh_internal_stringslite_HasPrefix (lf d : Nat) (a0 a1 : Value) : inside (F_internal_stringslite_HasPrefix lf d (evC lf d) a0 a1) = evC lf (d + 1) 275 #[a0, a1] := by
  unfold F_internal_stringslite_HasPrefix; (try simp only [clash3_eq, insB_eq, qS_eql_eq (P := PP) nf9, q_geq_eq (P := PP) nf3, slice3_eq (P := PP) Tryz.underlying9]); kernel_rfl

noncomputable def lpA_slices_rotateCmpFunc_int (lf d fu : Nat) (k : KT) (x0 x1 x2 x3 x4 x10 x11 : Value) : M Value := loopK (fun s1 k1 => codeK PP (evC lf d) (gtA 278) lf (codeAt (bodyOf PP 278) [true, true, false, false, false]) s1 k1) [0, 1, 2, 3, 4, 10, 11] fu [(0, x0), (1, x1), (2, x2), (3, x3), (4, x4), (10, x10), (11, x11)] k
noncomputable def kcA_slices_rotateCmpFunc_int (lf d : Nat) : KT := contAt PP (evC lf d) (gtA 278) lf (bodyOf PP 278) [true, true, false, false] (endK PP (resOf PP 278))
noncomputable def LA_slices_rotateCmpFunc_int (lf d : Nat) (rec : RT) (k : KT) : Nat → Value → Value → Value → Value → Value → Value → Value → M Value
 | 0, _, _, _, _, _, _, _ => M.fail
 | fu + 1, x0, x1, x2, x3, x4, x10, x11 =>
 optK (q_neq PP 3 x10 x11) fun v20n3 =>
 ifV v20n3 (
 optK (q_gtr PP 3 x10 x11) fun v23n4 =>
 ifV v23n4 (
 optK (q_sub PP 3 x2 x10) fun v27n5 =>
 (inside (rec 281 #[x0, v27n5, x2, x11, x4])).bind fun v31n6 =>
 optK (q_sub PP 3 x10 x11) fun v34n7 =>
 LA_slices_rotateCmpFunc_int lf d rec k fu x0 x1 x2 x3 x4 v34n7 x11) (
 optK (q_sub PP 3 x2 x10) fun v38n8 =>
 optK (q_add PP 3 x2 x11) fun v41n9 =>
 optK (q_sub PP 3 v41n9 x10) fun v43n10 =>
 (inside (rec 281 #[x0, v38n8, v43n10, x10, x4])).bind fun v46n11 =>
 optK (q_sub PP 3 x11 x10) fun v49n12 =>
 LA_slices_rotateCmpFunc_int lf d rec k fu x0 x1 x2 x3 x4 x10 v49n12)) (
 k (Ex.exit 0) [(0, x0), (1, x1), (2, x2), (3, x3), (4, x4), (10, x10), (11, x11), (20, v20n3)])
noncomputable def KA_slices_rotateCmpFunc_int (lf d : Nat) (rec : RT) (dflt : KT) : KT := (kEx 0 (runCur [0, 1, 2, 3, 4, 10, 11, 20] (fun y0 y1 y2 y3 y4 y10 y11 y20 =>
 optK (q_sub PP 3 y2 y10) fun v53n13 =>
 (inside (rec 281 #[y0, v53n13, y2, y10, y4])).bind fun v57n14 =>
 outK []) (dflt (Ex.exit 0))) dflt)
noncomputable def F_slices_rotateCmpFunc_int (lf d : Nat) (rec : RT) (a0 a1 a2 a3 a4 : Value) : M Value :=
 optK (q_sub PP 3 a2 a1) fun v14n1 =>
 optK (q_sub PP 3 a3 a2) fun v17n2 =>
 LA_slices_rotateCmpFunc_int lf d rec (KA_slices_rotateCmpFunc_int lf d rec (kcA_slices_rotateCmpFunc_int lf d)) lf a0 a1 a2 a3 a4 v14n1 v17n2
theorem LQA_slices_rotateCmpFunc_int (lf d : Nat) (k : KT) : ∀ fu : Nat, LA_slices_rotateCmpFunc_int lf d (evC lf d) k fu = lpA_slices_rotateCmpFunc_int lf d fu k
  | 0 => by funext x0 x1 x2 x3 x4 x10 x11; kernel_rfl
  | fu + 1 => by
    have ih := LQA_slices_rotateCmpFunc_int lf d k fu
    funext x0 x1 x2 x3 x4 x10 x11; simp only [LA_slices_rotateCmpFunc_int, ih, clash3_eq, insB_eq, q_add_eq (P := PP) nf3, q_gtr_eq (P := PP) nf3, q_neq_eq (P := PP) nf3, q_sub_eq (P := PP) nf3]; kernel_rfl
set_option maxRecDepth 20000 in
theorem KQA_slices_rotateCmpFunc_int (lf d : Nat) : KA_slices_rotateCmpFunc_int lf d (evC lf d) (kcA_slices_rotateCmpFunc_int lf d) = kcA_slices_rotateCmpFunc_int lf d := by
  unfold KA_slices_rotateCmpFunc_int
  refine Eq.trans (kEx_eq ?_) ?_
  · exact (runCur_eq _ _ _ (by intro y0 y1 y2 y3 y4 y10 y11 y20; show _ = _; (try simp only [clash3_eq, insB_eq, q_sub_eq (P := PP) nf3]); kernel_rfl))
  rfl
theorem fsh_slices_rotateCmpFunc_int (lf d : Nat) (a0 a1 a2 a3 a4 : Value) : inside (F_slices_rotateCmpFunc_int lf d (evC lf d) a0 a1 a2 a3 a4) = evC lf (d + 1) 278 #[a0, a1, a2, a3, a4] := by
  unfold F_slices_rotateCmpFunc_int; (try simp only [KQA_slices_rotateCmpFunc_int lf d, LQA_slices_rotateCmpFunc_int, clash3_eq, insB_eq, q_sub_eq (P := PP) nf3]); kernel_rfl

noncomputable def lpA_slices_swapRangeCmpFunc_int (lf d fu : Nat) (k : KT) (x0 x1 x2 x3 x10 : Value) : M Value := loopK (fun s1 k1 => codeK PP (evC lf d) (gtA 281) lf (codeAt (bodyOf PP 281) [true, false, false]) s1 k1) [0, 1, 2, 3, 10] fu [(0, x0), (1, x1), (2, x2), (3, x3), (10, x10)] k
noncomputable def kcA_slices_swapRangeCmpFunc_int (lf d : Nat) : KT := contAt PP (evC lf d) (gtA 281) lf (bodyOf PP 281) [true, false] (endK PP (resOf PP 281))
noncomputable def LA_slices_swapRangeCmpFunc_int (lf d : Nat) (rec : RT) (k : KT) : Nat → Value → Value → Value → Value → Value → M Value
 | 0, _, _, _, _, _ => M.fail
 | fu + 1, x0, x1, x2, x3, x10 =>
 optK (q_lss PP 3 x10 x3) fun v13n1 =>
 ifV v13n1 (
 optK (q_add PP 3 x1 x10) fun v19n2 =>
 optK (q_add PP 3 x2 x10) fun v23n3 =>
 optK (q_add PP 3 x2 x10) fun v27n4 =>
 optK (evIA3 PP 22 1 x0 v27n4) fun v28n5 =>
 insB (evLoad3 PP 3 v28n5) fun v29n6 =>
 optK (q_add PP 3 x1 x10) fun v33n7 =>
 optK (evIA3 PP 22 1 x0 v33n7) fun v34n8 =>
 insB (evLoad3 PP 3 v34n8) fun v35n9 =>
 optK (evIA3 PP 22 1 x0 v19n2) fun v36n10 =>
 insB (evStore3 PP 3 v36n10 v29n6) fun u11 =>
 optK (evIA3 PP 22 1 x0 v23n3) fun v37n12 =>
 insB (evStore3 PP 3 v37n12 v35n9) fun u13 =>
 optK (q_add PP 3 x10 (Value.int .i64 1)) fun v15n14 =>
 LA_slices_swapRangeCmpFunc_int lf d rec k fu x0 x1 x2 x3 v15n14) (
 k (Ex.exit 0) [(0, x0), (1, x1), (2, x2), (3, x3), (10, x10), (13, v13n1)])
noncomputable def KA_slices_swapRangeCmpFunc_int (lf d : Nat) (rec : RT) (dflt : KT) : KT := (kEx 0 (runCur [0, 1, 2, 3, 10, 13] (fun y0 y1 y2 y3 y10 y13 =>
 outK []) (dflt (Ex.exit 0))) dflt)
noncomputable def F_slices_swapRangeCmpFunc_int (lf d : Nat) (rec : RT) (a0 a1 a2 a3 a4 : Value) : M Value :=
 LA_slices_swapRangeCmpFunc_int lf d rec (KA_slices_swapRangeCmpFunc_int lf d rec (kcA_slices_swapRangeCmpFunc_int lf d)) lf a0 a1 a2 a3 (Value.int .i64 0)
theorem LQA_slices_swapRangeCmpFunc_int (lf d : Nat) (k : KT) : ∀ fu : Nat, LA_slices_swapRangeCmpFunc_int lf d (evC lf d) k fu = lpA_slices_swapRangeCmpFunc_int lf d fu k
  | 0 => by funext x0 x1 x2 x3 x10; kernel_rfl
  | fu + 1 => by
    have ih := LQA_slices_swapRangeCmpFunc_int lf d k fu
    funext x0 x1 x2 x3 x10; simp only [LA_slices_swapRangeCmpFunc_int, ih, clash3_eq, evIA3_eq (P := PP) Tryz.underlying22 gs3, evLoad3_eq (P := PP) ga3, evStore3_eq (P := PP) gs3, insB_eq, q_add_eq (P := PP) nf3, q_lss_eq (P := PP) nf3]; kernel_rfl
set_option maxRecDepth 20000 in
theorem KQA_slices_swapRangeCmpFunc_int (lf d : Nat) : KA_slices_swapRangeCmpFunc_int lf d (evC lf d) (kcA_slices_swapRangeCmpFunc_int lf d) = kcA_slices_swapRangeCmpFunc_int lf d := by
  unfold KA_slices_swapRangeCmpFunc_int
  refine Eq.trans (kEx_eq ?_) ?_
  · exact (runCur_eq _ _ _ (by intro y0 y1 y2 y3 y10 y13; show _ = _; (try simp only [clash3_eq, insB_eq]); kernel_rfl))
  rfl
theorem fsh_slices_swapRangeCmpFunc_int (lf d : Nat) (a0 a1 a2 a3 a4 : Value) : inside (F_slices_swapRangeCmpFunc_int lf d (evC lf d) a0 a1 a2 a3 a4) = evC lf (d + 1) 281 #[a0, a1, a2, a3, a4] := by
  unfold F_slices_swapRangeCmpFunc_int; (try simp only [KQA_slices_swapRangeCmpFunc_int lf d, LQA_slices_swapRangeCmpFunc_int, clash3_eq, insB_eq]); kernel_rfl

noncomputable def fTab (lf : Nat) : Tab := [
 (12, fun d rec => runAr 3 (fun a0 a1 a2 => inside (F_code_Write lf d rec a0 a1 a2)) (fun l => evC lf (d + 1) 12 l.toArray)),
 (19, fun d rec => runAr 4 (fun a0 a1 a2 a3 => inside (F_stream_Writer_Turned lf d rec a0 a1 a2 a3)) (fun l => evC lf (d + 1) 19 l.toArray)),
 (20, fun d rec => runAr 1 (fun a0 => inside (F_stream_Writer_End lf d rec a0)) (fun l => evC lf (d + 1) 20 l.toArray)),
 (21, fun d rec => runAr 1 (fun a0 => inside (F_stream_Writer_Take lf d rec a0)) (fun l => evC lf (d + 1) 21 l.toArray)),
 (24, fun d rec => runAr 0 (inside (F_balerlaw23_letter lf d rec)) (fun l => evC lf (d + 1) 24 l.toArray)),
 (25, fun d rec => runAr 3 (fun a0 a1 a2 => inside (F_press_New lf d rec a0 a1 a2)) (fun l => evC lf (d + 1) 25 l.toArray)),
 (26, fun d rec => runAr 2 (fun a0 a1 => inside (F_press_Press_Feed lf d rec a0 a1)) (fun l => evC lf (d + 1) 26 l.toArray)),
 (28, fun d rec => runAr 1 (fun a0 => inside (F_press_Press_Stopped lf d rec a0)) (fun l => evC lf (d + 1) 28 l.toArray)),
 (29, fun d rec => runAr 1 (fun a0 => inside (F_press_Press_End lf d rec a0)) (fun l => evC lf (d + 1) 29 l.toArray)),
 (30, fun d rec => runAr 2 (fun a0 a1 => inside (F_press_Press_Step lf d rec a0 a1)) (fun l => evC lf (d + 1) 30 l.toArray)),
 (31, fun d rec => runAr 2 (fun a0 a1 => inside (F_press_Press_Take lf d rec a0 a1)) (fun l => evC lf (d + 1) 31 l.toArray)),
 (33, fun d rec => runAr 1 (fun a0 => inside (F_press_Press_Done lf d rec a0)) (fun l => evC lf (d + 1) 33 l.toArray)),
 (47, fun d rec => runAr 2 (fun a0 a1 => inside (F_code_chosen lf d rec a0 a1)) (fun l => evC lf (d + 1) 47 l.toArray)),
 (48, fun d rec => runAr 3 (fun a0 a1 a2 => inside (F_picks_Write lf d rec a0 a1 a2)) (fun l => evC lf (d + 1) 48 l.toArray)),
 (49, fun d rec => runAr 2 (fun a0 a1 => inside (F_delta_Write lf d rec a0 a1)) (fun l => evC lf (d + 1) 49 l.toArray)),
 (50, fun d rec => runAr 1 (fun a0 => inside (F_canon_New lf d rec a0)) (fun l => evC lf (d + 1) 50 l.toArray)),
 (51, fun d rec => runAr 3 (fun a0 a1 a2 => inside (F_canon_Code_Put lf d rec a0 a1 a2)) (fun l => evC lf (d + 1) 51 l.toArray)),
 (53, fun d rec => runAr 0 (inside (F_bits_NewWriter lf d rec)) (fun l => evC lf (d + 1) 53 l.toArray)),
 (54, fun d rec => runAr 2 (fun a0 a1 => inside (F_code_Bits lf d rec a0 a1)) (fun l => evC lf (d + 1) 54 l.toArray)),
 (56, fun d rec => runAr 1 (fun a0 => inside (F_bits_Writer_Pad lf d rec a0)) (fun l => evC lf (d + 1) 56 l.toArray)),
 (57, fun d rec => runAr 1 (fun a0 => inside (F_bits_Writer_Take lf d rec a0)) (fun l => evC lf (d + 1) 57 l.toArray)),
 (62, fun d rec => runAr 2 (fun a0 a1 => inside (F_stream_Writer_magic lf d rec a0 a1)) (fun l => evC lf (d + 1) 62 l.toArray)),
 (63, fun d rec => runAr 2 (fun a0 a1 => inside (F_crc_Combine lf d rec a0 a1)) (fun l => evC lf (d + 1) 63 l.toArray)),
 (64, fun d rec => runAr 4 (fun a0 a1 a2 a3 => inside (F_block_Turned lf d rec a0 a1 a2 a3)) (fun l => evC lf (d + 1) 64 l.toArray)),
 (65, fun d rec => runAr 3 (fun a0 a1 a2 => inside (F_bits_Writer_Put lf d rec a0 a1 a2)) (fun l => evC lf (d + 1) 65 l.toArray)),
 (68, fun d rec => runAr 3 (fun a0 a1 a2 => inside (F_balerref21_With lf d rec a0 a1 a2)) (fun l => evC lf (d + 1) 68 l.toArray)),
 (69, fun d rec => runAr 2 (fun a0 a1 => inside (F_split_Room lf d rec a0 a1)) (fun l => evC lf (d + 1) 69 l.toArray)),
 (70, fun d rec => runAr 1 (fun a0 => inside (F_press_windowed lf d rec a0)) (fun l => evC lf (d + 1) 70 l.toArray)),
 (71, fun d rec => runAr 1 (fun a0 => inside (F_split_New lf d rec a0)) (fun l => evC lf (d + 1) 71 l.toArray)),
 (72, fun d rec => runAr 1 (fun a0 => inside (F_stream_New lf d rec a0)) (fun l => evC lf (d + 1) 72 l.toArray)),
 (75, fun d rec => runAr 1 (fun a0 => inside (F_press_Press_writes lf d rec a0)) (fun l => evC lf (d + 1) 75 l.toArray)),
 (76, fun d rec => runAr 1 (fun a0 => inside (F_press_Press_whole lf d rec a0)) (fun l => evC lf (d + 1) 76 l.toArray)),
 (77, fun d rec => runAr 1 (fun a0 => inside (F_press_Press_flush lf d rec a0)) (fun l => evC lf (d + 1) 77 l.toArray)),
 (78, fun d rec => runAr 2 (fun a0 a1 => inside (F_press_Press_work lf d rec a0 a1)) (fun l => evC lf (d + 1) 78 l.toArray)),
 (79, fun d rec => runAr 1 (fun a0 => inside (F_delta_sized lf d rec a0)) (fun l => evC lf (d + 1) 79 l.toArray)),
 (80, fun d rec => runAr 0 (inside (F_picks_fresh lf d rec)) (fun l => evC lf (d + 1) 80 l.toArray)),
 (87, fun d rec => runAr 2 (fun a0 a1 => inside (F_slices_Index_int_int lf d rec a0 a1)) (fun l => evC lf (d + 1) 87 l.toArray)),
 (88, fun d rec => runAr 2 (fun a0 a1 => inside (F_tables_Of lf d rec a0 a1)) (fun l => evC lf (d + 1) 88 l.toArray)),
 (89, fun d rec => runAr 2 (fun a0 a1 => inside (F_picks_may lf d rec a0 a1)) (fun l => evC lf (d + 1) 89 l.toArray)),
 (90, fun d rec => runAr 1 (fun a0 => inside (F_picks_places lf d rec a0)) (fun l => evC lf (d + 1) 90 l.toArray)),
 (91, fun d rec => runAr 1 (fun a0 => inside (F_delta_may lf d rec a0)) (fun l => evC lf (d + 1) 91 l.toArray)),
 (92, fun d rec => runAr 2 (fun a0 a1 => inside (F_delta_steps lf d rec a0 a1)) (fun l => evC lf (d + 1) 92 l.toArray)),
 (93, fun d rec => runAr 3 (fun a0 a1 a2 => inside (F_delta_Write_1 lf d rec a0 a1 a2)) (fun l => evC lf (d + 1) 93 l.toArray)),
 (94, fun d rec => runAr 1 (fun a0 => inside (F_canon_whole lf d rec a0)) (fun l => evC lf (d + 1) 94 l.toArray)),
 (95, fun d rec => runAr 1 (fun a0 => inside (F_slices_Clone_int_int lf d rec a0)) (fun l => evC lf (d + 1) 95 l.toArray)),
 (96, fun d rec => runAr 2 (fun a0 a1 => inside (F_canon_Code_Of lf d rec a0 a1)) (fun l => evC lf (d + 1) 96 l.toArray)),
 (97, fun d rec => runAr 2 (fun a0 a1 => inside (F_picks_Bits lf d rec a0 a1)) (fun l => evC lf (d + 1) 97 l.toArray)),
 (98, fun d rec => runAr 1 (fun a0 => inside (F_delta_Bits lf d rec a0)) (fun l => evC lf (d + 1) 98 l.toArray)),
 (99, fun d rec => runAr 2 (fun a0 a1 => inside (F_tables_Cost lf d rec a0 a1)) (fun l => evC lf (d + 1) 99 l.toArray)),
 (100, fun d rec => runAr 2 (fun a0 a1 => inside (F_bits_Writer_bit lf d rec a0 a1)) (fun l => evC lf (d + 1) 100 l.toArray)),
 (102, fun d rec => runAr 1 (fun a0 => inside (F_bwt_New lf d rec a0)) (fun l => evC lf (d + 1) 102 l.toArray)),
 (103, fun d rec => runAr 1 (fun a0 => inside (F_bwt_Turner_Done lf d rec a0)) (fun l => evC lf (d + 1) 103 l.toArray)),
 (104, fun d rec => runAr 2 (fun a0 a1 => inside (F_bwt_Turner_Step lf d rec a0 a1)) (fun l => evC lf (d + 1) 104 l.toArray)),
 (105, fun d rec => runAr 1 (fun a0 => inside (F_bwt_Turner_Result lf d rec a0)) (fun l => evC lf (d + 1) 105 l.toArray)),
 (106, fun d rec => runAr 1 (fun a0 => inside (F_used_Symbols lf d rec a0)) (fun l => evC lf (d + 1) 106 l.toArray)),
 (107, fun d rec => runAr 2 (fun a0 a1 => inside (F_mtf_Encode lf d rec a0 a1)) (fun l => evC lf (d + 1) 107 l.toArray)),
 (108, fun d rec => runAr 2 (fun a0 a1 => inside (F_zeros_Encode lf d rec a0 a1)) (fun l => evC lf (d + 1) 108 l.toArray)),
 (109, fun d rec => runAr 2 (fun a0 a1 => inside (F_used_Write lf d rec a0 a1)) (fun l => evC lf (d + 1) 109 l.toArray)),
 (110, fun d rec => runAr 2 (fun a0 a1 => inside (F_bits_fits lf d rec a0 a1)) (fun l => evC lf (d + 1) 110 l.toArray)),
 (113, fun d rec => runAr 1 (fun a0 => inside (F_balerref21_Head lf d rec a0)) (fun l => evC lf (d + 1) 113 l.toArray)),
 (114, fun d rec => runAr 2 (fun a0 a1 => inside (F_balerref19_Of lf d rec a0 a1)) (fun l => evC lf (d + 1) 114 l.toArray)),
 (115, fun d rec => runAr 2 (fun a0 a1 => inside (F_balerref20_Write lf d rec a0 a1)) (fun l => evC lf (d + 1) 115 l.toArray)),
 (116, fun d rec => runAr 1 (fun a0 => inside (F_balerref19_Block_Sum lf d rec a0)) (fun l => evC lf (d + 1) 116 l.toArray)),
 (117, fun d rec => runAr 1 (fun a0 => inside (F_balerref01_Pack lf d rec a0)) (fun l => evC lf (d + 1) 117 l.toArray)),
 (118, fun d rec => runAr 1 (fun a0 => inside (F_balerref21_Tail lf d rec a0)) (fun l => evC lf (d + 1) 118 l.toArray)),
 (119, fun d rec => runAr 0 (inside (F_crc_New lf d rec)) (fun l => evC lf (d + 1) 119 l.toArray)),
 (120, fun d rec => runAr 0 (inside (F_feed_NewPacker lf d rec)) (fun l => evC lf (d + 1) 120 l.toArray)),
 (121, fun d rec => runAr 1 (fun a0 => inside (F_feed_Packer_Row lf d rec a0)) (fun l => evC lf (d + 1) 121 l.toArray)),
 (123, fun d rec => runAr 1 (fun a0 => inside (F_split_Splitter_End lf d rec a0)) (fun l => evC lf (d + 1) 123 l.toArray)),
 (124, fun d rec => runAr 1 (fun a0 => inside (F_press_Press_pay lf d rec a0)) (fun l => evC lf (d + 1) 124 l.toArray)),
 (125, fun d rec => runAr 1 (fun a0 => inside (F_press_Press_take lf d rec a0)) (fun l => evC lf (d + 1) 125 l.toArray)),
 (130, fun d rec => runAr 2 (fun a0 a1 => inside (F_freq_Counts lf d rec a0 a1)) (fun l => evC lf (d + 1) 130 l.toArray)),
 (131, fun d rec => runAr 1 (fun a0 => inside (F_freq_Groups lf d rec a0)) (fun l => evC lf (d + 1) 131 l.toArray)),
 (132, fun d rec => runAr 1 (fun a0 => inside (F_tables_groupsOf lf d rec a0)) (fun l => evC lf (d + 1) 132 l.toArray)),
 (133, fun d rec => runAr 2 (fun a0 a1 => inside (F_tables_first lf d rec a0 a1)) (fun l => evC lf (d + 1) 133 l.toArray)),
 (134, fun d rec => runAr 3 (fun a0 a1 a2 => inside (F_tables_round lf d rec a0 a1 a2)) (fun l => evC lf (d + 1) 134 l.toArray)),
 (135, fun d rec => runAr 1 (fun a0 => inside (F_picks_tabled lf d rec a0)) (fun l => evC lf (d + 1) 135 l.toArray)),
 (136, fun d rec => runAr 2 (fun a0 a1 => inside (F_slices_ContainsFunc_int_int lf d rec a0 a1)) (fun l => evC lf (d + 1) 136 l.toArray)),
 (137, fun d rec => runAr 2 (fun a0 a1 => inside (F_picks_may_1 lf d rec a0 a1)) (fun l => evC lf (d + 1) 137 l.toArray)),
 (138, fun d rec => runAr 2 (fun a0 a1 => inside (F_picks_order_find lf d rec a0 a1)) (fun l => evC lf (d + 1) 138 l.toArray)),
 (139, fun d rec => runAr 1 (fun a0 => inside (F_delta_may_1 lf d rec a0)) (fun l => evC lf (d + 1) 139 l.toArray)),
 (140, fun d rec => runAr 1 (fun a0 => inside (F_delta_length lf d rec a0)) (fun l => evC lf (d + 1) 140 l.toArray)),
 (141, fun d rec => runAr 1 (fun a0 => inside (F_lens_Share lf d rec a0)) (fun l => evC lf (d + 1) 141 l.toArray)),
 (142, fun d rec => runAr 2 (fun a0 a1 => inside (F_slices_Contains_int_int lf d rec a0 a1)) (fun l => evC lf (d + 1) 142 l.toArray)),
 (143, fun d rec => runAr 3 (fun a0 a1 a2 => inside (F_delta_Bits_1 lf d rec a0 a1 a2)) (fun l => evC lf (d + 1) 143 l.toArray)),
 (144, fun d rec => runAr 2 (fun a0 a1 => inside (F_freq_Group lf d rec a0 a1)) (fun l => evC lf (d + 1) 144 l.toArray)),
 (145, fun d rec => runAr 2 (fun a0 a1 => inside (F_freq_Cost lf d rec a0 a1)) (fun l => evC lf (d + 1) 145 l.toArray)),
 (147, fun d rec => runAr 1 (fun a0 => inside (F_sorter_New lf d rec a0)) (fun l => evC lf (d + 1) 147 l.toArray)),
 (148, fun d rec => runAr 2 (fun a0 a1 => inside (F_sorter_Sorter_Step lf d rec a0 a1)) (fun l => evC lf (d + 1) 148 l.toArray)),
 (149, fun d rec => runAr 1 (fun a0 => inside (F_sorter_Sorter_Done lf d rec a0)) (fun l => evC lf (d + 1) 149 l.toArray)),
 (150, fun d rec => runAr 1 (fun a0 => inside (F_sorter_Sorter_Order lf d rec a0)) (fun l => evC lf (d + 1) 150 l.toArray)),
 (151, fun d rec => runAr 1 (fun a0 => inside (F_bwt_Turner_take lf d rec a0)) (fun l => evC lf (d + 1) 151 l.toArray)),
 (152, fun d rec => runAr 1 (fun a0 => inside (F_used_listed lf d rec a0)) (fun l => evC lf (d + 1) 152 l.toArray)),
 (153, fun d rec => runAr 1 (fun a0 => inside (F_mtf_New lf d rec a0)) (fun l => evC lf (d + 1) 153 l.toArray)),
 (154, fun d rec => runAr 2 (fun a0 a1 => inside (F_mtf_List_Find lf d rec a0 a1)) (fun l => evC lf (d + 1) 154 l.toArray)),
 (155, fun d rec => runAr 1 (fun a0 => inside (F_zeros_may lf d rec a0)) (fun l => evC lf (d + 1) 155 l.toArray)),
 (156, fun d rec => runAr 1 (fun a0 => inside (F_zeros_row lf d rec a0)) (fun l => evC lf (d + 1) 156 l.toArray)),
 (157, fun d rec => runAr 1 (fun a0 => inside (F_used_Is lf d rec a0)) (fun l => evC lf (d + 1) 157 l.toArray)),
 (158, fun d rec => runAr 1 (fun a0 => inside (F_used_rows lf d rec a0)) (fun l => evC lf (d + 1) 158 l.toArray)),
 (159, fun d rec => runAr 1 (fun a0 => inside (F_balerref01_Bits lf d rec a0)) (fun l => evC lf (d + 1) 159 l.toArray)),
 (160, fun d rec => runAr 1 (fun a0 => inside (F_balerref03_Pieces lf d rec a0)) (fun l => evC lf (d + 1) 160 l.toArray)),
 (161, fun d rec => runAr 1 (fun a0 => inside (F_balerref03_Piece lf d rec a0)) (fun l => evC lf (d + 1) 161 l.toArray)),
 (162, fun d rec => runAr 1 (fun a0 => inside (F_balerref17_Of lf d rec a0)) (fun l => evC lf (d + 1) 162 l.toArray)),
 (163, fun d rec => runAr 1 (fun a0 => inside (F_balerref20_Bits lf d rec a0)) (fun l => evC lf (d + 1) 163 l.toArray)),
 (164, fun d rec => runAr 1 (fun a0 => inside (F_balerref02_Of lf d rec a0)) (fun l => evC lf (d + 1) 164 l.toArray)),
 (165, fun d rec => runAr 1 (fun a0 => inside (F_balerref01_Bytes lf d rec a0)) (fun l => evC lf (d + 1) 165 l.toArray)),
 (166, fun d rec => runAr 1 (fun a0 => inside (F_balerref01_Padded lf d rec a0)) (fun l => evC lf (d + 1) 166 l.toArray)),
 (167, fun d rec => runAr 2 (fun a0 a1 => inside (F_balerref01_Field lf d rec a0 a1)) (fun l => evC lf (d + 1) 167 l.toArray)),
 (168, fun d rec => runAr 1 (fun a0 => inside (F_balerref02_Stream lf d rec a0)) (fun l => evC lf (d + 1) 168 l.toArray)),
 (169, fun d rec => runAr 0 (inside (F_crc_Table lf d rec)) (fun l => evC lf (d + 1) 169 l.toArray)),
 (170, fun d rec => runAr 1 (fun a0 => inside (F_feed_Packer_End lf d rec a0)) (fun l => evC lf (d + 1) 170 l.toArray)),
 (171, fun d rec => runAr 3 (fun a0 a1 a2 => inside (F_split_Splitter_piece lf d rec a0 a1 a2)) (fun l => evC lf (d + 1) 171 l.toArray)),
 (172, fun d rec => runAr 1 (fun a0 => inside (F_split_begun_close lf d rec a0)) (fun l => evC lf (d + 1) 172 l.toArray)),
 (173, fun d rec => runAr 2 (fun a0 a1 => inside (F_split_Splitter_Put lf d rec a0 a1)) (fun l => evC lf (d + 1) 173 l.toArray)),
 (175, fun d rec => runAr 2 (fun a0 a1 => inside (F_picks_order_touch lf d rec a0 a1)) (fun l => evC lf (d + 1) 175 l.toArray)),
 (178, fun d rec => runAr 1 (fun a0 => inside (F_tables_Number lf d rec a0)) (fun l => evC lf (d + 1) 178 l.toArray)),
 (179, fun d rec => runAr 2 (fun a0 a1 => inside (F_tables_pick lf d rec a0 a1)) (fun l => evC lf (d + 1) 179 l.toArray)),
 (180, fun d rec => runAr 2 (fun a0 a1 => inside (F_freq_Add lf d rec a0 a1)) (fun l => evC lf (d + 1) 180 l.toArray)),
 (181, fun d rec => runAr 1 (fun a0 => inside (F_lens_Of lf d rec a0)) (fun l => evC lf (d + 1) 181 l.toArray)),
 (182, fun d rec => runAr 2 (fun a0 a1 => inside (F_slices_IndexFunc_int_int lf d rec a0 a1)) (fun l => evC lf (d + 1) 182 l.toArray)),
 (183, fun d rec => runAr 3 (fun a0 a1 a2 => inside (F_lens_between lf d rec a0 a1 a2)) (fun l => evC lf (d + 1) 183 l.toArray)),
 (184, fun d rec => runAr 3 (fun a0 a1 a2 => inside (F_freq_part_int lf d rec a0 a1 a2)) (fun l => evC lf (d + 1) 184 l.toArray)),
 (185, fun d rec => runAr 1 (fun a0 => inside (F_freq_all lf d rec a0)) (fun l => evC lf (d + 1) 185 l.toArray)),
 (186, fun d rec => runAr 2 (fun a0 a1 => inside (F_freq_together lf d rec a0 a1)) (fun l => evC lf (d + 1) 186 l.toArray)),
 (187, fun d rec => runAr 1 (fun a0 => inside (F_sorter_Sorter_step lf d rec a0)) (fun l => evC lf (d + 1) 187 l.toArray)),
 (188, fun d rec => runAr 2 (fun a0 a1 => inside (F_bwt_ahead lf d rec a0 a1)) (fun l => evC lf (d + 1) 188 l.toArray)),
 (190, fun d rec => runAr 2 (fun a0 a1 => inside (F_mtf_List_touch lf d rec a0 a1)) (fun l => evC lf (d + 1) 190 l.toArray)),
 (191, fun d rec => runAr 1 (fun a0 => inside (F_balerref03_row lf d rec a0)) (fun l => evC lf (d + 1) 191 l.toArray)),
 (192, fun d rec => runAr 2 (fun a0 a1 => inside (F_balerref17_From lf d rec a0 a1)) (fun l => evC lf (d + 1) 192 l.toArray)),
 (193, fun d rec => runAr 1 (fun a0 => inside (F_balerref15_Sorted lf d rec a0)) (fun l => evC lf (d + 1) 193 l.toArray)),
 (194, fun d rec => runAr 1 (fun a0 => inside (F_balerref05_Symbols lf d rec a0)) (fun l => evC lf (d + 1) 194 l.toArray)),
 (195, fun d rec => runAr 2 (fun a0 a1 => inside (F_balerref06_Encode lf d rec a0 a1)) (fun l => evC lf (d + 1) 195 l.toArray)),
 (196, fun d rec => runAr 2 (fun a0 a1 => inside (F_balerref07_Encode lf d rec a0 a1)) (fun l => evC lf (d + 1) 196 l.toArray)),
 (197, fun d rec => runAr 1 (fun a0 => inside (F_balerref05_Bits lf d rec a0)) (fun l => evC lf (d + 1) 197 l.toArray)),
 (198, fun d rec => runAr 2 (fun a0 a1 => inside (F_balerref14_Bits lf d rec a0 a1)) (fun l => evC lf (d + 1) 198 l.toArray)),
 (199, fun d rec => runAr 2 (fun a0 a1 => inside (F_balerref02_Step lf d rec a0 a1)) (fun l => evC lf (d + 1) 199 l.toArray)),
 (200, fun d rec => runAr 1 (fun a0 => inside (F_balerref01_Number lf d rec a0)) (fun l => evC lf (d + 1) 200 l.toArray)),
 (201, fun d rec => runAr 2 (fun a0 a1 => inside (F_balerref02_Combine lf d rec a0 a1)) (fun l => evC lf (d + 1) 201 l.toArray)),
 (202, fun d rec => runAr 1 (fun a0 => inside (F_feed_Packer_close lf d rec a0)) (fun l => evC lf (d + 1) 202 l.toArray)),
 (203, fun d rec => runAr 2 (fun a0 a1 => inside (F_split_begun_take lf d rec a0 a1)) (fun l => evC lf (d + 1) 203 l.toArray)),
 (204, fun d rec => runAr 1 (fun a0 => inside (F_crc_Sum_Value lf d rec a0)) (fun l => evC lf (d + 1) 204 l.toArray)),
 (205, fun d rec => runAr 1 (fun a0 => inside (F_crc_Sum_Reset lf d rec a0)) (fun l => evC lf (d + 1) 205 l.toArray)),
 (206, fun d rec => runAr 2 (fun a0 a1 => inside (F_feed_Packer_Put lf d rec a0 a1)) (fun l => evC lf (d + 1) 206 l.toArray)),
 (209, fun d rec => runAr 1 (fun a0 => inside (F_lens_depths lf d rec a0)) (fun l => evC lf (d + 1) 209 l.toArray)),
 (210, fun d rec => runAr 1 (fun a0 => inside (F_lens_Longest lf d rec a0)) (fun l => evC lf (d + 1) 210 l.toArray)),
 (211, fun d rec => runAr 1 (fun a0 => inside (F_lens_Halved lf d rec a0)) (fun l => evC lf (d + 1) 211 l.toArray)),
 (212, fun d rec => runAr 3 (fun a0 a1 a2 => inside (F_lens_between_1 lf d rec a0 a1 a2)) (fun l => evC lf (d + 1) 212 l.toArray)),
 (213, fun d rec => runAr 1 (fun a0 => inside (F_freq_all_1 lf d rec a0)) (fun l => evC lf (d + 1) 213 l.toArray)),
 (214, fun d rec => runAr 1 (fun a0 => inside (F_freq_may lf d rec a0)) (fun l => evC lf (d + 1) 214 l.toArray)),
 (215, fun d rec => runAr 1 (fun a0 => inside (F_sorter_Sorter_join lf d rec a0)) (fun l => evC lf (d + 1) 215 l.toArray)),
 (216, fun d rec => runAr 1 (fun a0 => inside (F_sorter_Sorter_lay lf d rec a0)) (fun l => evC lf (d + 1) 216 l.toArray)),
 (217, fun d rec => runAr 1 (fun a0 => inside (F_sorter_Sorter_put lf d rec a0)) (fun l => evC lf (d + 1) 217 l.toArray)),
 (218, fun d rec => runAr 1 (fun a0 => inside (F_sorter_Sorter_begin lf d rec a0)) (fun l => evC lf (d + 1) 218 l.toArray)),
 (219, fun d rec => runAr 1 (fun a0 => inside (F_sorter_Sorter_rank lf d rec a0)) (fun l => evC lf (d + 1) 219 l.toArray)),
 (221, fun d rec => runAr 2 (fun a0 a1 => inside (F_balerref15_Rotation lf d rec a0 a1)) (fun l => evC lf (d + 1) 221 l.toArray)),
 (222, fun d rec => runAr 3 (fun a0 a1 a2 => inside (F_balerref15_Ahead lf d rec a0 a1 a2)) (fun l => evC lf (d + 1) 222 l.toArray)),
 (223, fun d rec => runAr 2 (fun a0 a1 => inside (F_balerref05_There lf d rec a0 a1)) (fun l => evC lf (d + 1) 223 l.toArray)),
 (224, fun d rec => runAr 1 (fun a0 => inside (F_balerref05_Is lf d rec a0)) (fun l => evC lf (d + 1) 224 l.toArray)),
 (225, fun d rec => runAr 2 (fun a0 a1 => inside (F_balerref06_Place lf d rec a0 a1)) (fun l => evC lf (d + 1) 225 l.toArray)),
 (226, fun d rec => runAr 2 (fun a0 a1 => inside (F_balerref06_Touch lf d rec a0 a1)) (fun l => evC lf (d + 1) 226 l.toArray)),
 (227, fun d rec => runAr 1 (fun a0 => inside (F_balerref07_Row lf d rec a0)) (fun l => evC lf (d + 1) 227 l.toArray)),
 (228, fun d rec => runAr 2 (fun a0 a1 => inside (F_balerref12_Of lf d rec a0 a1)) (fun l => evC lf (d + 1) 228 l.toArray)),
 (229, fun d rec => runAr 2 (fun a0 a1 => inside (F_balerref13_Bits lf d rec a0 a1)) (fun l => evC lf (d + 1) 229 l.toArray)),
 (230, fun d rec => runAr 1 (fun a0 => inside (F_balerref11_Bits lf d rec a0)) (fun l => evC lf (d + 1) 230 l.toArray)),
 (231, fun d rec => runAr 1 (fun a0 => inside (F_balerref10_Codes lf d rec a0)) (fun l => evC lf (d + 1) 231 l.toArray)),
 (232, fun d rec => runAr 1 (fun a0 => inside (F_balerref02_Bits lf d rec a0)) (fun l => evC lf (d + 1) 232 l.toArray)),
 (233, fun d rec => runAr 1 (fun a0 => inside (F_rle_Piece lf d rec a0)) (fun l => evC lf (d + 1) 233 l.toArray)),
 (234, fun d rec => runAr 2 (fun a0 a1 => inside (F_crc_Sum_Put lf d rec a0 a1)) (fun l => evC lf (d + 1) 234 l.toArray)),
 (235, fun d rec => runAr 1 (fun a0 => inside (F_lens_treesOf lf d rec a0)) (fun l => evC lf (d + 1) 235 l.toArray)),
 (236, fun d rec => runAr 1 (fun a0 => inside (F_lens_trees_least lf d rec a0)) (fun l => evC lf (d + 1) 236 l.toArray)),
 (237, fun d rec => runAr 3 (fun a0 a1 a2 => inside (F_lens_trees_join lf d rec a0 a1 a2)) (fun l => evC lf (d + 1) 237 l.toArray)),
 (238, fun d rec => runAr 3 (fun a0 a1 a2 => inside (F_sorter_Sorter_above lf d rec a0 a1 a2)) (fun l => evC lf (d + 1) 238 l.toArray)),
 (239, fun d rec => runAr 1 (fun a0 => inside (F_sorter_Sorter_pass lf d rec a0)) (fun l => evC lf (d + 1) 239 l.toArray)),
 (240, fun d rec => runAr 2 (fun a0 a1 => inside (F_balerref12_First lf d rec a0 a1)) (fun l => evC lf (d + 1) 240 l.toArray)),
 (241, fun d rec => runAr 2 (fun a0 a1 => inside (F_balerref08_Counts lf d rec a0 a1)) (fun l => evC lf (d + 1) 241 l.toArray)),
 (242, fun d rec => runAr 1 (fun a0 => inside (F_balerref08_Groups lf d rec a0)) (fun l => evC lf (d + 1) 242 l.toArray)),
 (243, fun d rec => runAr 2 (fun a0 a1 => inside (F_balerref12_pick lf d rec a0 a1)) (fun l => evC lf (d + 1) 243 l.toArray)),
 (244, fun d rec => runAr 1 (fun a0 => inside (F_balerref09_Of lf d rec a0)) (fun l => evC lf (d + 1) 244 l.toArray)),
 (245, fun d rec => runAr 2 (fun a0 a1 => inside (F_balerref10_next lf d rec a0 a1)) (fun l => evC lf (d + 1) 245 l.toArray)),
 (246, fun d rec => runAr 1 (fun a0 => inside (F_rle_text lf d rec a0)) (fun l => evC lf (d + 1) 246 l.toArray)),
 (247, fun d rec => runAr 3 (fun a0 a1 a2 => inside (F_crc_step lf d rec a0 a1 a2)) (fun l => evC lf (d + 1) 247 l.toArray)),
 (248, fun d rec => runAr 2 (fun a0 a1 => inside (F_slices_SortStableFunc_int_int lf d rec a0 a1)) (fun l => evC lf (d + 1) 248 l.toArray)),
 (249, fun d rec => runAr 3 (fun a0 a1 a2 => inside (F_lens_treesOf_1 lf d rec a0 a1 a2)) (fun l => evC lf (d + 1) 249 l.toArray)),
 (250, fun d rec => runAr 2 (fun a0 a1 => inside (F_cmp_Compare_int lf d rec a0 a1)) (fun l => evC lf (d + 1) 250 l.toArray)),
 (251, fun d rec => runAr 2 (fun a0 a1 => inside (F_sorter_Sorter_key lf d rec a0 a1)) (fun l => evC lf (d + 1) 251 l.toArray)),
 (252, fun d rec => runAr 1 (fun a0 => inside (F_balerref12_Number lf d rec a0)) (fun l => evC lf (d + 1) 252 l.toArray)),
 (253, fun d rec => runAr 2 (fun a0 a1 => inside (F_balerref08_count lf d rec a0 a1)) (fun l => evC lf (d + 1) 253 l.toArray)),
 (254, fun d rec => runAr 2 (fun a0 a1 => inside (F_balerref08_Cost lf d rec a0 a1)) (fun l => evC lf (d + 1) 254 l.toArray)),
 (255, fun d rec => runAr 1 (fun a0 => inside (F_balerref09_Depths lf d rec a0)) (fun l => evC lf (d + 1) 255 l.toArray)),
 (256, fun d rec => runAr 3 (fun a0 a1 a2 => inside (F_balerref09_May lf d rec a0 a1 a2)) (fun l => evC lf (d + 1) 256 l.toArray)),
 (257, fun d rec => runAr 1 (fun a0 => inside (F_balerref09_Halved lf d rec a0)) (fun l => evC lf (d + 1) 257 l.toArray)),
 (259, fun d rec => runAr 3 (fun a0 a1 a2 => inside (F_slices_stableCmpFunc_int lf d rec a0 a1 a2)) (fun l => evC lf (d + 1) 259 l.toArray)),
 (260, fun d rec => runAr 1 (fun a0 => inside (F_cmp_isNaN_int lf d rec a0)) (fun l => evC lf (d + 1) 260 l.toArray)),
 (261, fun d rec => runAr 1 (fun a0 => inside (F_balerref08_most lf d rec a0)) (fun l => evC lf (d + 1) 261 l.toArray)),
 (262, fun d rec => runAr 1 (fun a0 => inside (F_balerref09_least lf d rec a0)) (fun l => evC lf (d + 1) 262 l.toArray)),
 (263, fun d rec => runAr 2 (fun a0 a1 => inside (F_balerref09_without lf d rec a0 a1)) (fun l => evC lf (d + 1) 263 l.toArray)),
 (270, fun d rec => runAr 4 (fun a0 a1 a2 a3 => inside (F_slices_insertionSortCmpFunc_int lf d rec a0 a1 a2 a3)) (fun l => evC lf (d + 1) 270 l.toArray)),
 (271, fun d rec => runAr 5 (fun a0 a1 a2 a3 a4 => inside (F_slices_symMergeCmpFunc_int lf d rec a0 a1 a2 a3 a4)) (fun l => evC lf (d + 1) 271 l.toArray)),
 (272, fun d rec => runAr 2 (fun a0 a1 => inside (F_balerref09_less lf d rec a0 a1)) (fun l => evC lf (d + 1) 272 l.toArray)),
 (275, fun d rec => runAr 2 (fun a0 a1 => inside (F_internal_stringslite_HasPrefix lf d rec a0 a1)) (fun l => evC lf (d + 1) 275 l.toArray)),
 (278, fun d rec => runAr 5 (fun a0 a1 a2 a3 a4 => inside (F_slices_rotateCmpFunc_int lf d rec a0 a1 a2 a3 a4)) (fun l => evC lf (d + 1) 278 l.toArray)),
 (281, fun d rec => runAr 5 (fun a0 a1 a2 a3 a4 => inside (F_slices_swapRangeCmpFunc_int lf d rec a0 a1 a2 a3 a4)) (fun l => evC lf (d + 1) 281 l.toArray))]
theorem fTab_ok (lf : Nat) : OkTab (evC lf) (fTab lf) :=
  ⟨fun d => runAr_eq _ _ _ (fun a0 a1 a2 => fsh_code_Write lf d a0 a1 a2),
  ⟨fun d => runAr_eq _ _ _ (fun a0 a1 a2 a3 => fsh_stream_Writer_Turned lf d a0 a1 a2 a3),
  ⟨fun d => runAr_eq _ _ _ (fun a0 => fsh_stream_Writer_End lf d a0),
  ⟨fun d => runAr_eq _ _ _ (fun a0 => fsh_stream_Writer_Take lf d a0),
  ⟨fun d => runAr_eq _ _ _ (fsh_balerlaw23_letter lf d),
  ⟨fun d => runAr_eq _ _ _ (fun a0 a1 a2 => fsh_press_New lf d a0 a1 a2),
  ⟨fun d => runAr_eq _ _ _ (fun a0 a1 => fsh_press_Press_Feed lf d a0 a1),
  ⟨fun d => runAr_eq _ _ _ (fun a0 => fsh_press_Press_Stopped lf d a0),
  ⟨fun d => runAr_eq _ _ _ (fun a0 => fsh_press_Press_End lf d a0),
  ⟨fun d => runAr_eq _ _ _ (fun a0 a1 => fsh_press_Press_Step lf d a0 a1),
  ⟨fun d => runAr_eq _ _ _ (fun a0 a1 => fsh_press_Press_Take lf d a0 a1),
  ⟨fun d => runAr_eq _ _ _ (fun a0 => fsh_press_Press_Done lf d a0),
  ⟨fun d => runAr_eq _ _ _ (fun a0 a1 => fsh_code_chosen lf d a0 a1),
  ⟨fun d => runAr_eq _ _ _ (fun a0 a1 a2 => fsh_picks_Write lf d a0 a1 a2),
  ⟨fun d => runAr_eq _ _ _ (fun a0 a1 => fsh_delta_Write lf d a0 a1),
  ⟨fun d => runAr_eq _ _ _ (fun a0 => fsh_canon_New lf d a0),
  ⟨fun d => runAr_eq _ _ _ (fun a0 a1 a2 => fsh_canon_Code_Put lf d a0 a1 a2),
  ⟨fun d => runAr_eq _ _ _ (fsh_bits_NewWriter lf d),
  ⟨fun d => runAr_eq _ _ _ (fun a0 a1 => fsh_code_Bits lf d a0 a1),
  ⟨fun d => runAr_eq _ _ _ (fun a0 => fsh_bits_Writer_Pad lf d a0),
  ⟨fun d => runAr_eq _ _ _ (fun a0 => fsh_bits_Writer_Take lf d a0),
  ⟨fun d => runAr_eq _ _ _ (fun a0 a1 => fsh_stream_Writer_magic lf d a0 a1),
  ⟨fun d => runAr_eq _ _ _ (fun a0 a1 => fsh_crc_Combine lf d a0 a1),
  ⟨fun d => runAr_eq _ _ _ (fun a0 a1 a2 a3 => fsh_block_Turned lf d a0 a1 a2 a3),
  ⟨fun d => runAr_eq _ _ _ (fun a0 a1 a2 => fsh_bits_Writer_Put lf d a0 a1 a2),
  ⟨fun d => runAr_eq _ _ _ (fun a0 a1 a2 => fsh_balerref21_With lf d a0 a1 a2),
  ⟨fun d => runAr_eq _ _ _ (fun a0 a1 => fsh_split_Room lf d a0 a1),
  ⟨fun d => runAr_eq _ _ _ (fun a0 => fsh_press_windowed lf d a0),
  ⟨fun d => runAr_eq _ _ _ (fun a0 => fsh_split_New lf d a0),
  ⟨fun d => runAr_eq _ _ _ (fun a0 => fsh_stream_New lf d a0),
  ⟨fun d => runAr_eq _ _ _ (fun a0 => fsh_press_Press_writes lf d a0),
  ⟨fun d => runAr_eq _ _ _ (fun a0 => fsh_press_Press_whole lf d a0),
  ⟨fun d => runAr_eq _ _ _ (fun a0 => fsh_press_Press_flush lf d a0),
  ⟨fun d => runAr_eq _ _ _ (fun a0 a1 => fsh_press_Press_work lf d a0 a1),
  ⟨fun d => runAr_eq _ _ _ (fun a0 => fsh_delta_sized lf d a0),
  ⟨fun d => runAr_eq _ _ _ (fsh_picks_fresh lf d),
  ⟨fun d => runAr_eq _ _ _ (fun a0 a1 => fsh_slices_Index_int_int lf d a0 a1),
  ⟨fun d => runAr_eq _ _ _ (fun a0 a1 => fsh_tables_Of lf d a0 a1),
  ⟨fun d => runAr_eq _ _ _ (fun a0 a1 => fsh_picks_may lf d a0 a1),
  ⟨fun d => runAr_eq _ _ _ (fun a0 => fsh_picks_places lf d a0),
  ⟨fun d => runAr_eq _ _ _ (fun a0 => fsh_delta_may lf d a0),
  ⟨fun d => runAr_eq _ _ _ (fun a0 a1 => fsh_delta_steps lf d a0 a1),
  ⟨fun d => runAr_eq _ _ _ (fun a0 a1 a2 => fsh_delta_Write_1 lf d a0 a1 a2),
  ⟨fun d => runAr_eq _ _ _ (fun a0 => fsh_canon_whole lf d a0),
  ⟨fun d => runAr_eq _ _ _ (fun a0 => fsh_slices_Clone_int_int lf d a0),
  ⟨fun d => runAr_eq _ _ _ (fun a0 a1 => fsh_canon_Code_Of lf d a0 a1),
  ⟨fun d => runAr_eq _ _ _ (fun a0 a1 => fsh_picks_Bits lf d a0 a1),
  ⟨fun d => runAr_eq _ _ _ (fun a0 => fsh_delta_Bits lf d a0),
  ⟨fun d => runAr_eq _ _ _ (fun a0 a1 => fsh_tables_Cost lf d a0 a1),
  ⟨fun d => runAr_eq _ _ _ (fun a0 a1 => fsh_bits_Writer_bit lf d a0 a1),
  ⟨fun d => runAr_eq _ _ _ (fun a0 => fsh_bwt_New lf d a0),
  ⟨fun d => runAr_eq _ _ _ (fun a0 => fsh_bwt_Turner_Done lf d a0),
  ⟨fun d => runAr_eq _ _ _ (fun a0 a1 => fsh_bwt_Turner_Step lf d a0 a1),
  ⟨fun d => runAr_eq _ _ _ (fun a0 => fsh_bwt_Turner_Result lf d a0),
  ⟨fun d => runAr_eq _ _ _ (fun a0 => fsh_used_Symbols lf d a0),
  ⟨fun d => runAr_eq _ _ _ (fun a0 a1 => fsh_mtf_Encode lf d a0 a1),
  ⟨fun d => runAr_eq _ _ _ (fun a0 a1 => fsh_zeros_Encode lf d a0 a1),
  ⟨fun d => runAr_eq _ _ _ (fun a0 a1 => fsh_used_Write lf d a0 a1),
  ⟨fun d => runAr_eq _ _ _ (fun a0 a1 => fsh_bits_fits lf d a0 a1),
  ⟨fun d => runAr_eq _ _ _ (fun a0 => fsh_balerref21_Head lf d a0),
  ⟨fun d => runAr_eq _ _ _ (fun a0 a1 => fsh_balerref19_Of lf d a0 a1),
  ⟨fun d => runAr_eq _ _ _ (fun a0 a1 => fsh_balerref20_Write lf d a0 a1),
  ⟨fun d => runAr_eq _ _ _ (fun a0 => fsh_balerref19_Block_Sum lf d a0),
  ⟨fun d => runAr_eq _ _ _ (fun a0 => fsh_balerref01_Pack lf d a0),
  ⟨fun d => runAr_eq _ _ _ (fun a0 => fsh_balerref21_Tail lf d a0),
  ⟨fun d => runAr_eq _ _ _ (fsh_crc_New lf d),
  ⟨fun d => runAr_eq _ _ _ (fsh_feed_NewPacker lf d),
  ⟨fun d => runAr_eq _ _ _ (fun a0 => fsh_feed_Packer_Row lf d a0),
  ⟨fun d => runAr_eq _ _ _ (fun a0 => fsh_split_Splitter_End lf d a0),
  ⟨fun d => runAr_eq _ _ _ (fun a0 => fsh_press_Press_pay lf d a0),
  ⟨fun d => runAr_eq _ _ _ (fun a0 => fsh_press_Press_take lf d a0),
  ⟨fun d => runAr_eq _ _ _ (fun a0 a1 => fsh_freq_Counts lf d a0 a1),
  ⟨fun d => runAr_eq _ _ _ (fun a0 => fsh_freq_Groups lf d a0),
  ⟨fun d => runAr_eq _ _ _ (fun a0 => fsh_tables_groupsOf lf d a0),
  ⟨fun d => runAr_eq _ _ _ (fun a0 a1 => fsh_tables_first lf d a0 a1),
  ⟨fun d => runAr_eq _ _ _ (fun a0 a1 a2 => fsh_tables_round lf d a0 a1 a2),
  ⟨fun d => runAr_eq _ _ _ (fun a0 => fsh_picks_tabled lf d a0),
  ⟨fun d => runAr_eq _ _ _ (fun a0 a1 => fsh_slices_ContainsFunc_int_int lf d a0 a1),
  ⟨fun d => runAr_eq _ _ _ (fun a0 a1 => fsh_picks_may_1 lf d a0 a1),
  ⟨fun d => runAr_eq _ _ _ (fun a0 a1 => fsh_picks_order_find lf d a0 a1),
  ⟨fun d => runAr_eq _ _ _ (fun a0 => fsh_delta_may_1 lf d a0),
  ⟨fun d => runAr_eq _ _ _ (fun a0 => fsh_delta_length lf d a0),
  ⟨fun d => runAr_eq _ _ _ (fun a0 => fsh_lens_Share lf d a0),
  ⟨fun d => runAr_eq _ _ _ (fun a0 a1 => fsh_slices_Contains_int_int lf d a0 a1),
  ⟨fun d => runAr_eq _ _ _ (fun a0 a1 a2 => fsh_delta_Bits_1 lf d a0 a1 a2),
  ⟨fun d => runAr_eq _ _ _ (fun a0 a1 => fsh_freq_Group lf d a0 a1),
  ⟨fun d => runAr_eq _ _ _ (fun a0 a1 => fsh_freq_Cost lf d a0 a1),
  ⟨fun d => runAr_eq _ _ _ (fun a0 => fsh_sorter_New lf d a0),
  ⟨fun d => runAr_eq _ _ _ (fun a0 a1 => fsh_sorter_Sorter_Step lf d a0 a1),
  ⟨fun d => runAr_eq _ _ _ (fun a0 => fsh_sorter_Sorter_Done lf d a0),
  ⟨fun d => runAr_eq _ _ _ (fun a0 => fsh_sorter_Sorter_Order lf d a0),
  ⟨fun d => runAr_eq _ _ _ (fun a0 => fsh_bwt_Turner_take lf d a0),
  ⟨fun d => runAr_eq _ _ _ (fun a0 => fsh_used_listed lf d a0),
  ⟨fun d => runAr_eq _ _ _ (fun a0 => fsh_mtf_New lf d a0),
  ⟨fun d => runAr_eq _ _ _ (fun a0 a1 => fsh_mtf_List_Find lf d a0 a1),
  ⟨fun d => runAr_eq _ _ _ (fun a0 => fsh_zeros_may lf d a0),
  ⟨fun d => runAr_eq _ _ _ (fun a0 => fsh_zeros_row lf d a0),
  ⟨fun d => runAr_eq _ _ _ (fun a0 => fsh_used_Is lf d a0),
  ⟨fun d => runAr_eq _ _ _ (fun a0 => fsh_used_rows lf d a0),
  ⟨fun d => runAr_eq _ _ _ (fun a0 => fsh_balerref01_Bits lf d a0),
  ⟨fun d => runAr_eq _ _ _ (fun a0 => fsh_balerref03_Pieces lf d a0),
  ⟨fun d => runAr_eq _ _ _ (fun a0 => fsh_balerref03_Piece lf d a0),
  ⟨fun d => runAr_eq _ _ _ (fun a0 => fsh_balerref17_Of lf d a0),
  ⟨fun d => runAr_eq _ _ _ (fun a0 => fsh_balerref20_Bits lf d a0),
  ⟨fun d => runAr_eq _ _ _ (fun a0 => fsh_balerref02_Of lf d a0),
  ⟨fun d => runAr_eq _ _ _ (fun a0 => fsh_balerref01_Bytes lf d a0),
  ⟨fun d => runAr_eq _ _ _ (fun a0 => fsh_balerref01_Padded lf d a0),
  ⟨fun d => runAr_eq _ _ _ (fun a0 a1 => fsh_balerref01_Field lf d a0 a1),
  ⟨fun d => runAr_eq _ _ _ (fun a0 => fsh_balerref02_Stream lf d a0),
  ⟨fun d => runAr_eq _ _ _ (fsh_crc_Table lf d),
  ⟨fun d => runAr_eq _ _ _ (fun a0 => fsh_feed_Packer_End lf d a0),
  ⟨fun d => runAr_eq _ _ _ (fun a0 a1 a2 => fsh_split_Splitter_piece lf d a0 a1 a2),
  ⟨fun d => runAr_eq _ _ _ (fun a0 => fsh_split_begun_close lf d a0),
  ⟨fun d => runAr_eq _ _ _ (fun a0 a1 => fsh_split_Splitter_Put lf d a0 a1),
  ⟨fun d => runAr_eq _ _ _ (fun a0 a1 => fsh_picks_order_touch lf d a0 a1),
  ⟨fun d => runAr_eq _ _ _ (fun a0 => fsh_tables_Number lf d a0),
  ⟨fun d => runAr_eq _ _ _ (fun a0 a1 => fsh_tables_pick lf d a0 a1),
  ⟨fun d => runAr_eq _ _ _ (fun a0 a1 => fsh_freq_Add lf d a0 a1),
  ⟨fun d => runAr_eq _ _ _ (fun a0 => fsh_lens_Of lf d a0),
  ⟨fun d => runAr_eq _ _ _ (fun a0 a1 => fsh_slices_IndexFunc_int_int lf d a0 a1),
  ⟨fun d => runAr_eq _ _ _ (fun a0 a1 a2 => fsh_lens_between lf d a0 a1 a2),
  ⟨fun d => runAr_eq _ _ _ (fun a0 a1 a2 => fsh_freq_part_int lf d a0 a1 a2),
  ⟨fun d => runAr_eq _ _ _ (fun a0 => fsh_freq_all lf d a0),
  ⟨fun d => runAr_eq _ _ _ (fun a0 a1 => fsh_freq_together lf d a0 a1),
  ⟨fun d => runAr_eq _ _ _ (fun a0 => fsh_sorter_Sorter_step lf d a0),
  ⟨fun d => runAr_eq _ _ _ (fun a0 a1 => fsh_bwt_ahead lf d a0 a1),
  ⟨fun d => runAr_eq _ _ _ (fun a0 a1 => fsh_mtf_List_touch lf d a0 a1),
  ⟨fun d => runAr_eq _ _ _ (fun a0 => fsh_balerref03_row lf d a0),
  ⟨fun d => runAr_eq _ _ _ (fun a0 a1 => fsh_balerref17_From lf d a0 a1),
  ⟨fun d => runAr_eq _ _ _ (fun a0 => fsh_balerref15_Sorted lf d a0),
  ⟨fun d => runAr_eq _ _ _ (fun a0 => fsh_balerref05_Symbols lf d a0),
  ⟨fun d => runAr_eq _ _ _ (fun a0 a1 => fsh_balerref06_Encode lf d a0 a1),
  ⟨fun d => runAr_eq _ _ _ (fun a0 a1 => fsh_balerref07_Encode lf d a0 a1),
  ⟨fun d => runAr_eq _ _ _ (fun a0 => fsh_balerref05_Bits lf d a0),
  ⟨fun d => runAr_eq _ _ _ (fun a0 a1 => fsh_balerref14_Bits lf d a0 a1),
  ⟨fun d => runAr_eq _ _ _ (fun a0 a1 => fsh_balerref02_Step lf d a0 a1),
  ⟨fun d => runAr_eq _ _ _ (fun a0 => fsh_balerref01_Number lf d a0),
  ⟨fun d => runAr_eq _ _ _ (fun a0 a1 => fsh_balerref02_Combine lf d a0 a1),
  ⟨fun d => runAr_eq _ _ _ (fun a0 => fsh_feed_Packer_close lf d a0),
  ⟨fun d => runAr_eq _ _ _ (fun a0 a1 => fsh_split_begun_take lf d a0 a1),
  ⟨fun d => runAr_eq _ _ _ (fun a0 => fsh_crc_Sum_Value lf d a0),
  ⟨fun d => runAr_eq _ _ _ (fun a0 => fsh_crc_Sum_Reset lf d a0),
  ⟨fun d => runAr_eq _ _ _ (fun a0 a1 => fsh_feed_Packer_Put lf d a0 a1),
  ⟨fun d => runAr_eq _ _ _ (fun a0 => fsh_lens_depths lf d a0),
  ⟨fun d => runAr_eq _ _ _ (fun a0 => fsh_lens_Longest lf d a0),
  ⟨fun d => runAr_eq _ _ _ (fun a0 => fsh_lens_Halved lf d a0),
  ⟨fun d => runAr_eq _ _ _ (fun a0 a1 a2 => fsh_lens_between_1 lf d a0 a1 a2),
  ⟨fun d => runAr_eq _ _ _ (fun a0 => fsh_freq_all_1 lf d a0),
  ⟨fun d => runAr_eq _ _ _ (fun a0 => fsh_freq_may lf d a0),
  ⟨fun d => runAr_eq _ _ _ (fun a0 => fsh_sorter_Sorter_join lf d a0),
  ⟨fun d => runAr_eq _ _ _ (fun a0 => fsh_sorter_Sorter_lay lf d a0),
  ⟨fun d => runAr_eq _ _ _ (fun a0 => fsh_sorter_Sorter_put lf d a0),
  ⟨fun d => runAr_eq _ _ _ (fun a0 => fsh_sorter_Sorter_begin lf d a0),
  ⟨fun d => runAr_eq _ _ _ (fun a0 => fsh_sorter_Sorter_rank lf d a0),
  ⟨fun d => runAr_eq _ _ _ (fun a0 a1 => fsh_balerref15_Rotation lf d a0 a1),
  ⟨fun d => runAr_eq _ _ _ (fun a0 a1 a2 => fsh_balerref15_Ahead lf d a0 a1 a2),
  ⟨fun d => runAr_eq _ _ _ (fun a0 a1 => fsh_balerref05_There lf d a0 a1),
  ⟨fun d => runAr_eq _ _ _ (fun a0 => fsh_balerref05_Is lf d a0),
  ⟨fun d => runAr_eq _ _ _ (fun a0 a1 => fsh_balerref06_Place lf d a0 a1),
  ⟨fun d => runAr_eq _ _ _ (fun a0 a1 => fsh_balerref06_Touch lf d a0 a1),
  ⟨fun d => runAr_eq _ _ _ (fun a0 => fsh_balerref07_Row lf d a0),
  ⟨fun d => runAr_eq _ _ _ (fun a0 a1 => fsh_balerref12_Of lf d a0 a1),
  ⟨fun d => runAr_eq _ _ _ (fun a0 a1 => fsh_balerref13_Bits lf d a0 a1),
  ⟨fun d => runAr_eq _ _ _ (fun a0 => fsh_balerref11_Bits lf d a0),
  ⟨fun d => runAr_eq _ _ _ (fun a0 => fsh_balerref10_Codes lf d a0),
  ⟨fun d => runAr_eq _ _ _ (fun a0 => fsh_balerref02_Bits lf d a0),
  ⟨fun d => runAr_eq _ _ _ (fun a0 => fsh_rle_Piece lf d a0),
  ⟨fun d => runAr_eq _ _ _ (fun a0 a1 => fsh_crc_Sum_Put lf d a0 a1),
  ⟨fun d => runAr_eq _ _ _ (fun a0 => fsh_lens_treesOf lf d a0),
  ⟨fun d => runAr_eq _ _ _ (fun a0 => fsh_lens_trees_least lf d a0),
  ⟨fun d => runAr_eq _ _ _ (fun a0 a1 a2 => fsh_lens_trees_join lf d a0 a1 a2),
  ⟨fun d => runAr_eq _ _ _ (fun a0 a1 a2 => fsh_sorter_Sorter_above lf d a0 a1 a2),
  ⟨fun d => runAr_eq _ _ _ (fun a0 => fsh_sorter_Sorter_pass lf d a0),
  ⟨fun d => runAr_eq _ _ _ (fun a0 a1 => fsh_balerref12_First lf d a0 a1),
  ⟨fun d => runAr_eq _ _ _ (fun a0 a1 => fsh_balerref08_Counts lf d a0 a1),
  ⟨fun d => runAr_eq _ _ _ (fun a0 => fsh_balerref08_Groups lf d a0),
  ⟨fun d => runAr_eq _ _ _ (fun a0 a1 => fsh_balerref12_pick lf d a0 a1),
  ⟨fun d => runAr_eq _ _ _ (fun a0 => fsh_balerref09_Of lf d a0),
  ⟨fun d => runAr_eq _ _ _ (fun a0 a1 => fsh_balerref10_next lf d a0 a1),
  ⟨fun d => runAr_eq _ _ _ (fun a0 => fsh_rle_text lf d a0),
  ⟨fun d => runAr_eq _ _ _ (fun a0 a1 a2 => fsh_crc_step lf d a0 a1 a2),
  ⟨fun d => runAr_eq _ _ _ (fun a0 a1 => fsh_slices_SortStableFunc_int_int lf d a0 a1),
  ⟨fun d => runAr_eq _ _ _ (fun a0 a1 a2 => fsh_lens_treesOf_1 lf d a0 a1 a2),
  ⟨fun d => runAr_eq _ _ _ (fun a0 a1 => fsh_cmp_Compare_int lf d a0 a1),
  ⟨fun d => runAr_eq _ _ _ (fun a0 a1 => fsh_sorter_Sorter_key lf d a0 a1),
  ⟨fun d => runAr_eq _ _ _ (fun a0 => fsh_balerref12_Number lf d a0),
  ⟨fun d => runAr_eq _ _ _ (fun a0 a1 => fsh_balerref08_count lf d a0 a1),
  ⟨fun d => runAr_eq _ _ _ (fun a0 a1 => fsh_balerref08_Cost lf d a0 a1),
  ⟨fun d => runAr_eq _ _ _ (fun a0 => fsh_balerref09_Depths lf d a0),
  ⟨fun d => runAr_eq _ _ _ (fun a0 a1 a2 => fsh_balerref09_May lf d a0 a1 a2),
  ⟨fun d => runAr_eq _ _ _ (fun a0 => fsh_balerref09_Halved lf d a0),
  ⟨fun d => runAr_eq _ _ _ (fun a0 a1 a2 => fsh_slices_stableCmpFunc_int lf d a0 a1 a2),
  ⟨fun d => runAr_eq _ _ _ (fun a0 => fsh_cmp_isNaN_int lf d a0),
  ⟨fun d => runAr_eq _ _ _ (fun a0 => fsh_balerref08_most lf d a0),
  ⟨fun d => runAr_eq _ _ _ (fun a0 => fsh_balerref09_least lf d a0),
  ⟨fun d => runAr_eq _ _ _ (fun a0 a1 => fsh_balerref09_without lf d a0 a1),
  ⟨fun d => runAr_eq _ _ _ (fun a0 a1 a2 a3 => fsh_slices_insertionSortCmpFunc_int lf d a0 a1 a2 a3),
  ⟨fun d => runAr_eq _ _ _ (fun a0 a1 a2 a3 a4 => fsh_slices_symMergeCmpFunc_int lf d a0 a1 a2 a3 a4),
  ⟨fun d => runAr_eq _ _ _ (fun a0 a1 => fsh_balerref09_less lf d a0 a1),
  ⟨fun d => runAr_eq _ _ _ (fun a0 a1 => fsh_internal_stringslite_HasPrefix lf d a0 a1),
  ⟨fun d => runAr_eq _ _ _ (fun a0 a1 a2 a3 a4 => fsh_slices_rotateCmpFunc_int lf d a0 a1 a2 a3 a4),
  ⟨fun d => runAr_eq _ _ _ (fun a0 a1 a2 a3 a4 => fsh_slices_swapRangeCmpFunc_int lf d a0 a1 a2 a3 a4), trivial⟩⟩⟩⟩⟩⟩⟩⟩⟩⟩⟩⟩⟩⟩⟩⟩⟩⟩⟩⟩⟩⟩⟩⟩⟩⟩⟩⟩⟩⟩⟩⟩⟩⟩⟩⟩⟩⟩⟩⟩⟩⟩⟩⟩⟩⟩⟩⟩⟩⟩⟩⟩⟩⟩⟩⟩⟩⟩⟩⟩⟩⟩⟩⟩⟩⟩⟩⟩⟩⟩⟩⟩⟩⟩⟩⟩⟩⟩⟩⟩⟩⟩⟩⟩⟩⟩⟩⟩⟩⟩⟩⟩⟩⟩⟩⟩⟩⟩⟩⟩⟩⟩⟩⟩⟩⟩⟩⟩⟩⟩⟩⟩⟩⟩⟩⟩⟩⟩⟩⟩⟩⟩⟩⟩⟩⟩⟩⟩⟩⟩⟩⟩⟩⟩⟩⟩⟩⟩⟩⟩⟩⟩⟩⟩⟩⟩⟩⟩⟩⟩⟩⟩⟩⟩⟩⟩⟩⟩⟩⟩⟩⟩⟩⟩⟩⟩⟩⟩⟩⟩⟩⟩⟩⟩⟩⟩⟩⟩⟩⟩⟩⟩⟩⟩⟩⟩⟩⟩⟩⟩⟩⟩⟩⟩⟩⟩⟩⟩⟩⟩⟩⟩
noncomputable def fast (lf : Nat) : Nat → RT := fastT (evC lf) (fTab lf)
theorem fast_eq (lf d : Nat) : fast lf d = evC lf d := fastT_eq (fTab_ok lf) d

end Go.Proofs.YthhhkplbjcknkaaGreatDoor.Fa

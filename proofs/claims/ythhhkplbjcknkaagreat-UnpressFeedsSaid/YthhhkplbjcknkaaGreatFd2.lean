/- The functions that layers 24's and 25's closed tests reach, as the kernel runs them quickly. -/
import Derived.Test.YthhhkplbjcknkaaGreatFd1
namespace Go.Proofs.YthhhkplbjcknkaaGreat.Fa
set_option linter.unusedVariables false
set_option linter.unusedSimpArgs false
open Go Go.RowKit Ev

/- balerref12_Of -/
noncomputable def lpA_balerref12_Of (lf d fu : Nat) (k : Ex → Fr → M Value) (x0 : Value) (x1 : Value) (x4 : Value) (x5 : Value) (x6 : Value) (x24 : Value) : M Value := loopK (fun s1 k1 => codeK Tryz.prog (evC lf d) (gtA 124) lf (codeAt (bodyOf Tryz.prog 124) [true, true, true, false, true, false, false]) s1 k1) [0, 1, 4, 5, 6, 24] fu [(0, x0), (1, x1), (4, x4), (5, x5), (6, x6), (24, x24)] k
noncomputable def kcA_balerref12_Of (lf d : Nat) : Ex → Fr → M Value := contAt Tryz.prog (evC lf d) (gtA 124) lf (bodyOf Tryz.prog 124) [true, true, true, false, true, false] (endK Tryz.prog (resOf Tryz.prog 124))
noncomputable def lpB_balerref12_Of (lf d fu : Nat) (k : Ex → Fr → M Value) (x0 : Value) (x1 : Value) (x4 : Value) (x5 : Value) (x6 : Value) (x7 : Value) (x24 : Value) (x25 : Value) (x26 : Value) (x27 : Value) (x28 : Value) : M Value := loopK (fun s1 k1 => codeK Tryz.prog (evC lf d) (gtA 124) lf (codeAt (bodyOf Tryz.prog 124) [true, true, true, false, true, false, false, true, true, false, false, true, false, true, false, false]) s1 k1) [0, 1, 4, 5, 6, 7, 24, 25, 26, 27, 28] fu [(0, x0), (1, x1), (4, x4), (5, x5), (6, x6), (7, x7), (24, x24), (25, x25), (26, x26), (27, x27), (28, x28)] k
noncomputable def kcB_balerref12_Of (lf d fu : Nat) (k : Ex → Fr → M Value) : Ex → Fr → M Value := contAt Tryz.prog (evC lf d) (gtA 124) lf (codeAt (bodyOf Tryz.prog 124) [true, true, true, false, true, false, false]) [true, true, false, false, true, false, true, false] (againK (fun s1 => loopK (fun s1 k1 => codeK Tryz.prog (evC lf d) (gtA 124) lf (codeAt (bodyOf Tryz.prog 124) [true, true, true, false, true, false, false]) s1 k1) [0, 1, 4, 5, 6, 24] fu (s1.keep [0, 1, 4, 5, 6, 24]) k) k)
noncomputable def lpC_balerref12_Of (lf d fu : Nat) (k : Ex → Fr → M Value) (x0 : Value) (x1 : Value) (x4 : Value) (x5 : Value) (x6 : Value) (x7 : Value) (x10 : Value) (x24 : Value) (x25 : Value) (x26 : Value) (x27 : Value) (x28 : Value) (x29 : Value) (x42 : Value) (x43 : Value) : M Value := loopK (fun s1 k1 => codeK Tryz.prog (evC lf d) (gtA 124) lf (codeAt (bodyOf Tryz.prog 124) [true, true, true, false, true, false, false, true, true, false, false, true, true, true, false, true, false, false]) s1 k1) [0, 1, 4, 5, 6, 7, 10, 24, 25, 26, 27, 28, 29, 42, 43] fu [(0, x0), (1, x1), (4, x4), (5, x5), (6, x6), (7, x7), (10, x10), (24, x24), (25, x25), (26, x26), (27, x27), (28, x28), (29, x29), (42, x42), (43, x43)] k
noncomputable def kcC_balerref12_Of (lf d fu : Nat) (k : Ex → Fr → M Value) : Ex → Fr → M Value := contAt Tryz.prog (evC lf d) (gtA 124) lf (codeAt (bodyOf Tryz.prog 124) [true, true, true, false, true, false, false]) [true, true, false, false, true, true, true, false, true, false] (againK (fun s1 => loopK (fun s1 k1 => codeK Tryz.prog (evC lf d) (gtA 124) lf (codeAt (bodyOf Tryz.prog 124) [true, true, true, false, true, false, false]) s1 k1) [0, 1, 4, 5, 6, 24] fu (s1.keep [0, 1, 4, 5, 6, 24]) k) k)
noncomputable def lpD_balerref12_Of (lf d fu : Nat) (k : Ex → Fr → M Value) (x0 : Value) (x1 : Value) (x4 : Value) (x5 : Value) (x6 : Value) (x7 : Value) (x10 : Value) (x11 : Value) (x12 : Value) (x24 : Value) (x25 : Value) (x26 : Value) (x27 : Value) (x28 : Value) (x29 : Value) (x42 : Value) (x43 : Value) (x44 : Value) (x46 : Value) (x47 : Value) (x48 : Value) : M Value := loopK (fun s1 k1 => codeK Tryz.prog (evC lf d) (gtA 124) lf (codeAt (bodyOf Tryz.prog 124) [true, true, true, false, true, false, false, true, true, false, false, true, true, true, false, true, false, false, true, true, false, false, true, true, false, true, false, false]) s1 k1) [0, 1, 4, 5, 6, 7, 10, 11, 12, 24, 25, 26, 27, 28, 29, 42, 43, 44, 46, 47, 48] fu [(0, x0), (1, x1), (4, x4), (5, x5), (6, x6), (7, x7), (10, x10), (11, x11), (12, x12), (24, x24), (25, x25), (26, x26), (27, x27), (28, x28), (29, x29), (42, x42), (43, x43), (44, x44), (46, x46), (47, x47), (48, x48)] k
noncomputable def kcD_balerref12_Of (lf d fu : Nat) (k : Ex → Fr → M Value) : Ex → Fr → M Value := contAt Tryz.prog (evC lf d) (gtA 124) lf (codeAt (bodyOf Tryz.prog 124) [true, true, true, false, true, false, false, true, true, false, false, true, true, true, false, true, false, false]) [true, true, false, false, true, true, false, true, false] (againK (fun s1 => loopK (fun s1 k1 => codeK Tryz.prog (evC lf d) (gtA 124) lf (codeAt (bodyOf Tryz.prog 124) [true, true, true, false, true, false, false, true, true, false, false, true, true, true, false, true, false, false]) s1 k1) [0, 1, 4, 5, 6, 7, 10, 24, 25, 26, 27, 28, 29, 42, 43] fu (s1.keep [0, 1, 4, 5, 6, 7, 10, 24, 25, 26, 27, 28, 29, 42, 43]) k) k)
noncomputable def KA_balerref12_Of (lf d : Nat) (rec : FuncId → Array Value → M Value) (dflt : Ex → Fr → M Value) : Ex → Fr → M Value := (kEx 0 (runCur [0, 1, 4, 5, 6, 24, 25] (fun y0 y1 y4 y5 y6 y24 y25 =>
 insB (evLoadA3 Tryz.prog 160 2 y5) fun v75n11 =>
 insB (evStoreA3 Tryz.prog 160 2 y4 v75n11) fun u12 =>
 (evLoad Tryz.prog 160 y4).bind fun vrn13 =>
 outK [vrn13]) (dflt (Ex.exit 0))) dflt)
noncomputable def LB_balerref12_Of (lf d : Nat) (rec : FuncId → Array Value → M Value) (k : Ex → Fr → M Value) : Nat → Value → Value → Value → Value → Value → Value → Value → Value → Value → Value → Value → M Value
 | 0, _, _, _, _, _, _, _, _, _, _, _ => M.fail
 | fu + 1, x0, x1, x4, x5, x6, x7, x24, x25, x26, x27, x28 =>
 optK (q_lss Tryz.prog 3 x28 x27) fun v29n14 =>
 ifV v29n14 (
 optK (evIA3 Tryz.prog 158 1 x26 x28) fun v30n15 =>
 insB (evLoad3 Tryz.prog 91 v30n15) fun v31n16 =>
 optK (evFA3 Tryz.prog 160 0 x5 0) fun v34n17 =>
 insB (evLoad3 Tryz.prog 158 v34n17) fun v35n18 =>
 (inside (rec 148 #[v31n16, v35n18])).bind fun v36n19 =>
 insB (evBS3 Tryz.prog 91 1 [(0, v36n19)]) fun v37n20 =>
 insB (evAppend3 Tryz.prog 91 x7 v37n20) fun v38n21 =>
 optK (q_add Tryz.prog 3 x28 (Value.int .i64 1)) fun v39n22 =>
 LB_balerref12_Of lf d rec k fu x0 x1 x4 x5 x6 v38n21 x24 x25 x26 x27 v39n22) (
 k (Ex.exit 2) [(0, x0), (1, x1), (4, x4), (5, x5), (6, x6), (7, x7), (24, x24), (25, x25), (26, x26), (27, x27), (28, x28), (29, v29n14)])
noncomputable def KC_balerref12_Of (lf d : Nat) (rec : FuncId → Array Value → M Value) (fu : Nat) (k : Ex → Fr → M Value) (again : Value → Value → Value → Value → Value → Value → M Value) (dflt : Ex → Fr → M Value) : Ex → Fr → M Value := (kEx 4 (runCur [0, 1, 4, 5, 6, 7, 10, 24, 25, 26, 27, 28, 29, 42, 43, 44] (fun y0 y1 y4 y5 y6 y7 y10 y24 y25 y26 y27 y28 y29 y42 y43 y44 =>
 insB (evBuildZ Tryz.prog 160 [Value.slice none 0 0, Value.slice none 0 0] [(0, y10), (1, y7)]) fun v73n28 =>
 insB (evStoreA3 Tryz.prog 160 2 y5 v73n28) fun u29 =>
 optK (q_add Tryz.prog 3 y24 (Value.int .i64 1)) fun v74n30 =>
 again y0 y1 y4 y5 y6 v74n30) (dflt (Ex.exit 4))) dflt)
noncomputable def LD_balerref12_Of (lf d : Nat) (rec : FuncId → Array Value → M Value) (k : Ex → Fr → M Value) : Nat → Value → Value → Value → Value → Value → Value → Value → Value → Value → Value → Value → Value → Value → Value → Value → Value → Value → Value → Value → Value → Value → M Value
 | 0, _, _, _, _, _, _, _, _, _, _, _, _, _, _, _, _, _, _, _, _, _ => M.fail
 | fu + 1, x0, x1, x4, x5, x6, x7, x10, x11, x12, x24, x25, x26, x27, x28, x29, x42, x43, x44, x46, x47, x48 =>
 optK (q_lss Tryz.prog 3 x48 x47) fun v49n31 =>
 ifV v49n31 (
 optK (evIA3 Tryz.prog 158 1 x46 x48) fun v51n32 =>
 insB (evLoad3 Tryz.prog 91 v51n32) fun v52n33 =>
 optK (evIA3 Tryz.prog 91 1 x7 x48) fun v55n34 =>
 insB (evLoad3 Tryz.prog 3 v55n34) fun v56n35 =>
 optK (q_eql Tryz.prog 3 v56n35 x11) fun v58n36 =>
 ifV v58n36 (
 insB (evAppend3 Tryz.prog 91 x12 v52n33) fun v61n37 =>
 optK (q_add Tryz.prog 3 x48 (Value.int .i64 1)) fun v62n38 =>
 LD_balerref12_Of lf d rec k fu x0 x1 x4 x5 x6 x7 x10 x11 v61n37 x24 x25 x26 x27 x28 x29 x42 x43 x44 x46 x47 v62n38) (
 optK (q_add Tryz.prog 3 x48 (Value.int .i64 1)) fun v62n39 =>
 LD_balerref12_Of lf d rec k fu x0 x1 x4 x5 x6 x7 x10 x11 x12 x24 x25 x26 x27 x28 x29 x42 x43 x44 x46 x47 v62n39)) (
 k (Ex.exit 6) [(0, x0), (1, x1), (4, x4), (5, x5), (6, x6), (7, x7), (10, x10), (11, x11), (12, x12), (24, x24), (25, x25), (26, x26), (27, x27), (28, x28), (29, x29), (42, x42), (43, x43), (44, x44), (46, x46), (47, x47), (48, x48), (49, v49n31)])
noncomputable def KD_balerref12_Of (lf d : Nat) (rec : FuncId → Array Value → M Value) (fu : Nat) (k : Ex → Fr → M Value) (again : Value → Value → Value → Value → Value → Value → Value → Value → Value → Value → Value → Value → Value → Value → Value → M Value) (dflt : Ex → Fr → M Value) : Ex → Fr → M Value := (kEx 6 (runCur [0, 1, 4, 5, 6, 7, 10, 11, 12, 24, 25, 26, 27, 28, 29, 42, 43, 44, 46, 47, 48, 49] (fun y0 y1 y4 y5 y6 y7 y10 y11 y12 y24 y25 y26 y27 y28 y29 y42 y43 y44 y46 y47 y48 y49 =>
 (inside (rec 146 #[y12, y1])).bind fun v66n40 =>
 (inside (rec 149 #[v66n40])).bind fun v67n41 =>
 insB (evBS3 Tryz.prog 158 1 [(0, v67n41)]) fun v68n42 =>
 insB (evAppend3 Tryz.prog 158 y10 v68n42) fun v69n43 =>
 optK (q_add Tryz.prog 3 y43 (Value.int .i64 1)) fun v70n44 =>
 again y0 y1 y4 y5 y6 y7 v69n43 y24 y25 y26 y27 y28 y29 y42 v70n44) (dflt (Ex.exit 6))) dflt)
noncomputable def LC_balerref12_Of (lf d : Nat) (rec : FuncId → Array Value → M Value) (k : Ex → Fr → M Value) : Nat → Value → Value → Value → Value → Value → Value → Value → Value → Value → Value → Value → Value → Value → Value → Value → M Value
 | 0, _, _, _, _, _, _, _, _, _, _, _, _, _, _, _ => M.fail
 | fu + 1, x0, x1, x4, x5, x6, x7, x10, x24, x25, x26, x27, x28, x29, x42, x43 =>
 optK (q_lss Tryz.prog 3 x43 x42) fun v44n26 =>
 ifV v44n26 (
 optK (len2 Tryz.prog #[158] [x6]) fun v47n27 =>
 LD_balerref12_Of lf d rec (KD_balerref12_Of lf d rec fu k (LC_balerref12_Of lf d rec k fu) (kcD_balerref12_Of lf d fu k)) lf x0 x1 x4 x5 x6 x7 x10 x43 (Value.slice none 0 0) x24 x25 x26 x27 x28 x29 x42 x43 v44n26 x6 v47n27 (Value.int .i64 0)) (
 k (Ex.exit 4) [(0, x0), (1, x1), (4, x4), (5, x5), (6, x6), (7, x7), (10, x10), (24, x24), (25, x25), (26, x26), (27, x27), (28, x28), (29, x29), (42, x42), (43, x43), (44, v44n26)])
noncomputable def KB_balerref12_Of (lf d : Nat) (rec : FuncId → Array Value → M Value) (fu : Nat) (k : Ex → Fr → M Value) (again : Value → Value → Value → Value → Value → Value → M Value) (dflt : Ex → Fr → M Value) : Ex → Fr → M Value := (kEx 2 (runCur [0, 1, 4, 5, 6, 7, 24, 25, 26, 27, 28, 29] (fun y0 y1 y4 y5 y6 y7 y24 y25 y26 y27 y28 y29 =>
 optK (evFA3 Tryz.prog 160 0 y5 0) fun v40n23 =>
 insB (evLoad3 Tryz.prog 158 v40n23) fun v41n24 =>
 optK (len2 Tryz.prog #[158] [v41n24]) fun v42n25 =>
 LC_balerref12_Of lf d rec (KC_balerref12_Of lf d rec fu k again (kcC_balerref12_Of lf d fu k)) lf y0 y1 y4 y5 y6 y7 (Value.slice none 0 0) y24 y25 y26 y27 y28 y29 v42n25 (Value.int .i64 0)) (dflt (Ex.exit 2))) dflt)
noncomputable def LA_balerref12_Of (lf d : Nat) (rec : FuncId → Array Value → M Value) (k : Ex → Fr → M Value) : Nat → Value → Value → Value → Value → Value → Value → M Value
 | 0, _, _, _, _, _, _ => M.fail
 | fu + 1, x0, x1, x4, x5, x6, x24 =>
 optK (q_lss Tryz.prog 3 x24 (Value.int .i64 4)) fun v25n9 =>
 ifV v25n9 (
 optK (len2 Tryz.prog #[158] [x6]) fun v27n10 =>
 LB_balerref12_Of lf d rec (KB_balerref12_Of lf d rec fu k (LA_balerref12_Of lf d rec k fu) (kcB_balerref12_Of lf d fu k)) lf x0 x1 x4 x5 x6 (Value.slice none 0 0) x24 v25n9 x6 v27n10 (Value.int .i64 0)) (
 k (Ex.exit 0) [(0, x0), (1, x1), (4, x4), (5, x5), (6, x6), (24, x24), (25, v25n9)])
noncomputable def F_balerref12_Of (lf d : Nat) (rec : FuncId → Array Value → M Value) (a0 : Value) (a1 : Value) : M Value :=
 insB (evAllocZ 160 [Value.slice none 0 0, Value.slice none 0 0]) fun v4n1 =>
 (inside (rec 146 #[a0, a1])).bind fun v17n2 =>
 optK (len2 Tryz.prog #[91] [a0]) fun v19n3 =>
 (inside (rec 145 #[v17n2, v19n3])).bind fun v20n4 =>
 insB (evBuildZ Tryz.prog 160 [Value.slice none 0 0, Value.slice none 0 0] [(0, v20n4)]) fun v21n5 =>
 insB (evAllocZ 160 [Value.slice none 0 0, Value.slice none 0 0]) fun v5n6 =>
 insB (evStoreA3 Tryz.prog 160 2 v5n6 v21n5) fun u7 =>
 (inside (rec 147 #[a0])).bind fun v23n8 =>
 LA_balerref12_Of lf d rec (KA_balerref12_Of lf d rec (kcA_balerref12_Of lf d)) lf a0 a1 v4n1 v5n6 v23n8 (Value.int .i64 0)
set_option maxRecDepth 20000 in
theorem KQA_balerref12_Of (lf d : Nat) : KA_balerref12_Of lf d (evC lf d) (kcA_balerref12_Of lf d) = kcA_balerref12_Of lf d := by
  unfold KA_balerref12_Of
  refine Eq.trans (kEx_eq ?_) ?_
  · exact (runCur_eq _ _ _ (by intro y0 y1 y4 y5 y6 y24 y25; show _ = _; (try simp only [clash3_eq, evLoadA3_eq (P := Tryz.prog) ga160 gs160, evStoreA3_eq (P := Tryz.prog) gs160, insB_eq]); kernel_rfl))
  rfl
theorem LQB_balerref12_Of (lf d : Nat) (k : Ex → Fr → M Value) : ∀ fu : Nat, LB_balerref12_Of lf d (evC lf d) k fu = lpB_balerref12_Of lf d fu k
  | 0 => by funext x0 x1 x4 x5 x6 x7 x24 x25 x26 x27 x28; kernel_rfl
  | fu + 1 => by
    have ih := LQB_balerref12_Of lf d k fu
    funext x0 x1 x4 x5 x6 x7 x24 x25 x26 x27 x28; simp only [LB_balerref12_Of, ih, clash3_eq, evAppend3_eq, evBS3_eq, evFA3_eq (P := Tryz.prog) gf160f0, evIA3_eq (P := Tryz.prog) Tryz.underlying158 gs91, evLoad3_eq (P := Tryz.prog) ga158, evLoad3_eq (P := Tryz.prog) ga91, insB_eq, q_add_eq (P := Tryz.prog) nf3, q_lss_eq (P := Tryz.prog) nf3]; kernel_rfl
set_option maxRecDepth 20000 in
theorem KQC_balerref12_Of (lf d fu : Nat) (k : Ex → Fr → M Value) (again : Value → Value → Value → Value → Value → Value → M Value) (ha : again = lpA_balerref12_Of lf d fu k) : KC_balerref12_Of lf d (evC lf d) fu k again (kcC_balerref12_Of lf d fu k) = kcC_balerref12_Of lf d fu k := by
  subst ha
  unfold KC_balerref12_Of
  refine Eq.trans (kEx_eq ?_) ?_
  · exact (runCur_eq _ _ _ (by intro y0 y1 y4 y5 y6 y7 y10 y24 y25 y26 y27 y28 y29 y42 y43 y44; show _ = _; (try simp only [bz160, clash3_eq, evStoreA3_eq (P := Tryz.prog) gs160, insB_eq, q_add_eq (P := Tryz.prog) nf3]); kernel_rfl))
  rfl
theorem LQD_balerref12_Of (lf d : Nat) (k : Ex → Fr → M Value) : ∀ fu : Nat, LD_balerref12_Of lf d (evC lf d) k fu = lpD_balerref12_Of lf d fu k
  | 0 => by funext x0 x1 x4 x5 x6 x7 x10 x11 x12 x24 x25 x26 x27 x28 x29 x42 x43 x44 x46 x47 x48; kernel_rfl
  | fu + 1 => by
    have ih := LQD_balerref12_Of lf d k fu
    funext x0 x1 x4 x5 x6 x7 x10 x11 x12 x24 x25 x26 x27 x28 x29 x42 x43 x44 x46 x47 x48; simp only [LD_balerref12_Of, ih, clash3_eq, evAppend3_eq, evIA3_eq (P := Tryz.prog) Tryz.underlying158 gs91, evIA3_eq (P := Tryz.prog) Tryz.underlying91 gs3, evLoad3_eq (P := Tryz.prog) ga3, evLoad3_eq (P := Tryz.prog) ga91, insB_eq, q_add_eq (P := Tryz.prog) nf3, q_eql_eq (P := Tryz.prog) nf3, q_lss_eq (P := Tryz.prog) nf3]; kernel_rfl
set_option maxRecDepth 20000 in
theorem KQD_balerref12_Of (lf d fu : Nat) (k : Ex → Fr → M Value) (again : Value → Value → Value → Value → Value → Value → Value → Value → Value → Value → Value → Value → Value → Value → Value → M Value) (ha : again = lpC_balerref12_Of lf d fu k) : KD_balerref12_Of lf d (evC lf d) fu k again (kcD_balerref12_Of lf d fu k) = kcD_balerref12_Of lf d fu k := by
  subst ha
  unfold KD_balerref12_Of
  refine Eq.trans (kEx_eq ?_) ?_
  · exact (runCur_eq _ _ _ (by intro y0 y1 y4 y5 y6 y7 y10 y11 y12 y24 y25 y26 y27 y28 y29 y42 y43 y44 y46 y47 y48 y49; show _ = _; (try simp only [clash3_eq, evAppend3_eq, evBS3_eq, insB_eq, q_add_eq (P := Tryz.prog) nf3]); kernel_rfl))
  rfl
theorem LQC_balerref12_Of (lf d : Nat) (k : Ex → Fr → M Value) : ∀ fu : Nat, LC_balerref12_Of lf d (evC lf d) k fu = lpC_balerref12_Of lf d fu k
  | 0 => by funext x0 x1 x4 x5 x6 x7 x10 x24 x25 x26 x27 x28 x29 x42 x43; kernel_rfl
  | fu + 1 => by
    have ih := LQC_balerref12_Of lf d k fu
    funext x0 x1 x4 x5 x6 x7 x10 x24 x25 x26 x27 x28 x29 x42 x43; simp only [LC_balerref12_Of, ih, KQD_balerref12_Of lf d fu k _ rfl, LQD_balerref12_Of, clash3_eq, insB_eq, q_lss_eq (P := Tryz.prog) nf3]; kernel_rfl
set_option maxRecDepth 20000 in
theorem KQB_balerref12_Of (lf d fu : Nat) (k : Ex → Fr → M Value) (again : Value → Value → Value → Value → Value → Value → M Value) (ha : again = lpA_balerref12_Of lf d fu k) : KB_balerref12_Of lf d (evC lf d) fu k again (kcB_balerref12_Of lf d fu k) = kcB_balerref12_Of lf d fu k := by
  subst ha
  unfold KB_balerref12_Of
  refine Eq.trans (kEx_eq ?_) ?_
  · exact (runCur_eq _ _ _ (by intro y0 y1 y4 y5 y6 y7 y24 y25 y26 y27 y28 y29; show _ = _; (try simp only [KQC_balerref12_Of lf d fu k _ rfl, LQC_balerref12_Of, clash3_eq, evFA3_eq (P := Tryz.prog) gf160f0, evLoad3_eq (P := Tryz.prog) ga158, insB_eq]); kernel_rfl))
  rfl
theorem LQA_balerref12_Of (lf d : Nat) (k : Ex → Fr → M Value) : ∀ fu : Nat, LA_balerref12_Of lf d (evC lf d) k fu = lpA_balerref12_Of lf d fu k
  | 0 => by funext x0 x1 x4 x5 x6 x24; kernel_rfl
  | fu + 1 => by
    have ih := LQA_balerref12_Of lf d k fu
    funext x0 x1 x4 x5 x6 x24; simp only [LA_balerref12_Of, ih, KQB_balerref12_Of lf d fu k _ rfl, LQB_balerref12_Of, clash3_eq, insB_eq, q_lss_eq (P := Tryz.prog) nf3]; kernel_rfl
theorem fsh_balerref12_Of (lf d : Nat) (a0 : Value) (a1 : Value) : inside (F_balerref12_Of lf d (evC lf d) a0 a1) = evC lf (d + 1) 124 #[a0, a1] := by
  unfold F_balerref12_Of; (try simp only [KQA_balerref12_Of lf d, LQA_balerref12_Of, az160, bz160, clash3_eq, evStoreA3_eq (P := Tryz.prog) gs160, insB_eq]); kernel_rfl

/- balerref13_Bits -/
noncomputable def lpA_balerref13_Bits (lf d fu : Nat) (k : Ex → Fr → M Value) (x0 : Value) (x1 : Value) (x4 : Value) (x5 : Value) (x6 : Value) (x18 : Value) (x19 : Value) (x20 : Value) : M Value := loopK (fun s1 k1 => codeK Tryz.prog (evC lf d) (gtA 125) lf (codeAt (bodyOf Tryz.prog 125) [true, true, true, false, true, false, false]) s1 k1) [0, 1, 4, 5, 6, 18, 19, 20] fu [(0, x0), (1, x1), (4, x4), (5, x5), (6, x6), (18, x18), (19, x19), (20, x20)] k
noncomputable def kcA_balerref13_Bits (lf d : Nat) : Ex → Fr → M Value := contAt Tryz.prog (evC lf d) (gtA 125) lf (bodyOf Tryz.prog 125) [true, true, true, false, true, false] (endK Tryz.prog (resOf Tryz.prog 125))
noncomputable def LA_balerref13_Bits (lf d : Nat) (rec : FuncId → Array Value → M Value) (k : Ex → Fr → M Value) : Nat → Value → Value → Value → Value → Value → Value → Value → Value → M Value
 | 0, _, _, _, _, _, _, _, _ => M.fail
 | fu + 1, x0, x1, x4, x5, x6, x18, x19, x20 =>
 optK (q_lss Tryz.prog 3 x20 x19) fun v21n8 =>
 ifV v21n8 (
 optK (evIA3 Tryz.prog 91 1 x18 x20) fun v22n9 =>
 insB (evLoad3 Tryz.prog 3 v22n9) fun v23n10 =>
 optK (index3 Tryz.prog 9 (Value.string { data := #[48, 49, 50, 51, 52, 53] }) v23n10) fun v26n11 =>
 (inside (rec 121 #[x6, v26n11])).bind fun v27n12 =>
 (inside (rec 122 #[x6, v27n12])).bind fun v30n13 =>
 slice3 Tryz.prog 9 (Value.string { data := #[49, 49, 49, 49, 49, 49] }) none (some v27n12) none fun v33n14 =>
 optK (qS_add Tryz.prog 9 x5 v33n14) fun v34n15 =>
 optK (qS_add Tryz.prog 9 v34n15 (Value.string { data := #[48] })) fun v35n16 =>
 optK (q_add Tryz.prog 3 x20 (Value.int .i64 1)) fun v36n17 =>
 LA_balerref13_Bits lf d rec k fu x0 x1 x4 v35n16 v30n13 x18 x19 v36n17) (
 k (Ex.exit 0) [(0, x0), (1, x1), (4, x4), (5, x5), (6, x6), (18, x18), (19, x19), (20, x20), (21, v21n8)])
noncomputable def KA_balerref13_Bits (lf d : Nat) (rec : FuncId → Array Value → M Value) (dflt : Ex → Fr → M Value) : Ex → Fr → M Value := (kEx 0 (runCur [0, 1, 4, 5, 6, 18, 19, 20, 21] (fun y0 y1 y4 y5 y6 y18 y19 y20 y21 =>
 outK [y5]) (dflt (Ex.exit 0))) dflt)
noncomputable def F_balerref13_Bits (lf d : Nat) (rec : FuncId → Array Value → M Value) (a0 : Value) (a1 : Value) : M Value :=
 conv3 Tryz.prog 3 62 .i64 .u32 a1 fun v11n1 =>
 (inside (rec 81 #[v11n1, (Value.int .i64 3)])).bind fun v12n2 =>
 optK (len2 Tryz.prog #[91] [a0]) fun v14n3 =>
 conv3 Tryz.prog 3 62 .i64 .u32 v14n3 fun v15n4 =>
 (inside (rec 81 #[v15n4, (Value.int .i64 15)])).bind fun v16n5 =>
 optK (qS_add Tryz.prog 9 v12n2 v16n5) fun v17n6 =>
 optK (len2 Tryz.prog #[91] [a0]) fun v19n7 =>
 LA_balerref13_Bits lf d rec (KA_balerref13_Bits lf d rec (kcA_balerref13_Bits lf d)) lf a0 a1 (Value.string { data := #[] }) v17n6 (Value.string { data := #[48, 49, 50, 51, 52, 53] }) a0 v19n7 (Value.int .i64 0)
theorem LQA_balerref13_Bits (lf d : Nat) (k : Ex → Fr → M Value) : ∀ fu : Nat, LA_balerref13_Bits lf d (evC lf d) k fu = lpA_balerref13_Bits lf d fu k
  | 0 => by funext x0 x1 x4 x5 x6 x18 x19 x20; kernel_rfl
  | fu + 1 => by
    have ih := LQA_balerref13_Bits lf d k fu
    funext x0 x1 x4 x5 x6 x18 x19 x20; simp only [LA_balerref13_Bits, ih, clash3_eq, evIA3_eq (P := Tryz.prog) Tryz.underlying91 gs3, evLoad3_eq (P := Tryz.prog) ga3, index3_eq (P := Tryz.prog) Tryz.underlying9, insB_eq, qS_add_eq (P := Tryz.prog) nf9, q_add_eq (P := Tryz.prog) nf3, q_lss_eq (P := Tryz.prog) nf3, slice3_eq (P := Tryz.prog) Tryz.underlying9]; kernel_rfl
set_option maxRecDepth 20000 in
theorem KQA_balerref13_Bits (lf d : Nat) : KA_balerref13_Bits lf d (evC lf d) (kcA_balerref13_Bits lf d) = kcA_balerref13_Bits lf d := by
  unfold KA_balerref13_Bits
  refine Eq.trans (kEx_eq ?_) ?_
  · exact (runCur_eq _ _ _ (by intro y0 y1 y4 y5 y6 y18 y19 y20 y21; show _ = _; (try simp only [clash3_eq, insB_eq]); kernel_rfl))
  rfl
theorem fsh_balerref13_Bits (lf d : Nat) (a0 : Value) (a1 : Value) : inside (F_balerref13_Bits lf d (evC lf d) a0 a1) = evC lf (d + 1) 125 #[a0, a1] := by
  unfold F_balerref13_Bits; (try simp only [KQA_balerref13_Bits lf d, LQA_balerref13_Bits, clash3_eq, conv3_eq cw3x62, insB_eq, qS_add_eq (P := Tryz.prog) nf9]); kernel_rfl

/- balerref11_Bits -/
noncomputable def lpA_balerref11_Bits (lf d fu : Nat) (k : Ex → Fr → M Value) (x0 : Value) (x2 : Value) (x3 : Value) (x4 : Value) (x16 : Value) (x17 : Value) (x18 : Value) : M Value := loopK (fun s1 k1 => codeK Tryz.prog (evC lf d) (gtA 126) lf (codeAt (bodyOf Tryz.prog 126) [true, true, true, false, true, false, false]) s1 k1) [0, 2, 3, 4, 16, 17, 18] fu [(0, x0), (2, x2), (3, x3), (4, x4), (16, x16), (17, x17), (18, x18)] k
noncomputable def kcA_balerref11_Bits (lf d : Nat) : Ex → Fr → M Value := contAt Tryz.prog (evC lf d) (gtA 126) lf (bodyOf Tryz.prog 126) [true, true, true, false, true, false] (endK Tryz.prog (resOf Tryz.prog 126))
noncomputable def lpB_balerref11_Bits (lf d fu : Nat) (k : Ex → Fr → M Value) (x0 : Value) (x2 : Value) (x3 : Value) (x4 : Value) (x6 : Value) (x16 : Value) (x17 : Value) (x18 : Value) (x19 : Value) (x22 : Value) : M Value := loopK (fun s1 k1 => codeK Tryz.prog (evC lf d) (gtA 126) lf (codeAt (bodyOf Tryz.prog 126) [true, true, true, false, true, false, false, true, true, false, false, true, false, true, false, false]) s1 k1) [0, 2, 3, 4, 6, 16, 17, 18, 19, 22] fu [(0, x0), (2, x2), (3, x3), (4, x4), (6, x6), (16, x16), (17, x17), (18, x18), (19, x19), (22, x22)] k
noncomputable def kcB_balerref11_Bits (lf d fu : Nat) (k : Ex → Fr → M Value) : Ex → Fr → M Value := contAt Tryz.prog (evC lf d) (gtA 126) lf (codeAt (bodyOf Tryz.prog 126) [true, true, true, false, true, false, false]) [true, true, false, false, true, false, true, false] (againK (fun s1 => loopK (fun s1 k1 => codeK Tryz.prog (evC lf d) (gtA 126) lf (codeAt (bodyOf Tryz.prog 126) [true, true, true, false, true, false, false]) s1 k1) [0, 2, 3, 4, 16, 17, 18] fu (s1.keep [0, 2, 3, 4, 16, 17, 18]) k) k)
noncomputable def KA_balerref11_Bits (lf d : Nat) (rec : FuncId → Array Value → M Value) (dflt : Ex → Fr → M Value) : Ex → Fr → M Value := (kEx 0 (runCur [0, 2, 3, 4, 16, 17, 18, 19] (fun y0 y2 y3 y4 y16 y17 y18 y19 =>
 outK [y3]) (dflt (Ex.exit 0))) dflt)
noncomputable def LB_balerref11_Bits (lf d : Nat) (rec : FuncId → Array Value → M Value) (k : Ex → Fr → M Value) : Nat → Value → Value → Value → Value → Value → Value → Value → Value → Value → Value → M Value
 | 0, _, _, _, _, _, _, _, _, _, _ => M.fail
 | fu + 1, x0, x2, x3, x4, x6, x16, x17, x18, x19, x22 =>
 optK (q_lss Tryz.prog 3 x22 (Value.int .i64 40)) fun v23n11 =>
 ifV v23n11 (
 optK (q_sub Tryz.prog 3 x6 x4) fun v28n12 =>
 optK (q_lss Tryz.prog 3 x22 v28n12) fun v29n13 =>
 ifV v29n13 (
 optK (qS_add Tryz.prog 9 x3 (Value.string { data := #[49, 48] })) fun v31n14 =>
 optK (q_sub Tryz.prog 3 x4 x6) fun v35n15 =>
 optK (q_lss Tryz.prog 3 x22 v35n15) fun v36n16 =>
 ifV v36n16 (
 optK (qS_add Tryz.prog 9 v31n14 (Value.string { data := #[49, 49] })) fun v38n17 =>
 optK (q_add Tryz.prog 3 x22 (Value.int .i64 1)) fun v39n18 =>
 LB_balerref11_Bits lf d rec k fu x0 x2 v38n17 x4 x6 x16 x17 x18 x19 v39n18) (
 optK (q_add Tryz.prog 3 x22 (Value.int .i64 1)) fun v39n19 =>
 LB_balerref11_Bits lf d rec k fu x0 x2 v31n14 x4 x6 x16 x17 x18 x19 v39n19)) (
 optK (q_sub Tryz.prog 3 x4 x6) fun v35n20 =>
 optK (q_lss Tryz.prog 3 x22 v35n20) fun v36n21 =>
 ifV v36n21 (
 optK (qS_add Tryz.prog 9 x3 (Value.string { data := #[49, 49] })) fun v38n22 =>
 optK (q_add Tryz.prog 3 x22 (Value.int .i64 1)) fun v39n23 =>
 LB_balerref11_Bits lf d rec k fu x0 x2 v38n22 x4 x6 x16 x17 x18 x19 v39n23) (
 optK (q_add Tryz.prog 3 x22 (Value.int .i64 1)) fun v39n24 =>
 LB_balerref11_Bits lf d rec k fu x0 x2 x3 x4 x6 x16 x17 x18 x19 v39n24))) (
 k (Ex.exit 2) [(0, x0), (2, x2), (3, x3), (4, x4), (6, x6), (16, x16), (17, x17), (18, x18), (19, x19), (22, x22), (23, v23n11)])
noncomputable def KB_balerref11_Bits (lf d : Nat) (rec : FuncId → Array Value → M Value) (fu : Nat) (k : Ex → Fr → M Value) (again : Value → Value → Value → Value → Value → Value → Value → M Value) (dflt : Ex → Fr → M Value) : Ex → Fr → M Value := (kEx 2 (runCur [0, 2, 3, 4, 6, 16, 17, 18, 19, 22, 23] (fun y0 y2 y3 y4 y6 y16 y17 y18 y19 y22 y23 =>
 optK (qS_add Tryz.prog 9 y3 (Value.string { data := #[48] })) fun v41n25 =>
 optK (q_add Tryz.prog 3 y18 (Value.int .i64 1)) fun v43n26 =>
 again y0 y2 v41n25 y6 y16 y17 v43n26) (dflt (Ex.exit 2))) dflt)
noncomputable def LA_balerref11_Bits (lf d : Nat) (rec : FuncId → Array Value → M Value) (k : Ex → Fr → M Value) : Nat → Value → Value → Value → Value → Value → Value → Value → M Value
 | 0, _, _, _, _, _, _, _ => M.fail
 | fu + 1, x0, x2, x3, x4, x16, x17, x18 =>
 optK (q_lss Tryz.prog 3 x18 x17) fun v19n8 =>
 ifV v19n8 (
 optK (evIA3 Tryz.prog 91 1 x16 x18) fun v20n9 =>
 insB (evLoad3 Tryz.prog 3 v20n9) fun v21n10 =>
 LB_balerref11_Bits lf d rec (KB_balerref11_Bits lf d rec fu k (LA_balerref11_Bits lf d rec k fu) (kcB_balerref11_Bits lf d fu k)) lf x0 x2 x3 x4 v21n10 x16 x17 x18 v19n8 (Value.int .i64 0)) (
 k (Ex.exit 0) [(0, x0), (2, x2), (3, x3), (4, x4), (16, x16), (17, x17), (18, x18), (19, v19n8)])
noncomputable def F_balerref11_Bits (lf d : Nat) (rec : FuncId → Array Value → M Value) (a0 : Value) : M Value :=
 optK (evIA3 Tryz.prog 91 1 a0 (Value.int .i64 0)) fun v9n1 =>
 insB (evLoad3 Tryz.prog 3 v9n1) fun v10n2 =>
 conv3 Tryz.prog 3 62 .i64 .u32 v10n2 fun v11n3 =>
 (inside (rec 81 #[v11n3, (Value.int .i64 5)])).bind fun v12n4 =>
 optK (evIA3 Tryz.prog 91 1 a0 (Value.int .i64 0)) fun v14n5 =>
 insB (evLoad3 Tryz.prog 3 v14n5) fun v15n6 =>
 optK (len2 Tryz.prog #[91] [a0]) fun v17n7 =>
 LA_balerref11_Bits lf d rec (KA_balerref11_Bits lf d rec (kcA_balerref11_Bits lf d)) lf a0 (Value.string { data := #[] }) v12n4 v15n6 a0 v17n7 (Value.int .i64 0)
set_option maxRecDepth 20000 in
theorem KQA_balerref11_Bits (lf d : Nat) : KA_balerref11_Bits lf d (evC lf d) (kcA_balerref11_Bits lf d) = kcA_balerref11_Bits lf d := by
  unfold KA_balerref11_Bits
  refine Eq.trans (kEx_eq ?_) ?_
  · exact (runCur_eq _ _ _ (by intro y0 y2 y3 y4 y16 y17 y18 y19; show _ = _; (try simp only [clash3_eq, insB_eq]); kernel_rfl))
  rfl
theorem LQB_balerref11_Bits (lf d : Nat) (k : Ex → Fr → M Value) : ∀ fu : Nat, LB_balerref11_Bits lf d (evC lf d) k fu = lpB_balerref11_Bits lf d fu k
  | 0 => by funext x0 x2 x3 x4 x6 x16 x17 x18 x19 x22; kernel_rfl
  | fu + 1 => by
    have ih := LQB_balerref11_Bits lf d k fu
    funext x0 x2 x3 x4 x6 x16 x17 x18 x19 x22; simp only [LB_balerref11_Bits, ih, clash3_eq, insB_eq, qS_add_eq (P := Tryz.prog) nf9, q_add_eq (P := Tryz.prog) nf3, q_lss_eq (P := Tryz.prog) nf3, q_sub_eq (P := Tryz.prog) nf3]; kernel_rfl
set_option maxRecDepth 20000 in
theorem KQB_balerref11_Bits (lf d fu : Nat) (k : Ex → Fr → M Value) (again : Value → Value → Value → Value → Value → Value → Value → M Value) (ha : again = lpA_balerref11_Bits lf d fu k) : KB_balerref11_Bits lf d (evC lf d) fu k again (kcB_balerref11_Bits lf d fu k) = kcB_balerref11_Bits lf d fu k := by
  subst ha
  unfold KB_balerref11_Bits
  refine Eq.trans (kEx_eq ?_) ?_
  · exact (runCur_eq _ _ _ (by intro y0 y2 y3 y4 y6 y16 y17 y18 y19 y22 y23; show _ = _; (try simp only [clash3_eq, insB_eq, qS_add_eq (P := Tryz.prog) nf9, q_add_eq (P := Tryz.prog) nf3]); kernel_rfl))
  rfl
theorem LQA_balerref11_Bits (lf d : Nat) (k : Ex → Fr → M Value) : ∀ fu : Nat, LA_balerref11_Bits lf d (evC lf d) k fu = lpA_balerref11_Bits lf d fu k
  | 0 => by funext x0 x2 x3 x4 x16 x17 x18; kernel_rfl
  | fu + 1 => by
    have ih := LQA_balerref11_Bits lf d k fu
    funext x0 x2 x3 x4 x16 x17 x18; simp only [LA_balerref11_Bits, ih, KQB_balerref11_Bits lf d fu k _ rfl, LQB_balerref11_Bits, clash3_eq, evIA3_eq (P := Tryz.prog) Tryz.underlying91 gs3, evLoad3_eq (P := Tryz.prog) ga3, insB_eq, q_lss_eq (P := Tryz.prog) nf3]; kernel_rfl
theorem fsh_balerref11_Bits (lf d : Nat) (a0 : Value) : inside (F_balerref11_Bits lf d (evC lf d) a0) = evC lf (d + 1) 126 #[a0] := by
  unfold F_balerref11_Bits; (try simp only [KQA_balerref11_Bits lf d, LQA_balerref11_Bits, clash3_eq, conv3_eq cw3x62, evIA3_eq (P := Tryz.prog) Tryz.underlying91 gs3, evLoad3_eq (P := Tryz.prog) ga3, insB_eq]); kernel_rfl

/- balerref10_Codes -/
noncomputable def lpA_balerref10_Codes (lf d fu : Nat) (k : Ex → Fr → M Value) (x0 : Value) (x2 : Value) (x3 : Value) (x4 : Value) (x5 : Value) : M Value := loopK (fun s1 k1 => codeK Tryz.prog (evC lf d) (gtA 127) lf (codeAt (bodyOf Tryz.prog 127) [true, true, true, false, true, false, false]) s1 k1) [0, 2, 3, 4, 5] fu [(0, x0), (2, x2), (3, x3), (4, x4), (5, x5)] k
noncomputable def kcA_balerref10_Codes (lf d : Nat) : Ex → Fr → M Value := contAt Tryz.prog (evC lf d) (gtA 127) lf (bodyOf Tryz.prog 127) [true, true, true, false, true, false] (endK Tryz.prog (resOf Tryz.prog 127))
noncomputable def lpB_balerref10_Codes (lf d fu : Nat) (k : Ex → Fr → M Value) (x0 : Value) (x2 : Value) (x3 : Value) (x4 : Value) (x5 : Value) (x12 : Value) (x15 : Value) (x16 : Value) (x17 : Value) : M Value := loopK (fun s1 k1 => codeK Tryz.prog (evC lf d) (gtA 127) lf (codeAt (bodyOf Tryz.prog 127) [true, true, true, false, true, false, false, true, false, false, true, false, false]) s1 k1) [0, 2, 3, 4, 5, 12, 15, 16, 17] fu [(0, x0), (2, x2), (3, x3), (4, x4), (5, x5), (12, x12), (15, x15), (16, x16), (17, x17)] k
noncomputable def kcB_balerref10_Codes (lf d fu : Nat) (k : Ex → Fr → M Value) : Ex → Fr → M Value := contAt Tryz.prog (evC lf d) (gtA 127) lf (codeAt (bodyOf Tryz.prog 127) [true, true, true, false, true, false, false]) [true, false, false, true, false] (againK (fun s1 => loopK (fun s1 k1 => codeK Tryz.prog (evC lf d) (gtA 127) lf (codeAt (bodyOf Tryz.prog 127) [true, true, true, false, true, false, false]) s1 k1) [0, 2, 3, 4, 5] fu (s1.keep [0, 2, 3, 4, 5]) k) k)
noncomputable def lpC_balerref10_Codes (lf d fu : Nat) (k : Ex → Fr → M Value) (x0 : Value) (x2 : Value) (x3 : Value) (x4 : Value) (x5 : Value) (x6 : Value) (x7 : Value) (x12 : Value) (x15 : Value) (x16 : Value) (x17 : Value) (x18 : Value) (x24 : Value) (x26 : Value) (x27 : Value) (x28 : Value) : M Value := loopK (fun s1 k1 => codeK Tryz.prog (evC lf d) (gtA 127) lf (codeAt (bodyOf Tryz.prog 127) [true, true, true, false, true, false, false, true, false, false, true, false, false, true, true, false, false, true, true, false, true, false, true, false, false]) s1 k1) [0, 2, 3, 4, 5, 6, 7, 12, 15, 16, 17, 18, 24, 26, 27, 28] fu [(0, x0), (2, x2), (3, x3), (4, x4), (5, x5), (6, x6), (7, x7), (12, x12), (15, x15), (16, x16), (17, x17), (18, x18), (24, x24), (26, x26), (27, x27), (28, x28)] k
noncomputable def kcC_balerref10_Codes (lf d fu : Nat) (k : Ex → Fr → M Value) : Ex → Fr → M Value := contAt Tryz.prog (evC lf d) (gtA 127) lf (codeAt (bodyOf Tryz.prog 127) [true, true, true, false, true, false, false, true, false, false, true, false, false]) [true, true, false, false, true, true, false, true, false, true, false] (againK (fun s1 => loopK (fun s1 k1 => codeK Tryz.prog (evC lf d) (gtA 127) lf (codeAt (bodyOf Tryz.prog 127) [true, true, true, false, true, false, false, true, false, false, true, false, false]) s1 k1) [0, 2, 3, 4, 5, 12, 15, 16, 17] fu (s1.keep [0, 2, 3, 4, 5, 12, 15, 16, 17]) k) k)
noncomputable def KA_balerref10_Codes (lf d : Nat) (rec : FuncId → Array Value → M Value) (dflt : Ex → Fr → M Value) : Ex → Fr → M Value := (kEx 0 (runCur [0, 2, 3, 4, 5, 12] (fun y0 y2 y3 y4 y5 y12 =>
 outK [y3]) (dflt (Ex.exit 0))) dflt)
noncomputable def KB_balerref10_Codes (lf d : Nat) (rec : FuncId → Array Value → M Value) (fu : Nat) (k : Ex → Fr → M Value) (again : Value → Value → Value → Value → Value → M Value) (dflt : Ex → Fr → M Value) : Ex → Fr → M Value := (kEx 2 (runCur [0, 2, 3, 4, 5, 12, 15, 16, 17, 18] (fun y0 y2 y3 y4 y5 y12 y15 y16 y17 y18 =>
 optK (q_add Tryz.prog 3 y5 (Value.int .i64 1)) fun v14n15 =>
 again y0 y2 y3 y4 v14n15) (dflt (Ex.exit 2))) dflt)
noncomputable def LC_balerref10_Codes (lf d : Nat) (rec : FuncId → Array Value → M Value) (k : Ex → Fr → M Value) : Nat → Value → Value → Value → Value → Value → Value → Value → Value → Value → Value → Value → Value → Value → Value → Value → Value → M Value
 | 0, _, _, _, _, _, _, _, _, _, _, _, _, _, _, _, _ => M.fail
 | fu + 1, x0, x2, x3, x4, x5, x6, x7, x12, x15, x16, x17, x18, x24, x26, x27, x28 =>
 optK (q_lss Tryz.prog 3 x28 x27) fun v29n16 =>
 ifV v29n16 (
 optK (qS_add Tryz.prog 9 x4 (Value.string { data := #[48] })) fun v31n17 =>
 optK (q_add Tryz.prog 3 x28 (Value.int .i64 1)) fun v32n18 =>
 LC_balerref10_Codes lf d rec k fu x0 x2 x3 v31n17 x5 x6 x7 x12 x15 x16 x17 x18 x24 x26 x27 v32n18) (
 k (Ex.exit 4) [(0, x0), (2, x2), (3, x3), (4, x4), (5, x5), (6, x6), (7, x7), (12, x12), (15, x15), (16, x16), (17, x17), (18, x18), (24, x24), (26, x26), (27, x27), (28, x28), (29, v29n16)])
noncomputable def KC_balerref10_Codes (lf d : Nat) (rec : FuncId → Array Value → M Value) (fu : Nat) (k : Ex → Fr → M Value) (again : Value → Value → Value → Value → Value → Value → Value → Value → Value → M Value) (dflt : Ex → Fr → M Value) : Ex → Fr → M Value := (kEx 4 (runCur [0, 2, 3, 4, 5, 6, 7, 12, 15, 16, 17, 18, 24, 26, 27, 28, 29] (fun y0 y2 y3 y4 y5 y6 y7 y12 y15 y16 y17 y18 y24 y26 y27 y28 y29 =>
 optK (evIA3 Tryz.prog 24 1 y3 y6) fun v39n19 =>
 insB (evStore3 Tryz.prog 9 v39n19 y4) fun u20 =>
 optK (q_add Tryz.prog 3 y17 (Value.int .i64 1)) fun v40n21 =>
 again y0 y2 y3 y4 y5 y12 y15 y16 v40n21) (dflt (Ex.exit 4))) dflt)
noncomputable def LB_balerref10_Codes (lf d : Nat) (rec : FuncId → Array Value → M Value) (k : Ex → Fr → M Value) : Nat → Value → Value → Value → Value → Value → Value → Value → Value → Value → M Value
 | 0, _, _, _, _, _, _, _, _, _ => M.fail
 | fu + 1, x0, x2, x3, x4, x5, x12, x15, x16, x17 =>
 optK (q_lss Tryz.prog 3 x17 x16) fun v18n5 =>
 ifV v18n5 (
 optK (evIA3 Tryz.prog 91 1 x15 x17) fun v20n6 =>
 insB (evLoad3 Tryz.prog 3 v20n6) fun v21n7 =>
 optK (q_neq Tryz.prog 3 v21n7 x5) fun v24n8 =>
 ifV v24n8 (
 optK (q_add Tryz.prog 3 x17 (Value.int .i64 1)) fun v40n9 =>
 LB_balerref10_Codes lf d rec k fu x0 x2 x3 x4 x5 x12 x15 x16 v40n9) (
 optK (qS_eql Tryz.prog 9 x4 (Value.string { data := #[] })) fun v26n10 =>
 ifV v26n10 (
 LC_balerref10_Codes lf d rec (KC_balerref10_Codes lf d rec fu k (LB_balerref10_Codes lf d rec k fu) (kcC_balerref10_Codes lf d fu k)) lf x0 x2 x3 x4 x5 x17 v21n7 x12 x15 x16 x17 v18n5 v24n8 v26n10 x5 (Value.int .i64 0)) (
 (inside (rec 150 #[x4, x5])).bind fun v35n11 =>
 optK (evIA3 Tryz.prog 24 1 x3 x17) fun v39n12 =>
 insB (evStore3 Tryz.prog 9 v39n12 v35n11) fun u13 =>
 optK (q_add Tryz.prog 3 x17 (Value.int .i64 1)) fun v40n14 =>
 LB_balerref10_Codes lf d rec k fu x0 x2 x3 v35n11 x5 x12 x15 x16 v40n14))) (
 k (Ex.exit 2) [(0, x0), (2, x2), (3, x3), (4, x4), (5, x5), (12, x12), (15, x15), (16, x16), (17, x17), (18, v18n5)])
noncomputable def LA_balerref10_Codes (lf d : Nat) (rec : FuncId → Array Value → M Value) (k : Ex → Fr → M Value) : Nat → Value → Value → Value → Value → Value → M Value
 | 0, _, _, _, _, _ => M.fail
 | fu + 1, x0, x2, x3, x4, x5 =>
 optK (q_leq Tryz.prog 3 x5 (Value.int .i64 20)) fun v12n3 =>
 ifV v12n3 (
 optK (len2 Tryz.prog #[91] [x0]) fun v16n4 =>
 LB_balerref10_Codes lf d rec (KB_balerref10_Codes lf d rec fu k (LA_balerref10_Codes lf d rec k fu) (kcB_balerref10_Codes lf d fu k)) lf x0 x2 x3 x4 x5 v12n3 x0 v16n4 (Value.int .i64 0)) (
 k (Ex.exit 0) [(0, x0), (2, x2), (3, x3), (4, x4), (5, x5), (12, v12n3)])
noncomputable def F_balerref10_Codes (lf d : Nat) (rec : FuncId → Array Value → M Value) (a0 : Value) : M Value :=
 optK (len2 Tryz.prog #[91] [a0]) fun v9n1 =>
 insB (evMake3 Tryz.prog 24 v9n1 v9n1) fun v10n2 =>
 LA_balerref10_Codes lf d rec (KA_balerref10_Codes lf d rec (kcA_balerref10_Codes lf d)) lf a0 (Value.slice none 0 0) v10n2 (Value.string { data := #[] }) (Value.int .i64 1)
set_option maxRecDepth 20000 in
theorem KQA_balerref10_Codes (lf d : Nat) : KA_balerref10_Codes lf d (evC lf d) (kcA_balerref10_Codes lf d) = kcA_balerref10_Codes lf d := by
  unfold KA_balerref10_Codes
  refine Eq.trans (kEx_eq ?_) ?_
  · exact (runCur_eq _ _ _ (by intro y0 y2 y3 y4 y5 y12; show _ = _; (try simp only [clash3_eq, insB_eq]); kernel_rfl))
  rfl
set_option maxRecDepth 20000 in
theorem KQB_balerref10_Codes (lf d fu : Nat) (k : Ex → Fr → M Value) (again : Value → Value → Value → Value → Value → M Value) (ha : again = lpA_balerref10_Codes lf d fu k) : KB_balerref10_Codes lf d (evC lf d) fu k again (kcB_balerref10_Codes lf d fu k) = kcB_balerref10_Codes lf d fu k := by
  subst ha
  unfold KB_balerref10_Codes
  refine Eq.trans (kEx_eq ?_) ?_
  · exact (runCur_eq _ _ _ (by intro y0 y2 y3 y4 y5 y12 y15 y16 y17 y18; show _ = _; (try simp only [clash3_eq, insB_eq, q_add_eq (P := Tryz.prog) nf3]); kernel_rfl))
  rfl
theorem LQC_balerref10_Codes (lf d : Nat) (k : Ex → Fr → M Value) : ∀ fu : Nat, LC_balerref10_Codes lf d (evC lf d) k fu = lpC_balerref10_Codes lf d fu k
  | 0 => by funext x0 x2 x3 x4 x5 x6 x7 x12 x15 x16 x17 x18 x24 x26 x27 x28; kernel_rfl
  | fu + 1 => by
    have ih := LQC_balerref10_Codes lf d k fu
    funext x0 x2 x3 x4 x5 x6 x7 x12 x15 x16 x17 x18 x24 x26 x27 x28; simp only [LC_balerref10_Codes, ih, clash3_eq, insB_eq, qS_add_eq (P := Tryz.prog) nf9, q_add_eq (P := Tryz.prog) nf3, q_lss_eq (P := Tryz.prog) nf3]; kernel_rfl
set_option maxRecDepth 20000 in
theorem KQC_balerref10_Codes (lf d fu : Nat) (k : Ex → Fr → M Value) (again : Value → Value → Value → Value → Value → Value → Value → Value → Value → M Value) (ha : again = lpB_balerref10_Codes lf d fu k) : KC_balerref10_Codes lf d (evC lf d) fu k again (kcC_balerref10_Codes lf d fu k) = kcC_balerref10_Codes lf d fu k := by
  subst ha
  unfold KC_balerref10_Codes
  refine Eq.trans (kEx_eq ?_) ?_
  · exact (runCur_eq _ _ _ (by intro y0 y2 y3 y4 y5 y6 y7 y12 y15 y16 y17 y18 y24 y26 y27 y28 y29; show _ = _; (try simp only [clash3_eq, evIA3_eq (P := Tryz.prog) Tryz.underlying24 gs9, evStore3_eq (P := Tryz.prog) gs9, insB_eq, q_add_eq (P := Tryz.prog) nf3]); kernel_rfl))
  rfl
theorem LQB_balerref10_Codes (lf d : Nat) (k : Ex → Fr → M Value) : ∀ fu : Nat, LB_balerref10_Codes lf d (evC lf d) k fu = lpB_balerref10_Codes lf d fu k
  | 0 => by funext x0 x2 x3 x4 x5 x12 x15 x16 x17; kernel_rfl
  | fu + 1 => by
    have ih := LQB_balerref10_Codes lf d k fu
    funext x0 x2 x3 x4 x5 x12 x15 x16 x17; simp only [LB_balerref10_Codes, ih, KQC_balerref10_Codes lf d fu k _ rfl, LQC_balerref10_Codes, clash3_eq, evIA3_eq (P := Tryz.prog) Tryz.underlying24 gs9, evIA3_eq (P := Tryz.prog) Tryz.underlying91 gs3, evLoad3_eq (P := Tryz.prog) ga3, evStore3_eq (P := Tryz.prog) gs9, insB_eq, qS_eql_eq (P := Tryz.prog) nf9, q_add_eq (P := Tryz.prog) nf3, q_lss_eq (P := Tryz.prog) nf3, q_neq_eq (P := Tryz.prog) nf3]; kernel_rfl
theorem LQA_balerref10_Codes (lf d : Nat) (k : Ex → Fr → M Value) : ∀ fu : Nat, LA_balerref10_Codes lf d (evC lf d) k fu = lpA_balerref10_Codes lf d fu k
  | 0 => by funext x0 x2 x3 x4 x5; kernel_rfl
  | fu + 1 => by
    have ih := LQA_balerref10_Codes lf d k fu
    funext x0 x2 x3 x4 x5; simp only [LA_balerref10_Codes, ih, KQB_balerref10_Codes lf d fu k _ rfl, LQB_balerref10_Codes, clash3_eq, insB_eq, q_leq_eq (P := Tryz.prog) nf3]; kernel_rfl
theorem fsh_balerref10_Codes (lf d : Nat) (a0 : Value) : inside (F_balerref10_Codes lf d (evC lf d) a0) = evC lf (d + 1) 127 #[a0] := by
  unfold F_balerref10_Codes; (try simp only [KQA_balerref10_Codes lf d, LQA_balerref10_Codes, clash3_eq, evMake3_eq, insB_eq]); kernel_rfl

/- balerref02_Bits -/
noncomputable def lpA_balerref02_Bits (lf d fu : Nat) (k : Ex → Fr → M Value) (x0 : Value) (x2 : Value) (x3 : Value) : M Value := loopK (fun s1 k1 => codeK Tryz.prog (evC lf d) (gtA 128) lf (codeAt (bodyOf Tryz.prog 128) [true, false, true, false, false]) s1 k1) [0, 2, 3] fu [(0, x0), (2, x2), (3, x3)] k
noncomputable def kcA_balerref02_Bits (lf d : Nat) : Ex → Fr → M Value := contAt Tryz.prog (evC lf d) (gtA 128) lf (bodyOf Tryz.prog 128) [true, false, true, false] (endK Tryz.prog (resOf Tryz.prog 128))
noncomputable def LA_balerref02_Bits (lf d : Nat) (rec : FuncId → Array Value → M Value) (k : Ex → Fr → M Value) : Nat → Value → Value → Value → M Value
 | 0, _, _, _ => M.fail
 | fu + 1, x0, x2, x3 =>
 optK (q_lss Tryz.prog 3 x3 (Value.int .i64 8)) fun v4n1 =>
 ifV v4n1 (
 optK (q_geq Tryz.prog 62 x0 (Value.int .u32 2147483648)) fun v6n2 =>
 ifV v6n2 (
 optK (q_sub Tryz.prog 62 x0 (Value.int .u32 2147483648)) fun v8n3 =>
 optK (q_mul Tryz.prog 62 v8n3 (Value.int .u32 2)) fun v9n4 =>
 optK (q_xor Tryz.prog 62 v9n4 (Value.int .u32 79764919)) fun v10n5 =>
 optK (q_add Tryz.prog 3 x3 (Value.int .i64 1)) fun v13n6 =>
 LA_balerref02_Bits lf d rec k fu v10n5 x2 v13n6) (
 optK (q_mul Tryz.prog 62 x0 (Value.int .u32 2)) fun v12n7 =>
 optK (q_add Tryz.prog 3 x3 (Value.int .i64 1)) fun v13n8 =>
 LA_balerref02_Bits lf d rec k fu v12n7 x2 v13n8)) (
 k (Ex.exit 0) [(0, x0), (2, x2), (3, x3), (4, v4n1)])
noncomputable def KA_balerref02_Bits (lf d : Nat) (rec : FuncId → Array Value → M Value) (dflt : Ex → Fr → M Value) : Ex → Fr → M Value := (kEx 0 (runCur [0, 2, 3, 4] (fun y0 y2 y3 y4 =>
 outK [y0]) (dflt (Ex.exit 0))) dflt)
noncomputable def F_balerref02_Bits (lf d : Nat) (rec : FuncId → Array Value → M Value) (a0 : Value) : M Value :=
 LA_balerref02_Bits lf d rec (KA_balerref02_Bits lf d rec (kcA_balerref02_Bits lf d)) lf a0 (Value.int .u32 0) (Value.int .i64 0)
theorem LQA_balerref02_Bits (lf d : Nat) (k : Ex → Fr → M Value) : ∀ fu : Nat, LA_balerref02_Bits lf d (evC lf d) k fu = lpA_balerref02_Bits lf d fu k
  | 0 => by funext x0 x2 x3; kernel_rfl
  | fu + 1 => by
    have ih := LQA_balerref02_Bits lf d k fu
    funext x0 x2 x3; simp only [LA_balerref02_Bits, ih, clash3_eq, insB_eq, q_add_eq (P := Tryz.prog) nf3, q_geq_eq (P := Tryz.prog) nf62, q_lss_eq (P := Tryz.prog) nf3, q_mul_eq (P := Tryz.prog) nf62, q_sub_eq (P := Tryz.prog) nf62, q_xor_eq (P := Tryz.prog) nf62]; kernel_rfl
set_option maxRecDepth 20000 in
theorem KQA_balerref02_Bits (lf d : Nat) : KA_balerref02_Bits lf d (evC lf d) (kcA_balerref02_Bits lf d) = kcA_balerref02_Bits lf d := by
  unfold KA_balerref02_Bits
  refine Eq.trans (kEx_eq ?_) ?_
  · exact (runCur_eq _ _ _ (by intro y0 y2 y3 y4; show _ = _; (try simp only [clash3_eq, insB_eq]); kernel_rfl))
  rfl
theorem fsh_balerref02_Bits (lf d : Nat) (a0 : Value) : inside (F_balerref02_Bits lf d (evC lf d) a0) = evC lf (d + 1) 128 #[a0] := by
  unfold F_balerref02_Bits; (try simp only [KQA_balerref02_Bits lf d, LQA_balerref02_Bits, clash3_eq, insB_eq]); kernel_rfl

/- slices_Clone_int_int -/
noncomputable def F_slices_Clone_int_int (lf d : Nat) (rec : FuncId → Array Value → M Value) (a0 : Value) : M Value :=
 optK (bin2 Tryz.prog .eql 91 a0 (Value.slice none 0 0)) fun v4n1 =>
 ifV v4n1 (
 outK [(Value.slice none 0 0)]) (
 insB (evBS3 Tryz.prog 91 0 []) fun v5n2 =>
 insB (evAppend3 Tryz.prog 91 v5n2 a0) fun v7n3 =>
 outK [v7n3])
theorem fsh_slices_Clone_int_int (lf d : Nat) (a0 : Value) : inside (F_slices_Clone_int_int lf d (evC lf d) a0) = evC lf (d + 1) 129 #[a0] := by
  unfold F_slices_Clone_int_int; (try simp only [clash3_eq, evAppend3_eq, evBS3_eq, insB_eq]); kernel_rfl

/- unbwt_Inverter_begins -/
noncomputable def lpA_unbwt_Inverter_begins (lf d fu : Nat) (k : Ex → Fr → M Value) (x0 : Value) (x2 : Value) (x8 : Value) (x9 : Value) : M Value := loopK (fun s1 k1 => codeK Tryz.prog (evC lf d) (gtA 130) lf (codeAt (bodyOf Tryz.prog 130) [true, true, false, false]) s1 k1) [0, 2, 8, 9] fu [(0, x0), (2, x2), (8, x8), (9, x9)] k
noncomputable def kcA_unbwt_Inverter_begins (lf d : Nat) : Ex → Fr → M Value := contAt Tryz.prog (evC lf d) (gtA 130) lf (bodyOf Tryz.prog 130) [true, true, false] (endK Tryz.prog (resOf Tryz.prog 130))
noncomputable def LA_unbwt_Inverter_begins (lf d : Nat) (rec : FuncId → Array Value → M Value) (k : Ex → Fr → M Value) : Nat → Value → Value → Value → Value → M Value
 | 0, _, _, _, _ => M.fail
 | fu + 1, x0, x2, x8, x9 =>
 optK (q_lss Tryz.prog 3 x9 (Value.int .i64 256)) fun v10n4 =>
 ifV v10n4 (
 optK (index2 Tryz.prog 90 x8 x9) fun v12n5 =>
 optK (nil2 x0) fun v16n6 =>
 optK (evFA3 Tryz.prog 93 1 v16n6 1) fun v17n7 =>
 optK (evIAP3 Tryz.prog 90 256 1 v17n7 x9) fun v18n8 =>
 insB (evStore3 Tryz.prog 3 v18n8 x2) fun u9 =>
 optK (q_add Tryz.prog 3 x2 v12n5) fun v21n10 =>
 optK (q_add Tryz.prog 3 x9 (Value.int .i64 1)) fun v22n11 =>
 LA_unbwt_Inverter_begins lf d rec k fu x0 v21n10 x8 v22n11) (
 k (Ex.exit 0) [(0, x0), (2, x2), (8, x8), (9, x9), (10, v10n4)])
noncomputable def KA_unbwt_Inverter_begins (lf d : Nat) (rec : FuncId → Array Value → M Value) (dflt : Ex → Fr → M Value) : Ex → Fr → M Value := (kEx 0 (runCur [0, 2, 8, 9, 10] (fun y0 y2 y8 y9 y10 =>
 outK []) (dflt (Ex.exit 0))) dflt)
noncomputable def F_unbwt_Inverter_begins (lf d : Nat) (rec : FuncId → Array Value → M Value) (a0 : Value) : M Value :=
 optK (nil2 a0) fun v6n1 =>
 optK (evFA3 Tryz.prog 93 1 v6n1 1) fun v7n2 =>
 insB (evLoadA3 Tryz.prog 90 256 v7n2) fun v8n3 =>
 LA_unbwt_Inverter_begins lf d rec (KA_unbwt_Inverter_begins lf d rec (kcA_unbwt_Inverter_begins lf d)) lf a0 (Value.int .i64 0) v8n3 (Value.int .i64 0)
theorem LQA_unbwt_Inverter_begins (lf d : Nat) (k : Ex → Fr → M Value) : ∀ fu : Nat, LA_unbwt_Inverter_begins lf d (evC lf d) k fu = lpA_unbwt_Inverter_begins lf d fu k
  | 0 => by funext x0 x2 x8 x9; kernel_rfl
  | fu + 1 => by
    have ih := LQA_unbwt_Inverter_begins lf d k fu
    funext x0 x2 x8 x9; simp only [LA_unbwt_Inverter_begins, ih, clash3_eq, evFA3_eq (P := Tryz.prog) gf93f1, evIAP3_eq (P := Tryz.prog) Tryz.underlying90 gs3, evStore3_eq (P := Tryz.prog) gs3, insB_eq, q_add_eq (P := Tryz.prog) nf3, q_lss_eq (P := Tryz.prog) nf3]; kernel_rfl
set_option maxRecDepth 20000 in
theorem KQA_unbwt_Inverter_begins (lf d : Nat) : KA_unbwt_Inverter_begins lf d (evC lf d) (kcA_unbwt_Inverter_begins lf d) = kcA_unbwt_Inverter_begins lf d := by
  unfold KA_unbwt_Inverter_begins
  refine Eq.trans (kEx_eq ?_) ?_
  · exact (runCur_eq _ _ _ (by intro y0 y2 y8 y9 y10; show _ = _; (try simp only [clash3_eq, insB_eq]); kernel_rfl))
  rfl
theorem fsh_unbwt_Inverter_begins (lf d : Nat) (a0 : Value) : inside (F_unbwt_Inverter_begins lf d (evC lf d) a0) = evC lf (d + 1) 130 #[a0] := by
  unfold F_unbwt_Inverter_begins; (try simp only [KQA_unbwt_Inverter_begins lf d, LQA_unbwt_Inverter_begins, clash3_eq, evFA3_eq (P := Tryz.prog) gf93f1, evLoadA3_eq (P := Tryz.prog) ga90 gs90, insB_eq]); kernel_rfl

/- crc_step -/
noncomputable def F_crc_step (lf d : Nat) (rec : FuncId → Array Value → M Value) (a0 : Value) (a1 : Value) (a2 : Value) : M Value :=
 optK (q_shl Tryz.prog 62 a1 (Value.int .u64 8)) fun v8n1 =>
 optK (q_shr Tryz.prog 62 a1 (Value.int .u64 24)) fun v11n2 =>
 conv3 Tryz.prog 62 5 .u32 .u8 v11n2 fun v12n3 =>
 optK (q_xor Tryz.prog 5 v12n3 a2) fun v14n4 =>
 optK (nil2 a0) fun v15n5 =>
 optK (evIAP3 Tryz.prog 150 256 1 v15n5 v14n4) fun v16n6 =>
 insB (evLoad3 Tryz.prog 62 v16n6) fun v17n7 =>
 optK (q_xor Tryz.prog 62 v8n1 v17n7) fun v18n8 =>
 outK [v18n8]
theorem fsh_crc_step (lf d : Nat) (a0 : Value) (a1 : Value) (a2 : Value) : inside (F_crc_step lf d (evC lf d) a0 a1 a2) = evC lf (d + 1) 137 #[a0, a1, a2] := by
  unfold F_crc_step; (try simp only [clash3_eq, conv3_eq cw62x5, evIAP3_eq (P := Tryz.prog) Tryz.underlying150 gs62, evLoad3_eq (P := Tryz.prog) ga62, insB_eq, q_shl_eq (P := Tryz.prog) nf62, q_shr_eq (P := Tryz.prog) nf62, q_xor_eq (P := Tryz.prog) nf5, q_xor_eq (P := Tryz.prog) nf62]); kernel_rfl

/- bits_Reader_Get -/
noncomputable def lpA_bits_Reader_Get (lf d fu : Nat) (k : Ex → Fr → M Value) (x0 : Value) (x1 : Value) (x4 : Value) (x5 : Value) (x6 : Value) (x7 : Value) (x10 : Value) (x17 : Value) (x22 : Value) (x23 : Value) : M Value := loopK (fun s1 k1 => codeK Tryz.prog (evC lf d) (gtA 138) lf (codeAt (bodyOf Tryz.prog 138) [true, true, true, false, true, false, false]) s1 k1) [0, 1, 4, 5, 6, 7, 10, 17, 22, 23] fu [(0, x0), (1, x1), (4, x4), (5, x5), (6, x6), (7, x7), (10, x10), (17, x17), (22, x22), (23, x23)] k
noncomputable def kcA_bits_Reader_Get (lf d : Nat) : Ex → Fr → M Value := contAt Tryz.prog (evC lf d) (gtA 138) lf (bodyOf Tryz.prog 138) [true, true, true, false, true, false] (endK Tryz.prog (resOf Tryz.prog 138))
noncomputable def LA_bits_Reader_Get (lf d : Nat) (rec : FuncId → Array Value → M Value) (k : Ex → Fr → M Value) : Nat → Value → Value → Value → Value → Value → Value → Value → Value → Value → Value → M Value
 | 0, _, _, _, _, _, _, _, _, _, _ => M.fail
 | fu + 1, x0, x1, x4, x5, x6, x7, x10, x17, x22, x23 =>
 optK (q_lss Tryz.prog 3 x23 x22) fun v24n6 =>
 ifV v24n6 (
 optK (q_shl Tryz.prog 62 x6 (Value.int .u64 1)) fun v26n7 =>
 optK (nil2 x0) fun v29n8 =>
 optK (evFA3 Tryz.prog 89 2 v29n8 2) fun v30n9 =>
 insB (evLoad3 Tryz.prog 3 v30n9) fun v31n10 =>
 (inside (rec 156 #[x0, v31n10])).bind fun v32n11 =>
 optK (q_or Tryz.prog 62 v26n7 v32n11) fun v33n12 =>
 optK (nil2 x0) fun v35n13 =>
 optK (evFA3 Tryz.prog 89 2 v35n13 2) fun v36n14 =>
 insB (evLoad3 Tryz.prog 3 v36n14) fun v37n15 =>
 optK (q_add Tryz.prog 3 v37n15 (Value.int .i64 1)) fun v38n16 =>
 optK (nil2 x0) fun v39n17 =>
 optK (evFA3 Tryz.prog 89 2 v39n17 2) fun v40n18 =>
 insB (evStore3 Tryz.prog 3 v40n18 v38n16) fun u19 =>
 optK (q_add Tryz.prog 3 x23 (Value.int .i64 1)) fun v41n20 =>
 LA_bits_Reader_Get lf d rec k fu x0 x1 x4 x5 v33n12 x7 x10 x17 x22 v41n20) (
 k (Ex.exit 1) [(0, x0), (1, x1), (4, x4), (5, x5), (6, x6), (7, x7), (10, x10), (17, x17), (22, x22), (23, x23), (24, v24n6)])
noncomputable def KA_bits_Reader_Get (lf d : Nat) (rec : FuncId → Array Value → M Value) (dflt : Ex → Fr → M Value) : Ex → Fr → M Value := (kEx 1 (runCur [0, 1, 4, 5, 6, 7, 10, 17, 22, 23, 24] (fun y0 y1 y4 y5 y6 y7 y10 y17 y22 y23 y24 =>
 outK [y6, (Value.int .i64 0)]) (dflt (Ex.exit 1))) dflt)
noncomputable def F_bits_Reader_Get (lf d : Nat) (rec : FuncId → Array Value → M Value) (a0 : Value) (a1 : Value) : M Value :=
 optK (qP_eql Tryz.prog 55 a0 (Value.pointer none)) fun v9n1 =>
 ifV v9n1 (
 outK [(Value.int .u32 0), (Value.int .i64 7)]) (
 optK (q_lss Tryz.prog 3 a1 (Value.int .i64 0)) fun v12n2 =>
 ifV v12n2 (
 outK [(Value.int .u32 0), (Value.int .i64 1)]) (
 optK (q_gtr Tryz.prog 3 a1 (Value.int .i64 32)) fun v15n3 =>
 ifV v15n3 (
 outK [(Value.int .u32 0), (Value.int .i64 1)]) (
 (inside (rec 68 #[a0])).bind fun v19n4 =>
 optK (q_lss Tryz.prog 3 v19n4 a1) fun v21n5 =>
 ifV v21n5 (
 outK [(Value.int .u32 0), (Value.int .i64 3)]) (
 LA_bits_Reader_Get lf d rec (KA_bits_Reader_Get lf d rec (kcA_bits_Reader_Get lf d)) lf a0 a1 (Value.int .u32 0) (Value.int .i64 0) (Value.int .u32 0) v9n1 v15n3 v21n5 a1 (Value.int .i64 0)))))
theorem LQA_bits_Reader_Get (lf d : Nat) (k : Ex → Fr → M Value) : ∀ fu : Nat, LA_bits_Reader_Get lf d (evC lf d) k fu = lpA_bits_Reader_Get lf d fu k
  | 0 => by funext x0 x1 x4 x5 x6 x7 x10 x17 x22 x23; kernel_rfl
  | fu + 1 => by
    have ih := LQA_bits_Reader_Get lf d k fu
    funext x0 x1 x4 x5 x6 x7 x10 x17 x22 x23; simp only [LA_bits_Reader_Get, ih, clash3_eq, evFA3_eq (P := Tryz.prog) gf89f2, evLoad3_eq (P := Tryz.prog) ga3, evStore3_eq (P := Tryz.prog) gs3, insB_eq, q_add_eq (P := Tryz.prog) nf3, q_lss_eq (P := Tryz.prog) nf3, q_or_eq (P := Tryz.prog) nf62, q_shl_eq (P := Tryz.prog) nf62]; kernel_rfl
set_option maxRecDepth 20000 in
theorem KQA_bits_Reader_Get (lf d : Nat) : KA_bits_Reader_Get lf d (evC lf d) (kcA_bits_Reader_Get lf d) = kcA_bits_Reader_Get lf d := by
  unfold KA_bits_Reader_Get
  refine Eq.trans (kEx_eq ?_) ?_
  · exact (runCur_eq _ _ _ (by intro y0 y1 y4 y5 y6 y7 y10 y17 y22 y23 y24; show _ = _; (try simp only [clash3_eq, insB_eq]); kernel_rfl))
  rfl
theorem fsh_bits_Reader_Get (lf d : Nat) (a0 : Value) (a1 : Value) : inside (F_bits_Reader_Get lf d (evC lf d) a0 a1) = evC lf (d + 1) 138 #[a0, a1] := by
  unfold F_bits_Reader_Get; (try simp only [KQA_bits_Reader_Get lf d, LQA_bits_Reader_Get, clash3_eq, insB_eq, qP_eql_eq (P := Tryz.prog) Tryz.underlying55, q_gtr_eq (P := Tryz.prog) nf3, q_lss_eq (P := Tryz.prog) nf3]); kernel_rfl

/- block_NewReader -/
noncomputable def F_block_NewReader (lf d : Nat) (rec : FuncId → Array Value → M Value) (a0 : Value) : M Value :=
 optK (q_lss Tryz.prog 3 a0 (Value.int .i64 5)) fun v5n1 =>
 ifV v5n1 (
 outK [(Value.pointer none), (Value.int .i64 1)]) (
 optK (q_gtr Tryz.prog 3 a0 (Value.int .i64 900000)) fun v8n2 =>
 ifV v8n2 (
 outK [(Value.pointer none), (Value.int .i64 1)]) (
 insB (evBuildZ Tryz.prog 118 [Value.pointer none, Value.int .i64 0, Value.bool false, Value.int .u32 0, Value.int .i64 0, Value.slice none 0 0, Value.bool false, Value.int .i64 0] [(1, a0)]) fun v11n3 =>
 insB (evBox3 Tryz.prog 118 v11n3) fun v12n4 =>
 outK [v12n4, (Value.int .i64 0)]))
theorem fsh_block_NewReader (lf d : Nat) (a0 : Value) : inside (F_block_NewReader lf d (evC lf d) a0) = evC lf (d + 1) 139 #[a0] := by
  unfold F_block_NewReader; (try simp only [bz118, clash3_eq, evBox3_eq, insB_eq, q_gtr_eq (P := Tryz.prog) nf3, q_lss_eq (P := Tryz.prog) nf3]); kernel_rfl

/- block_Reader_Step -/
noncomputable def F_block_Reader_Step (lf d : Nat) (rec : FuncId → Array Value → M Value) (a0 : Value) (a1 : Value) : M Value :=
 optK (qP_eql Tryz.prog 85 a0 (Value.pointer none)) fun v8n1 =>
 ifV v8n1 (
 outK [(Value.int .i64 7)]) (
 optK (qP_eql Tryz.prog 55 a1 (Value.pointer none)) fun v11n2 =>
 ifV v11n2 (
 outK [(Value.int .i64 7)]) (
 optK (nil2 a0) fun v15n3 =>
 optK (evFA3 Tryz.prog 118 6 v15n3 6) fun v16n4 =>
 insB (evLoad3 Tryz.prog 4 v16n4) fun v17n5 =>
 ifV v17n5 (
 outK [(Value.int .i64 7)]) (
 optK (nil2 a0) fun v21n6 =>
 optK (evFA3 Tryz.prog 118 7 v21n6 7) fun v22n7 =>
 insB (evLoad3 Tryz.prog 27 v22n7) fun v23n8 =>
 optK (q_neq Tryz.prog 27 v23n8 (Value.int .i64 0)) fun v24n9 =>
 ifV v24n9 (
 optK (nil2 a0) fun v26n10 =>
 optK (evFA3 Tryz.prog 118 7 v26n10 7) fun v27n11 =>
 insB (evLoad3 Tryz.prog 27 v27n11) fun v28n12 =>
 outK [v28n12]) (
 (inside (rec 157 #[a0, a1])).bind fun v31n13 =>
 optK (q_neq Tryz.prog 27 v31n13 (Value.int .i64 3)) fun v33n14 =>
 ifV v33n14 (
 optK (nil2 a0) fun v36n15 =>
 optK (evFA3 Tryz.prog 118 7 v36n15 7) fun v37n16 =>
 insB (evStore3 Tryz.prog 27 v37n16 v31n13) fun u17 =>
 outK [v31n13]) (
 outK [v31n13])))))
theorem fsh_block_Reader_Step (lf d : Nat) (a0 : Value) (a1 : Value) : inside (F_block_Reader_Step lf d (evC lf d) a0 a1) = evC lf (d + 1) 140 #[a0, a1] := by
  unfold F_block_Reader_Step; (try simp only [clash3_eq, evFA3_eq (P := Tryz.prog) gf118f6, evFA3_eq (P := Tryz.prog) gf118f7, evLoad3_eq (P := Tryz.prog) ga27, evLoad3_eq (P := Tryz.prog) ga4, evStore3_eq (P := Tryz.prog) gs27, insB_eq, qP_eql_eq (P := Tryz.prog) Tryz.underlying55, qP_eql_eq (P := Tryz.prog) Tryz.underlying85, q_neq_eq (P := Tryz.prog) nf27]); kernel_rfl

/- block_Reader_Done -/
noncomputable def F_block_Reader_Done (lf d : Nat) (rec : FuncId → Array Value → M Value) (a0 : Value) : M Value :=
 optK (qP_neq Tryz.prog 85 a0 (Value.pointer none)) fun v4n1 =>
 ifV v4n1 (
 optK (nil2 a0) fun v7n2 =>
 optK (evFA3 Tryz.prog 118 6 v7n2 6) fun v8n3 =>
 insB (evLoad3 Tryz.prog 4 v8n3) fun v9n4 =>
 outK [v9n4]) (
 outK [(Value.bool false)])
theorem fsh_block_Reader_Done (lf d : Nat) (a0 : Value) : inside (F_block_Reader_Done lf d (evC lf d) a0) = evC lf (d + 1) 141 #[a0] := by
  unfold F_block_Reader_Done; (try simp only [clash3_eq, evFA3_eq (P := Tryz.prog) gf118f6, evLoad3_eq (P := Tryz.prog) ga4, insB_eq, qP_neq_eq (P := Tryz.prog) Tryz.underlying85]); kernel_rfl

/- block_Reader_Got -/
noncomputable def F_block_Reader_Got (lf d : Nat) (rec : FuncId → Array Value → M Value) (a0 : Value) : M Value :=
 insB (evAllocZ 64 [Value.string ⟨⟨[]⟩⟩, Value.int .i64 0, Value.int .u32 0]) fun v2n1 =>
 (inside (rec 141 #[a0])).bind fun v4n2 =>
 optK (un3 Tryz.prog .not v4n2) fun v5n3 =>
 ifV v5n3 (
 insB (evBuildZ Tryz.prog 64 [Value.string ⟨⟨[]⟩⟩, Value.int .i64 0, Value.int .u32 0] []) fun v6n4 =>
 insB (evStoreA3 Tryz.prog 64 3 v2n1 v6n4) fun u5 =>
 (evLoad Tryz.prog 64 v2n1).bind fun vrn6 =>
 outK [vrn6]) (
 optK (nil2 a0) fun v8n7 =>
 optK (evFA3 Tryz.prog 118 5 v8n7 5) fun v9n8 =>
 (timed (
 insB (evLoad3 Tryz.prog 58 v9n8) fun v10n10 => M.ret v10n10)).bind fun vtn9 =>
 (timed (
 insB (evToStr3 vtn9.1) fun v11n12 => M.ret v11n12)).bind fun vtn11 =>
 optK (nil2 a0) fun v13n13 =>
 optK (evFA3 Tryz.prog 118 4 v13n13 4) fun v14n14 =>
 (timed (
 insB (evLoad3 Tryz.prog 3 v14n14) fun v15n16 => M.ret v15n16)).bind fun vtn15 =>
 optK (nil2 a0) fun v17n17 =>
 optK (evFA3 Tryz.prog 118 3 v17n17 3) fun v18n18 =>
 (timed (
 insB (evLoad3 Tryz.prog 62 v18n18) fun v19n20 => M.ret v19n20)).bind fun vtn19 =>
 insB (evBuildZ Tryz.prog 64 [Value.string ⟨⟨[]⟩⟩, Value.int .i64 0, Value.int .u32 0] [(0, vtn11.1), (1, vtn15.1), (2, vtn19.1)]) fun v20n21 =>
 (timed (
 insB (evStoreA3 Tryz.prog 64 3 v2n1 v20n21) fun u23 => M.ret u23)).bind fun vtn22 =>
 chkT ((!(clash3 vtn11.2 vtn15.2) && (!(clash3 vtn11.2 vtn19.2) && true)) && true) (
 (evLoad Tryz.prog 64 v2n1).bind fun vrn24 =>
 outK [vrn24]))
theorem fsh_block_Reader_Got (lf d : Nat) (a0 : Value) : inside (F_block_Reader_Got lf d (evC lf d) a0) = evC lf (d + 1) 142 #[a0] := by
  unfold F_block_Reader_Got; (try simp only [az64, bz64, clash3_eq, evFA3_eq (P := Tryz.prog) gf118f3, evFA3_eq (P := Tryz.prog) gf118f4, evFA3_eq (P := Tryz.prog) gf118f5, evLoad3_eq (P := Tryz.prog) ga3, evLoad3_eq (P := Tryz.prog) ga58, evLoad3_eq (P := Tryz.prog) ga62, evStoreA3_eq (P := Tryz.prog) gs64, evToStr3_eq, insB_eq, un3_eq]); kernel_rfl

/- crc_Combine -/
noncomputable def F_crc_Combine (lf d : Nat) (rec : FuncId → Array Value → M Value) (a0 : Value) (a1 : Value) : M Value :=
 optK (q_shl Tryz.prog 62 a0 (Value.int .u64 1)) fun v6n1 =>
 optK (q_shr Tryz.prog 62 a0 (Value.int .u64 31)) fun v8n2 =>
 optK (q_xor Tryz.prog 62 v6n1 v8n2) fun v9n3 =>
 optK (q_xor Tryz.prog 62 v9n3 a1) fun v11n4 =>
 outK [v11n4]
theorem fsh_crc_Combine (lf d : Nat) (a0 : Value) (a1 : Value) : inside (F_crc_Combine lf d (evC lf d) a0 a1) = evC lf (d + 1) 143 #[a0, a1] := by
  unfold F_crc_Combine; (try simp only [clash3_eq, insB_eq, q_shl_eq (P := Tryz.prog) nf62, q_shr_eq (P := Tryz.prog) nf62, q_xor_eq (P := Tryz.prog) nf62]); kernel_rfl

/- bits_Reader_Align -/
noncomputable def lpA_bits_Reader_Align (lf d fu : Nat) (k : Ex → Fr → M Value) (x0 : Value) : M Value := loopK (fun s1 k1 => codeK Tryz.prog (evC lf d) (gtA 144) lf (codeAt (bodyOf Tryz.prog 144) [false, false]) s1 k1) [0] fu [(0, x0)] k
noncomputable def kcA_bits_Reader_Align (lf d : Nat) : Ex → Fr → M Value := contAt Tryz.prog (evC lf d) (gtA 144) lf (bodyOf Tryz.prog 144) [false] (endK Tryz.prog (resOf Tryz.prog 144))
noncomputable def LA_bits_Reader_Align (lf d : Nat) (rec : FuncId → Array Value → M Value) (k : Ex → Fr → M Value) : Nat → Value → M Value
 | 0, _ => M.fail
 | fu + 1, x0 =>
 optK (qP_neq Tryz.prog 55 x0 (Value.pointer none)) fun v3n1 =>
 ifV v3n1 (
 optK (nil2 x0) fun v6n2 =>
 optK (evFA3 Tryz.prog 89 2 v6n2 2) fun v7n3 =>
 insB (evLoad3 Tryz.prog 3 v7n3) fun v8n4 =>
 optK (q_rem Tryz.prog 3 v8n4 (Value.int .i64 8)) fun v9n5 =>
 optK (q_neq Tryz.prog 3 v9n5 (Value.int .i64 0)) fun v10n6 =>
 ifV v10n6 (
 optK (nil2 x0) fun v13n7 =>
 optK (evFA3 Tryz.prog 89 2 v13n7 2) fun v14n8 =>
 insB (evLoad3 Tryz.prog 3 v14n8) fun v15n9 =>
 optK (q_add Tryz.prog 3 v15n9 (Value.int .i64 1)) fun v16n10 =>
 optK (nil2 x0) fun v17n11 =>
 optK (evFA3 Tryz.prog 89 2 v17n11 2) fun v18n12 =>
 insB (evStore3 Tryz.prog 3 v18n12 v16n10) fun u13 =>
 LA_bits_Reader_Align lf d rec k fu x0) (
 k (Ex.exit 0) [(0, x0), (11, v10n6)])) (
 k (Ex.exit 0) [(0, x0), (11, (Value.bool false))])
noncomputable def KA_bits_Reader_Align (lf d : Nat) (rec : FuncId → Array Value → M Value) (dflt : Ex → Fr → M Value) : Ex → Fr → M Value := (kEx 0 (runCur [0, 11] (fun y0 y11 =>
 outK []) (dflt (Ex.exit 0))) dflt)
noncomputable def F_bits_Reader_Align (lf d : Nat) (rec : FuncId → Array Value → M Value) (a0 : Value) : M Value :=
 LA_bits_Reader_Align lf d rec (KA_bits_Reader_Align lf d rec (kcA_bits_Reader_Align lf d)) lf a0
theorem LQA_bits_Reader_Align (lf d : Nat) (k : Ex → Fr → M Value) : ∀ fu : Nat, LA_bits_Reader_Align lf d (evC lf d) k fu = lpA_bits_Reader_Align lf d fu k
  | 0 => by funext x0; kernel_rfl
  | fu + 1 => by
    have ih := LQA_bits_Reader_Align lf d k fu
    funext x0; simp only [LA_bits_Reader_Align, ih, clash3_eq, evFA3_eq (P := Tryz.prog) gf89f2, evLoad3_eq (P := Tryz.prog) ga3, evStore3_eq (P := Tryz.prog) gs3, insB_eq, qP_neq_eq (P := Tryz.prog) Tryz.underlying55, q_add_eq (P := Tryz.prog) nf3, q_neq_eq (P := Tryz.prog) nf3, q_rem_eq (P := Tryz.prog) nf3]; kernel_rfl
set_option maxRecDepth 20000 in
theorem KQA_bits_Reader_Align (lf d : Nat) : KA_bits_Reader_Align lf d (evC lf d) (kcA_bits_Reader_Align lf d) = kcA_bits_Reader_Align lf d := by
  unfold KA_bits_Reader_Align
  refine Eq.trans (kEx_eq ?_) ?_
  · exact (runCur_eq _ _ _ (by intro y0 y11; show _ = _; (try simp only [clash3_eq, insB_eq]); kernel_rfl))
  rfl
theorem fsh_bits_Reader_Align (lf d : Nat) (a0 : Value) : inside (F_bits_Reader_Align lf d (evC lf d) a0) = evC lf (d + 1) 144 #[a0] := by
  unfold F_bits_Reader_Align; (try simp only [KQA_bits_Reader_Align lf d, LQA_bits_Reader_Align, clash3_eq, insB_eq]); kernel_rfl

/- balerref12_First -/
noncomputable def lpA_balerref12_First (lf d fu : Nat) (k : Ex → Fr → M Value) (x0 : Value) (x1 : Value) (x4 : Value) (x5 : Value) (x6 : Value) (x14 : Value) (x15 : Value) : M Value := loopK (fun s1 k1 => codeK Tryz.prog (evC lf d) (gtA 145) lf (codeAt (bodyOf Tryz.prog 145) [true, true, true, false, true, false, false]) s1 k1) [0, 1, 4, 5, 6, 14, 15] fu [(0, x0), (1, x1), (4, x4), (5, x5), (6, x6), (14, x14), (15, x15)] k
noncomputable def kcA_balerref12_First (lf d : Nat) : Ex → Fr → M Value := contAt Tryz.prog (evC lf d) (gtA 145) lf (bodyOf Tryz.prog 145) [true, true, true, false, true, false] (endK Tryz.prog (resOf Tryz.prog 145))
noncomputable def lpB_balerref12_First (lf d fu : Nat) (k : Ex → Fr → M Value) (x0 : Value) (x1 : Value) (x4 : Value) (x5 : Value) (x6 : Value) (x7 : Value) (x8 : Value) (x9 : Value) (x14 : Value) (x15 : Value) (x16 : Value) (x18 : Value) (x19 : Value) (x20 : Value) : M Value := loopK (fun s1 k1 => codeK Tryz.prog (evC lf d) (gtA 145) lf (codeAt (bodyOf Tryz.prog 145) [true, true, true, false, true, false, false, true, true, false, false, true, true, true, false, true, false, false]) s1 k1) [0, 1, 4, 5, 6, 7, 8, 9, 14, 15, 16, 18, 19, 20] fu [(0, x0), (1, x1), (4, x4), (5, x5), (6, x6), (7, x7), (8, x8), (9, x9), (14, x14), (15, x15), (16, x16), (18, x18), (19, x19), (20, x20)] k
noncomputable def kcB_balerref12_First (lf d fu : Nat) (k : Ex → Fr → M Value) : Ex → Fr → M Value := contAt Tryz.prog (evC lf d) (gtA 145) lf (codeAt (bodyOf Tryz.prog 145) [true, true, true, false, true, false, false]) [true, true, false, false, true, true, true, false, true, false] (againK (fun s1 => loopK (fun s1 k1 => codeK Tryz.prog (evC lf d) (gtA 145) lf (codeAt (bodyOf Tryz.prog 145) [true, true, true, false, true, false, false]) s1 k1) [0, 1, 4, 5, 6, 14, 15] fu (s1.keep [0, 1, 4, 5, 6, 14, 15]) k) k)
noncomputable def KA_balerref12_First (lf d : Nat) (rec : FuncId → Array Value → M Value) (dflt : Ex → Fr → M Value) : Ex → Fr → M Value := (kEx 0 (runCur [0, 1, 4, 5, 6, 14, 15, 16] (fun y0 y1 y4 y5 y6 y14 y15 y16 =>
 outK [y6]) (dflt (Ex.exit 0))) dflt)
noncomputable def LB_balerref12_First (lf d : Nat) (rec : FuncId → Array Value → M Value) (k : Ex → Fr → M Value) : Nat → Value → Value → Value → Value → Value → Value → Value → Value → Value → Value → Value → Value → Value → Value → M Value
 | 0, _, _, _, _, _, _, _, _, _, _, _, _, _, _ => M.fail
 | fu + 1, x0, x1, x4, x5, x6, x7, x8, x9, x14, x15, x16, x18, x19, x20 =>
 optK (q_lss Tryz.prog 3 x20 x19) fun v21n4 =>
 ifV v21n4 (
 optK (evIA3 Tryz.prog 91 1 x18 x20) fun v22n5 =>
 insB (evLoad3 Tryz.prog 3 v22n5) fun v23n6 =>
 optK (q_sub Tryz.prog 3 x1 (Value.int .i64 1)) fun v26n7 =>
 optK (q_gtr Tryz.prog 3 x9 v26n7) fun v27n8 =>
 ifV v27n8 (
 optK (q_sub Tryz.prog 3 x1 (Value.int .i64 1)) fun v29n9 =>
 optK (q_mul Tryz.prog 3 v29n9 x5) fun v32n10 =>
 optK (q_quo Tryz.prog 3 v32n10 x1) fun v34n11 =>
 optK (q_eql Tryz.prog 3 v34n11 x7) fun v36n12 =>
 ifV v36n12 (
 insB (evBS3 Tryz.prog 91 1 [(0, (Value.int .i64 0))]) fun v38n13 =>
 insB (evAppend3 Tryz.prog 91 x8 v38n13) fun v39n14 =>
 optK (q_add Tryz.prog 3 v29n9 v23n6) fun v45n15 =>
 optK (q_add Tryz.prog 3 x20 (Value.int .i64 1)) fun v46n16 =>
 LB_balerref12_First lf d rec k fu x0 x1 x4 x5 x6 x7 v39n14 v45n15 x14 x15 x16 x18 x19 v46n16) (
 insB (evBS3 Tryz.prog 91 1 [(0, (Value.int .i64 15))]) fun v41n17 =>
 insB (evAppend3 Tryz.prog 91 x8 v41n17) fun v42n18 =>
 optK (q_add Tryz.prog 3 v29n9 v23n6) fun v45n19 =>
 optK (q_add Tryz.prog 3 x20 (Value.int .i64 1)) fun v46n20 =>
 LB_balerref12_First lf d rec k fu x0 x1 x4 x5 x6 x7 v42n18 v45n19 x14 x15 x16 x18 x19 v46n20)) (
 optK (q_mul Tryz.prog 3 x9 x5) fun v32n21 =>
 optK (q_quo Tryz.prog 3 v32n21 x1) fun v34n22 =>
 optK (q_eql Tryz.prog 3 v34n22 x7) fun v36n23 =>
 ifV v36n23 (
 insB (evBS3 Tryz.prog 91 1 [(0, (Value.int .i64 0))]) fun v38n24 =>
 insB (evAppend3 Tryz.prog 91 x8 v38n24) fun v39n25 =>
 optK (q_add Tryz.prog 3 x9 v23n6) fun v45n26 =>
 optK (q_add Tryz.prog 3 x20 (Value.int .i64 1)) fun v46n27 =>
 LB_balerref12_First lf d rec k fu x0 x1 x4 x5 x6 x7 v39n25 v45n26 x14 x15 x16 x18 x19 v46n27) (
 insB (evBS3 Tryz.prog 91 1 [(0, (Value.int .i64 15))]) fun v41n28 =>
 insB (evAppend3 Tryz.prog 91 x8 v41n28) fun v42n29 =>
 optK (q_add Tryz.prog 3 x9 v23n6) fun v45n30 =>
 optK (q_add Tryz.prog 3 x20 (Value.int .i64 1)) fun v46n31 =>
 LB_balerref12_First lf d rec k fu x0 x1 x4 x5 x6 x7 v42n29 v45n30 x14 x15 x16 x18 x19 v46n31))) (
 k (Ex.exit 2) [(0, x0), (1, x1), (4, x4), (5, x5), (6, x6), (7, x7), (8, x8), (9, x9), (14, x14), (15, x15), (16, x16), (18, x18), (19, x19), (20, x20), (21, v21n4)])
noncomputable def KB_balerref12_First (lf d : Nat) (rec : FuncId → Array Value → M Value) (fu : Nat) (k : Ex → Fr → M Value) (again : Value → Value → Value → Value → Value → Value → Value → M Value) (dflt : Ex → Fr → M Value) : Ex → Fr → M Value := (kEx 2 (runCur [0, 1, 4, 5, 6, 7, 8, 9, 14, 15, 16, 18, 19, 20, 21] (fun y0 y1 y4 y5 y6 y7 y8 y9 y14 y15 y16 y18 y19 y20 y21 =>
 insB (evBS3 Tryz.prog 158 1 [(0, y8)]) fun v49n32 =>
 insB (evAppend3 Tryz.prog 158 y6 v49n32) fun v50n33 =>
 optK (q_add Tryz.prog 3 y15 (Value.int .i64 1)) fun v51n34 =>
 again y0 y1 y4 y5 v50n33 y14 v51n34) (dflt (Ex.exit 2))) dflt)
noncomputable def LA_balerref12_First (lf d : Nat) (rec : FuncId → Array Value → M Value) (k : Ex → Fr → M Value) : Nat → Value → Value → Value → Value → Value → Value → Value → M Value
 | 0, _, _, _, _, _, _, _ => M.fail
 | fu + 1, x0, x1, x4, x5, x6, x14, x15 =>
 optK (q_lss Tryz.prog 3 x15 x14) fun v16n2 =>
 ifV v16n2 (
 optK (len2 Tryz.prog #[91] [x0]) fun v19n3 =>
 LB_balerref12_First lf d rec (KB_balerref12_First lf d rec fu k (LA_balerref12_First lf d rec k fu) (kcB_balerref12_First lf d fu k)) lf x0 x1 x4 x5 x6 x15 (Value.slice none 0 0) (Value.int .i64 0) x14 x15 v16n2 x0 v19n3 (Value.int .i64 0)) (
 k (Ex.exit 0) [(0, x0), (1, x1), (4, x4), (5, x5), (6, x6), (14, x14), (15, x15), (16, v16n2)])
noncomputable def F_balerref12_First (lf d : Nat) (rec : FuncId → Array Value → M Value) (a0 : Value) (a1 : Value) : M Value :=
 (inside (rec 158 #[a1])).bind fun v13n1 =>
 LA_balerref12_First lf d rec (KA_balerref12_First lf d rec (kcA_balerref12_First lf d)) lf a0 a1 (Value.slice none 0 0) v13n1 (Value.slice none 0 0) v13n1 (Value.int .i64 0)
set_option maxRecDepth 20000 in
theorem KQA_balerref12_First (lf d : Nat) : KA_balerref12_First lf d (evC lf d) (kcA_balerref12_First lf d) = kcA_balerref12_First lf d := by
  unfold KA_balerref12_First
  refine Eq.trans (kEx_eq ?_) ?_
  · exact (runCur_eq _ _ _ (by intro y0 y1 y4 y5 y6 y14 y15 y16; show _ = _; (try simp only [clash3_eq, insB_eq]); kernel_rfl))
  rfl
theorem LQB_balerref12_First (lf d : Nat) (k : Ex → Fr → M Value) : ∀ fu : Nat, LB_balerref12_First lf d (evC lf d) k fu = lpB_balerref12_First lf d fu k
  | 0 => by funext x0 x1 x4 x5 x6 x7 x8 x9 x14 x15 x16 x18 x19 x20; kernel_rfl
  | fu + 1 => by
    have ih := LQB_balerref12_First lf d k fu
    funext x0 x1 x4 x5 x6 x7 x8 x9 x14 x15 x16 x18 x19 x20; simp only [LB_balerref12_First, ih, clash3_eq, evAppend3_eq, evBS3_eq, evIA3_eq (P := Tryz.prog) Tryz.underlying91 gs3, evLoad3_eq (P := Tryz.prog) ga3, insB_eq, q_add_eq (P := Tryz.prog) nf3, q_eql_eq (P := Tryz.prog) nf3, q_gtr_eq (P := Tryz.prog) nf3, q_lss_eq (P := Tryz.prog) nf3, q_mul_eq (P := Tryz.prog) nf3, q_quo_eq (P := Tryz.prog) nf3, q_sub_eq (P := Tryz.prog) nf3]; kernel_rfl
set_option maxRecDepth 20000 in
theorem KQB_balerref12_First (lf d fu : Nat) (k : Ex → Fr → M Value) (again : Value → Value → Value → Value → Value → Value → Value → M Value) (ha : again = lpA_balerref12_First lf d fu k) : KB_balerref12_First lf d (evC lf d) fu k again (kcB_balerref12_First lf d fu k) = kcB_balerref12_First lf d fu k := by
  subst ha
  unfold KB_balerref12_First
  refine Eq.trans (kEx_eq ?_) ?_
  · exact (runCur_eq _ _ _ (by intro y0 y1 y4 y5 y6 y7 y8 y9 y14 y15 y16 y18 y19 y20 y21; show _ = _; (try simp only [clash3_eq, evAppend3_eq, evBS3_eq, insB_eq, q_add_eq (P := Tryz.prog) nf3]); kernel_rfl))
  rfl
theorem LQA_balerref12_First (lf d : Nat) (k : Ex → Fr → M Value) : ∀ fu : Nat, LA_balerref12_First lf d (evC lf d) k fu = lpA_balerref12_First lf d fu k
  | 0 => by funext x0 x1 x4 x5 x6 x14 x15; kernel_rfl
  | fu + 1 => by
    have ih := LQA_balerref12_First lf d k fu
    funext x0 x1 x4 x5 x6 x14 x15; simp only [LA_balerref12_First, ih, KQB_balerref12_First lf d fu k _ rfl, LQB_balerref12_First, clash3_eq, insB_eq, q_lss_eq (P := Tryz.prog) nf3]; kernel_rfl
theorem fsh_balerref12_First (lf d : Nat) (a0 : Value) (a1 : Value) : inside (F_balerref12_First lf d (evC lf d) a0 a1) = evC lf (d + 1) 145 #[a0, a1] := by
  unfold F_balerref12_First; (try simp only [KQA_balerref12_First lf d, LQA_balerref12_First, clash3_eq, insB_eq]); kernel_rfl

/- balerref08_Counts -/
noncomputable def lpA_balerref08_Counts (lf d fu : Nat) (k : Ex → Fr → M Value) (x0 : Value) (x1 : Value) (x4 : Value) (x5 : Value) (x7 : Value) (x8 : Value) : M Value := loopK (fun s1 k1 => codeK Tryz.prog (evC lf d) (gtA 146) lf (codeAt (bodyOf Tryz.prog 146) [true, true, false, true, false, false]) s1 k1) [0, 1, 4, 5, 7, 8] fu [(0, x0), (1, x1), (4, x4), (5, x5), (7, x7), (8, x8)] k
noncomputable def kcA_balerref08_Counts (lf d : Nat) : Ex → Fr → M Value := contAt Tryz.prog (evC lf d) (gtA 146) lf (bodyOf Tryz.prog 146) [true, true, false, true, false] (endK Tryz.prog (resOf Tryz.prog 146))
noncomputable def LA_balerref08_Counts (lf d : Nat) (rec : FuncId → Array Value → M Value) (k : Ex → Fr → M Value) : Nat → Value → Value → Value → Value → Value → Value → M Value
 | 0, _, _, _, _, _, _ => M.fail
 | fu + 1, x0, x1, x4, x5, x7, x8 =>
 optK (q_lss Tryz.prog 3 x8 x7) fun v9n1 =>
 ifV v9n1 (
 (inside (rec 159 #[x0, x8])).bind fun v14n2 =>
 insB (evBS3 Tryz.prog 91 1 [(0, v14n2)]) fun v15n3 =>
 insB (evAppend3 Tryz.prog 91 x5 v15n3) fun v16n4 =>
 optK (q_add Tryz.prog 3 x8 (Value.int .i64 1)) fun v17n5 =>
 LA_balerref08_Counts lf d rec k fu x0 x1 x4 v16n4 x7 v17n5) (
 k (Ex.exit 0) [(0, x0), (1, x1), (4, x4), (5, x5), (7, x7), (8, x8), (9, v9n1)])
noncomputable def KA_balerref08_Counts (lf d : Nat) (rec : FuncId → Array Value → M Value) (dflt : Ex → Fr → M Value) : Ex → Fr → M Value := (kEx 0 (runCur [0, 1, 4, 5, 7, 8, 9] (fun y0 y1 y4 y5 y7 y8 y9 =>
 outK [y5]) (dflt (Ex.exit 0))) dflt)
noncomputable def F_balerref08_Counts (lf d : Nat) (rec : FuncId → Array Value → M Value) (a0 : Value) (a1 : Value) : M Value :=
 LA_balerref08_Counts lf d rec (KA_balerref08_Counts lf d rec (kcA_balerref08_Counts lf d)) lf a0 a1 (Value.slice none 0 0) (Value.slice none 0 0) a1 (Value.int .i64 0)
theorem LQA_balerref08_Counts (lf d : Nat) (k : Ex → Fr → M Value) : ∀ fu : Nat, LA_balerref08_Counts lf d (evC lf d) k fu = lpA_balerref08_Counts lf d fu k
  | 0 => by funext x0 x1 x4 x5 x7 x8; kernel_rfl
  | fu + 1 => by
    have ih := LQA_balerref08_Counts lf d k fu
    funext x0 x1 x4 x5 x7 x8; simp only [LA_balerref08_Counts, ih, clash3_eq, evAppend3_eq, evBS3_eq, insB_eq, q_add_eq (P := Tryz.prog) nf3, q_lss_eq (P := Tryz.prog) nf3]; kernel_rfl
set_option maxRecDepth 20000 in
theorem KQA_balerref08_Counts (lf d : Nat) : KA_balerref08_Counts lf d (evC lf d) (kcA_balerref08_Counts lf d) = kcA_balerref08_Counts lf d := by
  unfold KA_balerref08_Counts
  refine Eq.trans (kEx_eq ?_) ?_
  · exact (runCur_eq _ _ _ (by intro y0 y1 y4 y5 y7 y8 y9; show _ = _; (try simp only [clash3_eq, insB_eq]); kernel_rfl))
  rfl
theorem fsh_balerref08_Counts (lf d : Nat) (a0 : Value) (a1 : Value) : inside (F_balerref08_Counts lf d (evC lf d) a0 a1) = evC lf (d + 1) 146 #[a0, a1] := by
  unfold F_balerref08_Counts; (try simp only [KQA_balerref08_Counts lf d, LQA_balerref08_Counts, clash3_eq, insB_eq]); kernel_rfl

/- balerref08_Groups -/
noncomputable def lpA_balerref08_Groups (lf d fu : Nat) (k : Ex → Fr → M Value) (x0 : Value) (x2 : Value) (x3 : Value) (x4 : Value) (x7 : Value) (x8 : Value) (x9 : Value) : M Value := loopK (fun s1 k1 => codeK Tryz.prog (evC lf d) (gtA 147) lf (codeAt (bodyOf Tryz.prog 147) [true, true, true, false, true, false, false]) s1 k1) [0, 2, 3, 4, 7, 8, 9] fu [(0, x0), (2, x2), (3, x3), (4, x4), (7, x7), (8, x8), (9, x9)] k
noncomputable def kcA_balerref08_Groups (lf d : Nat) : Ex → Fr → M Value := contAt Tryz.prog (evC lf d) (gtA 147) lf (bodyOf Tryz.prog 147) [true, true, true, false, true, false] (endK Tryz.prog (resOf Tryz.prog 147))
noncomputable def LA_balerref08_Groups (lf d : Nat) (rec : FuncId → Array Value → M Value) (k : Ex → Fr → M Value) : Nat → Value → Value → Value → Value → Value → Value → Value → M Value
 | 0, _, _, _, _, _, _, _ => M.fail
 | fu + 1, x0, x2, x3, x4, x7, x8, x9 =>
 optK (q_lss Tryz.prog 3 x9 x8) fun v10n2 =>
 ifV v10n2 (
 optK (evIA3 Tryz.prog 91 1 x7 x9) fun v12n3 =>
 insB (evLoad3 Tryz.prog 3 v12n3) fun v13n4 =>
 insB (evBS3 Tryz.prog 91 1 [(0, v13n4)]) fun v16n5 =>
 insB (evAppend3 Tryz.prog 91 x4 v16n5) fun v17n6 =>
 optK (len2 Tryz.prog #[91] [v17n6]) fun v19n7 =>
 optK (q_eql Tryz.prog 3 v19n7 (Value.int .i64 50)) fun v20n8 =>
 ifV v20n8 (
 insB (evBS3 Tryz.prog 158 1 [(0, v17n6)]) fun v30n9 =>
 insB (evAppend3 Tryz.prog 158 x3 v30n9) fun v31n10 =>
 optK (q_add Tryz.prog 3 x9 (Value.int .i64 1)) fun v32n11 =>
 LA_balerref08_Groups lf d rec k fu x0 x2 v31n10 (Value.slice none 0 0) x7 x8 v32n11) (
 optK (q_add Tryz.prog 3 x9 (Value.int .i64 1)) fun v23n12 =>
 optK (len2 Tryz.prog #[91] [x0]) fun v25n13 =>
 optK (q_eql Tryz.prog 3 v23n12 v25n13) fun v26n14 =>
 ifV v26n14 (
 insB (evBS3 Tryz.prog 158 1 [(0, v17n6)]) fun v30n15 =>
 insB (evAppend3 Tryz.prog 158 x3 v30n15) fun v31n16 =>
 optK (q_add Tryz.prog 3 x9 (Value.int .i64 1)) fun v32n17 =>
 LA_balerref08_Groups lf d rec k fu x0 x2 v31n16 (Value.slice none 0 0) x7 x8 v32n17) (
 optK (q_add Tryz.prog 3 x9 (Value.int .i64 1)) fun v32n18 =>
 LA_balerref08_Groups lf d rec k fu x0 x2 x3 v17n6 x7 x8 v32n18))) (
 k (Ex.exit 0) [(0, x0), (2, x2), (3, x3), (4, x4), (7, x7), (8, x8), (9, x9), (10, v10n2)])
noncomputable def KA_balerref08_Groups (lf d : Nat) (rec : FuncId → Array Value → M Value) (dflt : Ex → Fr → M Value) : Ex → Fr → M Value := (kEx 0 (runCur [0, 2, 3, 4, 7, 8, 9, 10] (fun y0 y2 y3 y4 y7 y8 y9 y10 =>
 outK [y3]) (dflt (Ex.exit 0))) dflt)
noncomputable def F_balerref08_Groups (lf d : Nat) (rec : FuncId → Array Value → M Value) (a0 : Value) : M Value :=
 optK (len2 Tryz.prog #[91] [a0]) fun v8n1 =>
 LA_balerref08_Groups lf d rec (KA_balerref08_Groups lf d rec (kcA_balerref08_Groups lf d)) lf a0 (Value.slice none 0 0) (Value.slice none 0 0) (Value.slice none 0 0) a0 v8n1 (Value.int .i64 0)
theorem LQA_balerref08_Groups (lf d : Nat) (k : Ex → Fr → M Value) : ∀ fu : Nat, LA_balerref08_Groups lf d (evC lf d) k fu = lpA_balerref08_Groups lf d fu k
  | 0 => by funext x0 x2 x3 x4 x7 x8 x9; kernel_rfl
  | fu + 1 => by
    have ih := LQA_balerref08_Groups lf d k fu
    funext x0 x2 x3 x4 x7 x8 x9; simp only [LA_balerref08_Groups, ih, clash3_eq, evAppend3_eq, evBS3_eq, evIA3_eq (P := Tryz.prog) Tryz.underlying91 gs3, evLoad3_eq (P := Tryz.prog) ga3, insB_eq, q_add_eq (P := Tryz.prog) nf3, q_eql_eq (P := Tryz.prog) nf3, q_lss_eq (P := Tryz.prog) nf3]; kernel_rfl
set_option maxRecDepth 20000 in
theorem KQA_balerref08_Groups (lf d : Nat) : KA_balerref08_Groups lf d (evC lf d) (kcA_balerref08_Groups lf d) = kcA_balerref08_Groups lf d := by
  unfold KA_balerref08_Groups
  refine Eq.trans (kEx_eq ?_) ?_
  · exact (runCur_eq _ _ _ (by intro y0 y2 y3 y4 y7 y8 y9 y10; show _ = _; (try simp only [clash3_eq, insB_eq]); kernel_rfl))
  rfl
theorem fsh_balerref08_Groups (lf d : Nat) (a0 : Value) : inside (F_balerref08_Groups lf d (evC lf d) a0) = evC lf (d + 1) 147 #[a0] := by
  unfold F_balerref08_Groups; (try simp only [KQA_balerref08_Groups lf d, LQA_balerref08_Groups, clash3_eq, insB_eq]); kernel_rfl

/- balerref12_pick -/
noncomputable def lpA_balerref12_pick (lf d fu : Nat) (k : Ex → Fr → M Value) (x0 : Value) (x1 : Value) (x4 : Value) (x5 : Value) (x8 : Value) (x9 : Value) (x10 : Value) : M Value := loopK (fun s1 k1 => codeK Tryz.prog (evC lf d) (gtA 148) lf (codeAt (bodyOf Tryz.prog 148) [true, true, false, true, false, false]) s1 k1) [0, 1, 4, 5, 8, 9, 10] fu [(0, x0), (1, x1), (4, x4), (5, x5), (8, x8), (9, x9), (10, x10)] k
noncomputable def kcA_balerref12_pick (lf d : Nat) : Ex → Fr → M Value := contAt Tryz.prog (evC lf d) (gtA 148) lf (bodyOf Tryz.prog 148) [true, true, false, true, false] (endK Tryz.prog (resOf Tryz.prog 148))
noncomputable def LA_balerref12_pick (lf d : Nat) (rec : FuncId → Array Value → M Value) (k : Ex → Fr → M Value) : Nat → Value → Value → Value → Value → Value → Value → Value → M Value
 | 0, _, _, _, _, _, _, _ => M.fail
 | fu + 1, x0, x1, x4, x5, x8, x9, x10 =>
 optK (q_lss Tryz.prog 3 x10 x9) fun v11n2 =>
 ifV v11n2 (
 optK (evIA3 Tryz.prog 158 1 x8 x10) fun v13n3 =>
 insB (evLoad3 Tryz.prog 91 v13n3) fun v14n4 =>
 (timed (
 (inside (rec 160 #[x0, v14n4])).bind fun v17n6 => M.ret v17n6)).bind fun vtn5 =>
 optK (evIA3 Tryz.prog 158 1 x1 x5) fun v21n7 =>
 (timed (
 insB (evLoad3 Tryz.prog 91 v21n7) fun v22n9 => M.ret v22n9)).bind fun vtn8 =>
 (timed (
 (inside (rec 160 #[x0, vtn8.1])).bind fun v23n11 => M.ret v23n11)).bind fun vtn10 =>
 optK (q_lss Tryz.prog 3 vtn5.1 vtn10.1) fun v24n12 =>
 chkT ((!(clash3 vtn5.2 vtn8.2) && true) && true) (
 ifV v24n12 (
 optK (q_add Tryz.prog 3 x10 (Value.int .i64 1)) fun v26n13 =>
 LA_balerref12_pick lf d rec k fu x0 x1 x4 x10 x8 x9 v26n13) (
 optK (q_add Tryz.prog 3 x10 (Value.int .i64 1)) fun v26n14 =>
 LA_balerref12_pick lf d rec k fu x0 x1 x4 x5 x8 x9 v26n14))) (
 k (Ex.exit 0) [(0, x0), (1, x1), (4, x4), (5, x5), (8, x8), (9, x9), (10, x10), (11, v11n2)])
noncomputable def KA_balerref12_pick (lf d : Nat) (rec : FuncId → Array Value → M Value) (dflt : Ex → Fr → M Value) : Ex → Fr → M Value := (kEx 0 (runCur [0, 1, 4, 5, 8, 9, 10, 11] (fun y0 y1 y4 y5 y8 y9 y10 y11 =>
 outK [y5]) (dflt (Ex.exit 0))) dflt)
noncomputable def F_balerref12_pick (lf d : Nat) (rec : FuncId → Array Value → M Value) (a0 : Value) (a1 : Value) : M Value :=
 optK (len2 Tryz.prog #[158] [a1]) fun v9n1 =>
 LA_balerref12_pick lf d rec (KA_balerref12_pick lf d rec (kcA_balerref12_pick lf d)) lf a0 a1 (Value.int .i64 0) (Value.int .i64 0) a1 v9n1 (Value.int .i64 0)
theorem LQA_balerref12_pick (lf d : Nat) (k : Ex → Fr → M Value) : ∀ fu : Nat, LA_balerref12_pick lf d (evC lf d) k fu = lpA_balerref12_pick lf d fu k
  | 0 => by funext x0 x1 x4 x5 x8 x9 x10; kernel_rfl
  | fu + 1 => by
    have ih := LQA_balerref12_pick lf d k fu
    funext x0 x1 x4 x5 x8 x9 x10; simp only [LA_balerref12_pick, ih, clash3_eq, evIA3_eq (P := Tryz.prog) Tryz.underlying158 gs91, evLoad3_eq (P := Tryz.prog) ga91, insB_eq, q_add_eq (P := Tryz.prog) nf3, q_lss_eq (P := Tryz.prog) nf3]; kernel_rfl
set_option maxRecDepth 20000 in
theorem KQA_balerref12_pick (lf d : Nat) : KA_balerref12_pick lf d (evC lf d) (kcA_balerref12_pick lf d) = kcA_balerref12_pick lf d := by
  unfold KA_balerref12_pick
  refine Eq.trans (kEx_eq ?_) ?_
  · exact (runCur_eq _ _ _ (by intro y0 y1 y4 y5 y8 y9 y10 y11; show _ = _; (try simp only [clash3_eq, insB_eq]); kernel_rfl))
  rfl
theorem fsh_balerref12_pick (lf d : Nat) (a0 : Value) (a1 : Value) : inside (F_balerref12_pick lf d (evC lf d) a0 a1) = evC lf (d + 1) 148 #[a0, a1] := by
  unfold F_balerref12_pick; (try simp only [KQA_balerref12_pick lf d, LQA_balerref12_pick, clash3_eq, insB_eq]); kernel_rfl

/- balerref09_Of -/
noncomputable def lpA_balerref09_Of (lf d fu : Nat) (k : Ex → Fr → M Value) (x0 : Value) (x2 : Value) (x3 : Value) (x7 : Value) (x8 : Value) (x9 : Value) : M Value := loopK (fun s1 k1 => codeK Tryz.prog (evC lf d) (gtA 149) lf (codeAt (bodyOf Tryz.prog 149) [true, true, false, true, false, false]) s1 k1) [0, 2, 3, 7, 8, 9] fu [(0, x0), (2, x2), (3, x3), (7, x7), (8, x8), (9, x9)] k
noncomputable def kcA_balerref09_Of (lf d : Nat) : Ex → Fr → M Value := contAt Tryz.prog (evC lf d) (gtA 149) lf (bodyOf Tryz.prog 149) [true, true, false, true, false] (endK Tryz.prog (resOf Tryz.prog 149))
noncomputable def lpB_balerref09_Of (lf d fu : Nat) (k : Ex → Fr → M Value) (x0 : Value) (x2 : Value) (x3 : Value) (x7 : Value) (x8 : Value) (x9 : Value) (x10 : Value) (x20 : Value) : M Value := loopK (fun s1 k1 => codeK Tryz.prog (evC lf d) (gtA 149) lf (codeAt (bodyOf Tryz.prog 149) [true, true, true, false, true, false, false]) s1 k1) [0, 2, 3, 7, 8, 9, 10, 20] fu [(0, x0), (2, x2), (3, x3), (7, x7), (8, x8), (9, x9), (10, x10), (20, x20)] k
noncomputable def kcB_balerref09_Of (lf d : Nat) : Ex → Fr → M Value := contAt Tryz.prog (evC lf d) (gtA 149) lf (bodyOf Tryz.prog 149) [true, true, true, false, true, false] (endK Tryz.prog (resOf Tryz.prog 149))
noncomputable def LA_balerref09_Of (lf d : Nat) (rec : FuncId → Array Value → M Value) (k : Ex → Fr → M Value) : Nat → Value → Value → Value → Value → Value → Value → M Value
 | 0, _, _, _, _, _, _ => M.fail
 | fu + 1, x0, x2, x3, x7, x8, x9 =>
 optK (q_lss Tryz.prog 3 x9 x8) fun v10n2 =>
 ifV v10n2 (
 optK (evIA3 Tryz.prog 91 1 x7 x9) fun v11n3 =>
 insB (evLoad3 Tryz.prog 3 v11n3) fun v12n4 =>
 optK (q_eql Tryz.prog 3 v12n4 (Value.int .i64 0)) fun v14n5 =>
 ifV v14n5 (
 insB (evBS3 Tryz.prog 91 1 [(0, (Value.int .i64 1))]) fun v17n6 =>
 insB (evAppend3 Tryz.prog 91 x3 v17n6) fun v18n7 =>
 optK (q_add Tryz.prog 3 x9 (Value.int .i64 1)) fun v19n8 =>
 LA_balerref09_Of lf d rec k fu x0 x2 v18n7 x7 x8 v19n8) (
 insB (evBS3 Tryz.prog 91 1 [(0, v12n4)]) fun v17n9 =>
 insB (evAppend3 Tryz.prog 91 x3 v17n9) fun v18n10 =>
 optK (q_add Tryz.prog 3 x9 (Value.int .i64 1)) fun v19n11 =>
 LA_balerref09_Of lf d rec k fu x0 x2 v18n10 x7 x8 v19n11)) (
 k (Ex.exit 0) [(0, x0), (2, x2), (3, x3), (7, x7), (8, x8), (9, x9), (10, v10n2)])
noncomputable def LB_balerref09_Of (lf d : Nat) (rec : FuncId → Array Value → M Value) (k : Ex → Fr → M Value) : Nat → Value → Value → Value → Value → Value → Value → Value → Value → M Value
 | 0, _, _, _, _, _, _, _, _ => M.fail
 | fu + 1, x0, x2, x3, x7, x8, x9, x10, x20 =>
 optK (q_lss Tryz.prog 3 x20 (Value.int .i64 100)) fun v21n12 =>
 ifV v21n12 (
 (inside (rec 161 #[x3])).bind fun v23n13 =>
 (inside (rec 162 #[v23n13, (Value.int .i64 1), (Value.int .i64 20)])).bind fun v25n14 =>
 ifV v25n14 (
 k Ex.ret [(0, x0), (2, v23n13), (3, x3), (6, v23n13), (7, x7), (8, x8), (9, x9), (10, x10), (20, x20), (21, v21n12), (25, v25n14)]) (
 (inside (rec 163 #[x3])).bind fun v28n15 =>
 optK (q_add Tryz.prog 3 x20 (Value.int .i64 1)) fun v29n16 =>
 LB_balerref09_Of lf d rec k fu x0 x2 v28n15 x7 x8 x9 x10 v29n16)) (
 k (Ex.exit 2) [(0, x0), (2, x2), (3, x3), (7, x7), (8, x8), (9, x9), (10, x10), (20, x20), (21, v21n12)])
noncomputable def KB_balerref09_Of (lf d : Nat) (rec : FuncId → Array Value → M Value) (dflt : Ex → Fr → M Value) : Ex → Fr → M Value := (kEx 2 (runCur [0, 2, 3, 7, 8, 9, 10, 20, 21] (fun y0 y2 y3 y7 y8 y9 y10 y20 y21 =>
 outK [(Value.slice none 0 0)]) (dflt (Ex.exit 2))) (kRt (runCur [0, 2, 3, 6, 7, 8, 9, 10, 20, 21, 25] (fun y0 y2 y3 y6 y7 y8 y9 y10 y20 y21 y25 =>
 outK [y2]) (dflt Ex.ret)) dflt))
noncomputable def KA_balerref09_Of (lf d : Nat) (rec : FuncId → Array Value → M Value) (dflt : Ex → Fr → M Value) : Ex → Fr → M Value := (kEx 0 (runCur [0, 2, 3, 7, 8, 9, 10] (fun y0 y2 y3 y7 y8 y9 y10 =>
 LB_balerref09_Of lf d rec (KB_balerref09_Of lf d rec (kcB_balerref09_Of lf d)) lf y0 y2 y3 y7 y8 y9 y10 (Value.int .i64 0)) (dflt (Ex.exit 0))) dflt)
noncomputable def F_balerref09_Of (lf d : Nat) (rec : FuncId → Array Value → M Value) (a0 : Value) : M Value :=
 optK (len2 Tryz.prog #[91] [a0]) fun v8n1 =>
 LA_balerref09_Of lf d rec (KA_balerref09_Of lf d rec (kcA_balerref09_Of lf d)) lf a0 (Value.slice none 0 0) (Value.slice none 0 0) a0 v8n1 (Value.int .i64 0)
theorem LQA_balerref09_Of (lf d : Nat) (k : Ex → Fr → M Value) : ∀ fu : Nat, LA_balerref09_Of lf d (evC lf d) k fu = lpA_balerref09_Of lf d fu k
  | 0 => by funext x0 x2 x3 x7 x8 x9; kernel_rfl
  | fu + 1 => by
    have ih := LQA_balerref09_Of lf d k fu
    funext x0 x2 x3 x7 x8 x9; simp only [LA_balerref09_Of, ih, clash3_eq, evAppend3_eq, evBS3_eq, evIA3_eq (P := Tryz.prog) Tryz.underlying91 gs3, evLoad3_eq (P := Tryz.prog) ga3, insB_eq, q_add_eq (P := Tryz.prog) nf3, q_eql_eq (P := Tryz.prog) nf3, q_lss_eq (P := Tryz.prog) nf3]; kernel_rfl
theorem LQB_balerref09_Of (lf d : Nat) (k : Ex → Fr → M Value) : ∀ fu : Nat, LB_balerref09_Of lf d (evC lf d) k fu = lpB_balerref09_Of lf d fu k
  | 0 => by funext x0 x2 x3 x7 x8 x9 x10 x20; kernel_rfl
  | fu + 1 => by
    have ih := LQB_balerref09_Of lf d k fu
    funext x0 x2 x3 x7 x8 x9 x10 x20; simp only [LB_balerref09_Of, ih, clash3_eq, insB_eq, q_add_eq (P := Tryz.prog) nf3, q_lss_eq (P := Tryz.prog) nf3]; kernel_rfl
set_option maxRecDepth 20000 in
theorem KQB_balerref09_Of (lf d : Nat) : KB_balerref09_Of lf d (evC lf d) (kcB_balerref09_Of lf d) = kcB_balerref09_Of lf d := by
  unfold KB_balerref09_Of
  refine Eq.trans (kEx_eq ?_) ?_
  · exact (runCur_eq _ _ _ (by intro y0 y2 y3 y7 y8 y9 y10 y20 y21; show _ = _; (try simp only [clash3_eq, insB_eq]); kernel_rfl))
  refine Eq.trans (kRt_eq ?_) ?_
  · exact (runCur_eq _ _ _ (by intro y0 y2 y3 y6 y7 y8 y9 y10 y20 y21 y25; show _ = _; (try simp only [clash3_eq, insB_eq]); kernel_rfl))
  rfl
set_option maxRecDepth 20000 in
theorem KQA_balerref09_Of (lf d : Nat) : KA_balerref09_Of lf d (evC lf d) (kcA_balerref09_Of lf d) = kcA_balerref09_Of lf d := by
  unfold KA_balerref09_Of
  refine Eq.trans (kEx_eq ?_) ?_
  · exact (runCur_eq _ _ _ (by intro y0 y2 y3 y7 y8 y9 y10; show _ = _; (try simp only [KQB_balerref09_Of lf d, LQB_balerref09_Of, clash3_eq, insB_eq]); kernel_rfl))
  rfl
theorem fsh_balerref09_Of (lf d : Nat) (a0 : Value) : inside (F_balerref09_Of lf d (evC lf d) a0) = evC lf (d + 1) 149 #[a0] := by
  unfold F_balerref09_Of; (try simp only [KQA_balerref09_Of lf d, LQA_balerref09_Of, clash3_eq, insB_eq]); kernel_rfl

/- balerref10_next -/
noncomputable def lpA_balerref10_next (lf d fu : Nat) (k : Ex → Fr → M Value) (x0 : Value) (x1 : Value) (x4 : Value) (x5 : Value) (x6 : Value) (x7 : Value) : M Value := loopK (fun s1 k1 => codeK Tryz.prog (evC lf d) (gtA 150) lf (codeAt (bodyOf Tryz.prog 150) [true, true, true, false, true, false, false]) s1 k1) [0, 1, 4, 5, 6, 7] fu [(0, x0), (1, x1), (4, x4), (5, x5), (6, x6), (7, x7)] k
noncomputable def kcA_balerref10_next (lf d : Nat) : Ex → Fr → M Value := contAt Tryz.prog (evC lf d) (gtA 150) lf (bodyOf Tryz.prog 150) [true, true, true, false, true, false] (endK Tryz.prog (resOf Tryz.prog 150))
noncomputable def lpB_balerref10_next (lf d fu : Nat) (k : Ex → Fr → M Value) (x0 : Value) (x1 : Value) (x4 : Value) (x5 : Value) (x6 : Value) (x7 : Value) (x13 : Value) : M Value := loopK (fun s1 k1 => codeK Tryz.prog (evC lf d) (gtA 150) lf (codeAt (bodyOf Tryz.prog 150) [true, true, true, true, false, false, false]) s1 k1) [0, 1, 4, 5, 6, 7, 13] fu [(0, x0), (1, x1), (4, x4), (5, x5), (6, x6), (7, x7), (13, x13)] k
noncomputable def kcB_balerref10_next (lf d : Nat) : Ex → Fr → M Value := contAt Tryz.prog (evC lf d) (gtA 150) lf (bodyOf Tryz.prog 150) [true, true, true, true, false, false] (endK Tryz.prog (resOf Tryz.prog 150))
noncomputable def LA_balerref10_next (lf d : Nat) (rec : FuncId → Array Value → M Value) (k : Ex → Fr → M Value) : Nat → Value → Value → Value → Value → Value → Value → M Value
 | 0, _, _, _, _, _, _ => M.fail
 | fu + 1, x0, x1, x4, x5, x6, x7 =>
 optK (q_geq Tryz.prog 3 x7 (Value.int .i64 0)) fun v13n3 =>
 ifV v13n3 (
 optK (index3 Tryz.prog 9 x0 x7) fun v18n4 =>
 optK (q_eql Tryz.prog 5 v18n4 (Value.int .u8 49)) fun v19n5 =>
 optK (bin2 Tryz.prog .neq 4 v19n5 x6) fun v22n6 =>
 ifV v22n6 (
 optK (qS_add Tryz.prog 9 (Value.string { data := #[49] }) x5) fun v24n7 =>
 ifV x6 (
 optK (q_sub Tryz.prog 3 x7 (Value.int .i64 1)) fun v15n8 =>
 LA_balerref10_next lf d rec k fu x0 x1 x4 v24n7 v19n5 v15n8) (
 optK (q_sub Tryz.prog 3 x7 (Value.int .i64 1)) fun v15n9 =>
 LA_balerref10_next lf d rec k fu x0 x1 x4 v24n7 (Value.bool false) v15n9)) (
 optK (qS_add Tryz.prog 9 (Value.string { data := #[48] }) x5) fun v26n10 =>
 ifV x6 (
 optK (q_sub Tryz.prog 3 x7 (Value.int .i64 1)) fun v15n11 =>
 LA_balerref10_next lf d rec k fu x0 x1 x4 v26n10 v19n5 v15n11) (
 optK (q_sub Tryz.prog 3 x7 (Value.int .i64 1)) fun v15n12 =>
 LA_balerref10_next lf d rec k fu x0 x1 x4 v26n10 (Value.bool false) v15n12))) (
 k (Ex.exit 0) [(0, x0), (1, x1), (4, x4), (5, x5), (6, x6), (7, x7), (13, v13n3)])
noncomputable def LB_balerref10_next (lf d : Nat) (rec : FuncId → Array Value → M Value) (k : Ex → Fr → M Value) : Nat → Value → Value → Value → Value → Value → Value → Value → M Value
 | 0, _, _, _, _, _, _, _ => M.fail
 | fu + 1, x0, x1, x4, x5, x6, x7, x13 =>
 optK (len2 Tryz.prog #[9] [x5]) fun v32n13 =>
 optK (q_lss Tryz.prog 3 v32n13 x1) fun v34n14 =>
 ifV v34n14 (
 optK (qS_add Tryz.prog 9 x5 (Value.string { data := #[48] })) fun v36n15 =>
 LB_balerref10_next lf d rec k fu x0 x1 x4 v36n15 x6 x7 x13) (
 k (Ex.exit 2) [(0, x0), (1, x1), (4, x4), (5, x5), (6, x6), (7, x7), (13, x13), (34, v34n14)])
noncomputable def KB_balerref10_next (lf d : Nat) (rec : FuncId → Array Value → M Value) (dflt : Ex → Fr → M Value) : Ex → Fr → M Value := (kEx 2 (runCur [0, 1, 4, 5, 6, 7, 13, 34] (fun y0 y1 y4 y5 y6 y7 y13 y34 =>
 outK [y5]) (dflt (Ex.exit 2))) dflt)
noncomputable def KA_balerref10_next (lf d : Nat) (rec : FuncId → Array Value → M Value) (dflt : Ex → Fr → M Value) : Ex → Fr → M Value := (kEx 0 (runCur [0, 1, 4, 5, 6, 7, 13] (fun y0 y1 y4 y5 y6 y7 y13 =>
 LB_balerref10_next lf d rec (KB_balerref10_next lf d rec (kcB_balerref10_next lf d)) lf y0 y1 y4 y5 y6 y7 y13) (dflt (Ex.exit 0))) dflt)
noncomputable def F_balerref10_next (lf d : Nat) (rec : FuncId → Array Value → M Value) (a0 : Value) (a1 : Value) : M Value :=
 optK (len2 Tryz.prog #[9] [a0]) fun v10n1 =>
 optK (q_sub Tryz.prog 3 v10n1 (Value.int .i64 1)) fun v11n2 =>
 LA_balerref10_next lf d rec (KA_balerref10_next lf d rec (kcA_balerref10_next lf d)) lf a0 a1 (Value.string { data := #[] }) (Value.string { data := #[] }) (Value.bool true) v11n2
theorem LQA_balerref10_next (lf d : Nat) (k : Ex → Fr → M Value) : ∀ fu : Nat, LA_balerref10_next lf d (evC lf d) k fu = lpA_balerref10_next lf d fu k
  | 0 => by funext x0 x1 x4 x5 x6 x7; kernel_rfl
  | fu + 1 => by
    have ih := LQA_balerref10_next lf d k fu
    funext x0 x1 x4 x5 x6 x7; simp only [LA_balerref10_next, ih, clash3_eq, index3_eq (P := Tryz.prog) Tryz.underlying9, insB_eq, qS_add_eq (P := Tryz.prog) nf9, q_eql_eq (P := Tryz.prog) nf5, q_geq_eq (P := Tryz.prog) nf3, q_sub_eq (P := Tryz.prog) nf3]; kernel_rfl
theorem LQB_balerref10_next (lf d : Nat) (k : Ex → Fr → M Value) : ∀ fu : Nat, LB_balerref10_next lf d (evC lf d) k fu = lpB_balerref10_next lf d fu k
  | 0 => by funext x0 x1 x4 x5 x6 x7 x13; kernel_rfl
  | fu + 1 => by
    have ih := LQB_balerref10_next lf d k fu
    funext x0 x1 x4 x5 x6 x7 x13; simp only [LB_balerref10_next, ih, clash3_eq, insB_eq, qS_add_eq (P := Tryz.prog) nf9, q_lss_eq (P := Tryz.prog) nf3]; kernel_rfl
set_option maxRecDepth 20000 in
theorem KQB_balerref10_next (lf d : Nat) : KB_balerref10_next lf d (evC lf d) (kcB_balerref10_next lf d) = kcB_balerref10_next lf d := by
  unfold KB_balerref10_next
  refine Eq.trans (kEx_eq ?_) ?_
  · exact (runCur_eq _ _ _ (by intro y0 y1 y4 y5 y6 y7 y13 y34; show _ = _; (try simp only [clash3_eq, insB_eq]); kernel_rfl))
  rfl
set_option maxRecDepth 20000 in
theorem KQA_balerref10_next (lf d : Nat) : KA_balerref10_next lf d (evC lf d) (kcA_balerref10_next lf d) = kcA_balerref10_next lf d := by
  unfold KA_balerref10_next
  refine Eq.trans (kEx_eq ?_) ?_
  · exact (runCur_eq _ _ _ (by intro y0 y1 y4 y5 y6 y7 y13; show _ = _; (try simp only [KQB_balerref10_next lf d, LQB_balerref10_next, clash3_eq, insB_eq]); kernel_rfl))
  rfl
theorem fsh_balerref10_next (lf d : Nat) (a0 : Value) (a1 : Value) : inside (F_balerref10_next lf d (evC lf d) a0 a1) = evC lf (d + 1) 150 #[a0, a1] := by
  unfold F_balerref10_next; (try simp only [KQA_balerref10_next lf d, LQA_balerref10_next, clash3_eq, insB_eq, q_sub_eq (P := Tryz.prog) nf3]); kernel_rfl

/- internal_stringslite_HasPrefix -/
noncomputable def F_internal_stringslite_HasPrefix (lf d : Nat) (rec : FuncId → Array Value → M Value) (a0 : Value) (a1 : Value) : M Value :=
 optK (len2 Tryz.prog #[9] [a0]) fun v6n1 =>
 optK (len2 Tryz.prog #[9] [a1]) fun v8n2 =>
 optK (q_geq Tryz.prog 3 v6n1 v8n2) fun v9n3 =>
 ifV v9n3 (
 optK (len2 Tryz.prog #[9] [a1]) fun v13n4 =>
 slice3 Tryz.prog 9 a0 none (some v13n4) none fun v14n5 =>
 optK (qS_eql Tryz.prog 9 v14n5 a1) fun v16n6 =>
 outK [v16n6]) (
 outK [(Value.bool false)])
theorem fsh_internal_stringslite_HasPrefix (lf d : Nat) (a0 : Value) (a1 : Value) : inside (F_internal_stringslite_HasPrefix lf d (evC lf d) a0 a1) = evC lf (d + 1) 153 #[a0, a1] := by
  unfold F_internal_stringslite_HasPrefix; (try simp only [clash3_eq, insB_eq, qS_eql_eq (P := Tryz.prog) nf9, q_geq_eq (P := Tryz.prog) nf3, slice3_eq (P := Tryz.prog) Tryz.underlying9]); kernel_rfl

/- bits_Reader_bit -/
noncomputable def F_bits_Reader_bit (lf d : Nat) (rec : FuncId → Array Value → M Value) (a0 : Value) (a1 : Value) : M Value :=
 optK (nil2 a0) fun v7n1 =>
 optK (evFA3 Tryz.prog 89 0 v7n1 0) fun v8n2 =>
 insB (evLoad3 Tryz.prog 9 v8n2) fun v9n3 =>
 optK (q_quo Tryz.prog 3 a1 (Value.int .i64 8)) fun v11n4 =>
 optK (nil2 a0) fun v13n5 =>
 optK (evFA3 Tryz.prog 89 1 v13n5 1) fun v14n6 =>
 insB (evLoad3 Tryz.prog 3 v14n6) fun v15n7 =>
 optK (q_sub Tryz.prog 3 v11n4 v15n7) fun v16n8 =>
 optK (index3 Tryz.prog 9 v9n3 v16n8) fun v17n9 =>
 optK (q_rem Tryz.prog 3 a1 (Value.int .i64 8)) fun v20n10 =>
 optK (q_sub Tryz.prog 3 (Value.int .i64 7) v20n10) fun v21n11 =>
 optK (q_shr Tryz.prog 5 v17n9 v21n11) fun v22n12 =>
 optK (q_and Tryz.prog 5 v22n12 (Value.int .u8 1)) fun v23n13 =>
 conv3 Tryz.prog 5 62 .u8 .u32 v23n13 fun v24n14 =>
 outK [v24n14]
theorem fsh_bits_Reader_bit (lf d : Nat) (a0 : Value) (a1 : Value) : inside (F_bits_Reader_bit lf d (evC lf d) a0 a1) = evC lf (d + 1) 156 #[a0, a1] := by
  unfold F_bits_Reader_bit; (try simp only [clash3_eq, conv3_eq cw5x62, evFA3_eq (P := Tryz.prog) gf89f0, evFA3_eq (P := Tryz.prog) gf89f1, evLoad3_eq (P := Tryz.prog) ga3, evLoad3_eq (P := Tryz.prog) ga9, index3_eq (P := Tryz.prog) Tryz.underlying9, insB_eq, q_and_eq (P := Tryz.prog) nf5, q_quo_eq (P := Tryz.prog) nf3, q_rem_eq (P := Tryz.prog) nf3, q_shr_eq (P := Tryz.prog) nf5, q_sub_eq (P := Tryz.prog) nf3]); kernel_rfl

/- block_Reader_step -/
noncomputable def F_block_Reader_step (lf d : Nat) (rec : FuncId → Array Value → M Value) (a0 : Value) (a1 : Value) : M Value :=
 optK (nil2 a0) fun v11n1 =>
 optK (evFA3 Tryz.prog 118 2 v11n1 2) fun v12n2 =>
 insB (evLoad3 Tryz.prog 4 v12n2) fun v13n3 =>
 optK (un3 Tryz.prog .not v13n3) fun v14n4 =>
 ifV v14n4 (
 (inside (rec 166 #[a0, a1])).bind fun v17n5 =>
 optK (q_neq Tryz.prog 27 v17n5 (Value.int .i64 0)) fun v48n6 =>
 ifV v48n6 (
 outK [v17n5]) (
 (inside (rec 171 #[a0])).bind fun v51n7 =>
 outK [v51n7])) (
 optK (nil2 a0) fun v20n8 =>
 optK (evFA3 Tryz.prog 118 0 v20n8 0) fun v21n9 =>
 insB (evLoad3 Tryz.prog 116 v21n9) fun v22n10 =>
 optK (qP_eql Tryz.prog 116 v22n10 (Value.pointer none)) fun v23n11 =>
 ifV v23n11 (
 (inside (rec 167 #[a0, a1])).bind fun v26n12 =>
 optK (q_neq Tryz.prog 27 v26n12 (Value.int .i64 0)) fun v48n13 =>
 ifV v48n13 (
 outK [v26n12]) (
 (inside (rec 171 #[a0])).bind fun v51n14 =>
 outK [v51n14])) (
 optK (nil2 a0) fun v29n15 =>
 optK (evFA3 Tryz.prog 118 0 v29n15 0) fun v30n16 =>
 insB (evLoad3 Tryz.prog 116 v30n16) fun v31n17 =>
 (inside (rec 168 #[v31n17])).bind fun v32n18 =>
 ifV v32n18 (
 optK (nil2 a0) fun v35n19 =>
 optK (evFA3 Tryz.prog 118 5 v35n19 5) fun v36n20 =>
 (timed (
 insB (evLoad3 Tryz.prog 58 v36n20) fun v37n22 => M.ret v37n22)).bind fun vtn21 =>
 optK (nil2 a0) fun v39n23 =>
 optK (evFA3 Tryz.prog 118 0 v39n23 0) fun v40n24 =>
 (timed (
 insB (evLoad3 Tryz.prog 116 v40n24) fun v41n26 => M.ret v41n26)).bind fun vtn25 =>
 (timed (
 (inside (rec 169 #[vtn25.1])).bind fun v42n28 => M.ret v42n28)).bind fun vtn27 =>
 (timed (
 insB (evBS3 Tryz.prog 58 1 [(0, vtn27.1)]) fun v43n30 => M.ret v43n30)).bind fun vtn29 =>
 (timed (
 insB (evAppend3 Tryz.prog 58 vtn21.1 vtn29.1) fun v44n32 => M.ret v44n32)).bind fun vtn31 =>
 optK (nil2 a0) fun v45n33 =>
 optK (evFA3 Tryz.prog 118 5 v45n33 5) fun v46n34 =>
 (timed (
 insB (evStore3 Tryz.prog 58 v46n34 vtn31.1) fun u36 => M.ret u36)).bind fun vtn35 =>
 chkT ((!(clash3 vtn21.2 vtn27.2) && true) && true) (
 optK (q_neq Tryz.prog 27 (Value.int .i64 0) (Value.int .i64 0)) fun v48n37 =>
 ifV v48n37 (
 outK [(Value.int .i64 0)]) (
 (inside (rec 171 #[a0])).bind fun v51n38 =>
 outK [v51n38]))) (
 (inside (rec 170 #[a0, a1])).bind fun v8n39 =>
 optK (q_neq Tryz.prog 27 v8n39 (Value.int .i64 0)) fun v48n40 =>
 ifV v48n40 (
 outK [v8n39]) (
 (inside (rec 171 #[a0])).bind fun v51n41 =>
 outK [v51n41]))))
theorem fsh_block_Reader_step (lf d : Nat) (a0 : Value) (a1 : Value) : inside (F_block_Reader_step lf d (evC lf d) a0 a1) = evC lf (d + 1) 157 #[a0, a1] := by
  unfold F_block_Reader_step; (try simp only [clash3_eq, evAppend3_eq, evBS3_eq, evFA3_eq (P := Tryz.prog) gf118f0, evFA3_eq (P := Tryz.prog) gf118f2, evFA3_eq (P := Tryz.prog) gf118f5, evLoad3_eq (P := Tryz.prog) ga116, evLoad3_eq (P := Tryz.prog) ga4, evLoad3_eq (P := Tryz.prog) ga58, evStore3_eq (P := Tryz.prog) gs58, insB_eq, qP_eql_eq (P := Tryz.prog) Tryz.underlying116, q_neq_eq (P := Tryz.prog) nf27, un3_eq]); kernel_rfl

/- balerref12_Number -/
noncomputable def F_balerref12_Number (lf d : Nat) (rec : FuncId → Array Value → M Value) (a0 : Value) : M Value :=
 optK (q_lss Tryz.prog 3 a0 (Value.int .i64 200)) fun v4n1 =>
 ifV v4n1 (
 outK [(Value.int .i64 2)]) (
 optK (q_lss Tryz.prog 3 a0 (Value.int .i64 600)) fun v6n2 =>
 ifV v6n2 (
 outK [(Value.int .i64 3)]) (
 optK (q_lss Tryz.prog 3 a0 (Value.int .i64 1200)) fun v8n3 =>
 ifV v8n3 (
 outK [(Value.int .i64 4)]) (
 optK (q_lss Tryz.prog 3 a0 (Value.int .i64 2400)) fun v10n4 =>
 ifV v10n4 (
 outK [(Value.int .i64 5)]) (
 outK [(Value.int .i64 6)]))))
theorem fsh_balerref12_Number (lf d : Nat) (a0 : Value) : inside (F_balerref12_Number lf d (evC lf d) a0) = evC lf (d + 1) 158 #[a0] := by
  unfold F_balerref12_Number; (try simp only [clash3_eq, insB_eq, q_lss_eq (P := Tryz.prog) nf3]); kernel_rfl

/- balerref08_count -/
noncomputable def lpA_balerref08_count (lf d fu : Nat) (k : Ex → Fr → M Value) (x0 : Value) (x1 : Value) (x4 : Value) (x5 : Value) (x8 : Value) (x9 : Value) (x10 : Value) : M Value := loopK (fun s1 k1 => codeK Tryz.prog (evC lf d) (gtA 159) lf (codeAt (bodyOf Tryz.prog 159) [true, true, false, true, false, false]) s1 k1) [0, 1, 4, 5, 8, 9, 10] fu [(0, x0), (1, x1), (4, x4), (5, x5), (8, x8), (9, x9), (10, x10)] k
noncomputable def kcA_balerref08_count (lf d : Nat) : Ex → Fr → M Value := contAt Tryz.prog (evC lf d) (gtA 159) lf (bodyOf Tryz.prog 159) [true, true, false, true, false] (endK Tryz.prog (resOf Tryz.prog 159))
noncomputable def LA_balerref08_count (lf d : Nat) (rec : FuncId → Array Value → M Value) (k : Ex → Fr → M Value) : Nat → Value → Value → Value → Value → Value → Value → Value → M Value
 | 0, _, _, _, _, _, _, _ => M.fail
 | fu + 1, x0, x1, x4, x5, x8, x9, x10 =>
 optK (q_lss Tryz.prog 3 x10 x9) fun v11n2 =>
 ifV v11n2 (
 optK (evIA3 Tryz.prog 91 1 x8 x10) fun v12n3 =>
 insB (evLoad3 Tryz.prog 3 v12n3) fun v13n4 =>
 optK (q_eql Tryz.prog 3 x1 v13n4) fun v16n5 =>
 ifV v16n5 (
 optK (q_add Tryz.prog 3 x5 (Value.int .i64 1)) fun v18n6 =>
 optK (q_add Tryz.prog 3 x10 (Value.int .i64 1)) fun v19n7 =>
 LA_balerref08_count lf d rec k fu x0 x1 x4 v18n6 x8 x9 v19n7) (
 optK (q_add Tryz.prog 3 x10 (Value.int .i64 1)) fun v19n8 =>
 LA_balerref08_count lf d rec k fu x0 x1 x4 x5 x8 x9 v19n8)) (
 k (Ex.exit 0) [(0, x0), (1, x1), (4, x4), (5, x5), (8, x8), (9, x9), (10, x10), (11, v11n2)])
noncomputable def KA_balerref08_count (lf d : Nat) (rec : FuncId → Array Value → M Value) (dflt : Ex → Fr → M Value) : Ex → Fr → M Value := (kEx 0 (runCur [0, 1, 4, 5, 8, 9, 10, 11] (fun y0 y1 y4 y5 y8 y9 y10 y11 =>
 outK [y5]) (dflt (Ex.exit 0))) dflt)
noncomputable def F_balerref08_count (lf d : Nat) (rec : FuncId → Array Value → M Value) (a0 : Value) (a1 : Value) : M Value :=
 optK (len2 Tryz.prog #[91] [a0]) fun v9n1 =>
 LA_balerref08_count lf d rec (KA_balerref08_count lf d rec (kcA_balerref08_count lf d)) lf a0 a1 (Value.int .i64 0) (Value.int .i64 0) a0 v9n1 (Value.int .i64 0)
theorem LQA_balerref08_count (lf d : Nat) (k : Ex → Fr → M Value) : ∀ fu : Nat, LA_balerref08_count lf d (evC lf d) k fu = lpA_balerref08_count lf d fu k
  | 0 => by funext x0 x1 x4 x5 x8 x9 x10; kernel_rfl
  | fu + 1 => by
    have ih := LQA_balerref08_count lf d k fu
    funext x0 x1 x4 x5 x8 x9 x10; simp only [LA_balerref08_count, ih, clash3_eq, evIA3_eq (P := Tryz.prog) Tryz.underlying91 gs3, evLoad3_eq (P := Tryz.prog) ga3, insB_eq, q_add_eq (P := Tryz.prog) nf3, q_eql_eq (P := Tryz.prog) nf3, q_lss_eq (P := Tryz.prog) nf3]; kernel_rfl
set_option maxRecDepth 20000 in
theorem KQA_balerref08_count (lf d : Nat) : KA_balerref08_count lf d (evC lf d) (kcA_balerref08_count lf d) = kcA_balerref08_count lf d := by
  unfold KA_balerref08_count
  refine Eq.trans (kEx_eq ?_) ?_
  · exact (runCur_eq _ _ _ (by intro y0 y1 y4 y5 y8 y9 y10 y11; show _ = _; (try simp only [clash3_eq, insB_eq]); kernel_rfl))
  rfl
theorem fsh_balerref08_count (lf d : Nat) (a0 : Value) (a1 : Value) : inside (F_balerref08_count lf d (evC lf d) a0 a1) = evC lf (d + 1) 159 #[a0, a1] := by
  unfold F_balerref08_count; (try simp only [KQA_balerref08_count lf d, LQA_balerref08_count, clash3_eq, insB_eq]); kernel_rfl

/- balerref08_Cost -/
noncomputable def lpA_balerref08_Cost (lf d fu : Nat) (k : Ex → Fr → M Value) (x0 : Value) (x1 : Value) (x4 : Value) (x5 : Value) (x8 : Value) (x9 : Value) (x10 : Value) : M Value := loopK (fun s1 k1 => codeK Tryz.prog (evC lf d) (gtA 160) lf (codeAt (bodyOf Tryz.prog 160) [true, true, false, true, false, false]) s1 k1) [0, 1, 4, 5, 8, 9, 10] fu [(0, x0), (1, x1), (4, x4), (5, x5), (8, x8), (9, x9), (10, x10)] k
noncomputable def kcA_balerref08_Cost (lf d : Nat) : Ex → Fr → M Value := contAt Tryz.prog (evC lf d) (gtA 160) lf (bodyOf Tryz.prog 160) [true, true, false, true, false] (endK Tryz.prog (resOf Tryz.prog 160))
noncomputable def lpB_balerref08_Cost (lf d fu : Nat) (k : Ex → Fr → M Value) (x0 : Value) (x1 : Value) (x4 : Value) (x5 : Value) (x6 : Value) (x7 : Value) (x8 : Value) (x9 : Value) (x10 : Value) (x11 : Value) (x17 : Value) (x18 : Value) : M Value := loopK (fun s1 k1 => codeK Tryz.prog (evC lf d) (gtA 160) lf (codeAt (bodyOf Tryz.prog 160) [true, true, false, true, false, false, true, true, false, false, true, true, false, false]) s1 k1) [0, 1, 4, 5, 6, 7, 8, 9, 10, 11, 17, 18] fu [(0, x0), (1, x1), (4, x4), (5, x5), (6, x6), (7, x7), (8, x8), (9, x9), (10, x10), (11, x11), (17, x17), (18, x18)] k
noncomputable def kcB_balerref08_Cost (lf d fu : Nat) (k : Ex → Fr → M Value) : Ex → Fr → M Value := contAt Tryz.prog (evC lf d) (gtA 160) lf (codeAt (bodyOf Tryz.prog 160) [true, true, false, true, false, false]) [true, true, false, false, true, true, false] (againK (fun s1 => loopK (fun s1 k1 => codeK Tryz.prog (evC lf d) (gtA 160) lf (codeAt (bodyOf Tryz.prog 160) [true, true, false, true, false, false]) s1 k1) [0, 1, 4, 5, 8, 9, 10] fu (s1.keep [0, 1, 4, 5, 8, 9, 10]) k) k)
noncomputable def KA_balerref08_Cost (lf d : Nat) (rec : FuncId → Array Value → M Value) (dflt : Ex → Fr → M Value) : Ex → Fr → M Value := (kEx 0 (runCur [0, 1, 4, 5, 8, 9, 10, 11] (fun y0 y1 y4 y5 y8 y9 y10 y11 =>
 outK [y5]) (dflt (Ex.exit 0))) dflt)
noncomputable def LB_balerref08_Cost (lf d : Nat) (rec : FuncId → Array Value → M Value) (k : Ex → Fr → M Value) : Nat → Value → Value → Value → Value → Value → Value → Value → Value → Value → Value → Value → Value → M Value
 | 0, _, _, _, _, _, _, _, _, _, _, _, _ => M.fail
 | fu + 1, x0, x1, x4, x5, x6, x7, x8, x9, x10, x11, x17, x18 =>
 optK (q_lss Tryz.prog 3 x18 x17) fun v19n6 =>
 ifV v19n6 (
 optK (q_add Tryz.prog 3 x5 x7) fun v22n7 =>
 (inside (rec 172 #[v22n7])).bind fun v23n8 =>
 optK (q_add Tryz.prog 3 x18 (Value.int .i64 1)) fun v24n9 =>
 LB_balerref08_Cost lf d rec k fu x0 x1 x4 v23n8 x6 x7 x8 x9 x10 x11 x17 v24n9) (
 k (Ex.exit 2) [(0, x0), (1, x1), (4, x4), (5, x5), (6, x6), (7, x7), (8, x8), (9, x9), (10, x10), (11, x11), (17, x17), (18, x18), (19, v19n6)])
noncomputable def KB_balerref08_Cost (lf d : Nat) (rec : FuncId → Array Value → M Value) (fu : Nat) (k : Ex → Fr → M Value) (again : Value → Value → Value → Value → Value → Value → Value → M Value) (dflt : Ex → Fr → M Value) : Ex → Fr → M Value := (kEx 2 (runCur [0, 1, 4, 5, 6, 7, 8, 9, 10, 11, 17, 18, 19] (fun y0 y1 y4 y5 y6 y7 y8 y9 y10 y11 y17 y18 y19 =>
 optK (q_add Tryz.prog 3 y10 (Value.int .i64 1)) fun v25n10 =>
 again y0 y1 y4 y5 y8 y9 v25n10) (dflt (Ex.exit 2))) dflt)
noncomputable def LA_balerref08_Cost (lf d : Nat) (rec : FuncId → Array Value → M Value) (k : Ex → Fr → M Value) : Nat → Value → Value → Value → Value → Value → Value → Value → M Value
 | 0, _, _, _, _, _, _, _ => M.fail
 | fu + 1, x0, x1, x4, x5, x8, x9, x10 =>
 optK (q_lss Tryz.prog 3 x10 x9) fun v11n2 =>
 ifV v11n2 (
 optK (evIA3 Tryz.prog 91 1 x8 x10) fun v13n3 =>
 insB (evLoad3 Tryz.prog 3 v13n3) fun v14n4 =>
 (inside (rec 159 #[x0, x10])).bind fun v17n5 =>
 LB_balerref08_Cost lf d rec (KB_balerref08_Cost lf d rec fu k (LA_balerref08_Cost lf d rec k fu) (kcB_balerref08_Cost lf d fu k)) lf x0 x1 x4 x5 x10 v14n4 x8 x9 x10 v11n2 v17n5 (Value.int .i64 0)) (
 k (Ex.exit 0) [(0, x0), (1, x1), (4, x4), (5, x5), (8, x8), (9, x9), (10, x10), (11, v11n2)])
noncomputable def F_balerref08_Cost (lf d : Nat) (rec : FuncId → Array Value → M Value) (a0 : Value) (a1 : Value) : M Value :=
 optK (len2 Tryz.prog #[91] [a1]) fun v9n1 =>
 LA_balerref08_Cost lf d rec (KA_balerref08_Cost lf d rec (kcA_balerref08_Cost lf d)) lf a0 a1 (Value.int .i64 0) (Value.int .i64 0) a1 v9n1 (Value.int .i64 0)
set_option maxRecDepth 20000 in
theorem KQA_balerref08_Cost (lf d : Nat) : KA_balerref08_Cost lf d (evC lf d) (kcA_balerref08_Cost lf d) = kcA_balerref08_Cost lf d := by
  unfold KA_balerref08_Cost
  refine Eq.trans (kEx_eq ?_) ?_
  · exact (runCur_eq _ _ _ (by intro y0 y1 y4 y5 y8 y9 y10 y11; show _ = _; (try simp only [clash3_eq, insB_eq]); kernel_rfl))
  rfl
theorem LQB_balerref08_Cost (lf d : Nat) (k : Ex → Fr → M Value) : ∀ fu : Nat, LB_balerref08_Cost lf d (evC lf d) k fu = lpB_balerref08_Cost lf d fu k
  | 0 => by funext x0 x1 x4 x5 x6 x7 x8 x9 x10 x11 x17 x18; kernel_rfl
  | fu + 1 => by
    have ih := LQB_balerref08_Cost lf d k fu
    funext x0 x1 x4 x5 x6 x7 x8 x9 x10 x11 x17 x18; simp only [LB_balerref08_Cost, ih, clash3_eq, insB_eq, q_add_eq (P := Tryz.prog) nf3, q_lss_eq (P := Tryz.prog) nf3]; kernel_rfl
set_option maxRecDepth 20000 in
theorem KQB_balerref08_Cost (lf d fu : Nat) (k : Ex → Fr → M Value) (again : Value → Value → Value → Value → Value → Value → Value → M Value) (ha : again = lpA_balerref08_Cost lf d fu k) : KB_balerref08_Cost lf d (evC lf d) fu k again (kcB_balerref08_Cost lf d fu k) = kcB_balerref08_Cost lf d fu k := by
  subst ha
  unfold KB_balerref08_Cost
  refine Eq.trans (kEx_eq ?_) ?_
  · exact (runCur_eq _ _ _ (by intro y0 y1 y4 y5 y6 y7 y8 y9 y10 y11 y17 y18 y19; show _ = _; (try simp only [clash3_eq, insB_eq, q_add_eq (P := Tryz.prog) nf3]); kernel_rfl))
  rfl
theorem LQA_balerref08_Cost (lf d : Nat) (k : Ex → Fr → M Value) : ∀ fu : Nat, LA_balerref08_Cost lf d (evC lf d) k fu = lpA_balerref08_Cost lf d fu k
  | 0 => by funext x0 x1 x4 x5 x8 x9 x10; kernel_rfl
  | fu + 1 => by
    have ih := LQA_balerref08_Cost lf d k fu
    funext x0 x1 x4 x5 x8 x9 x10; simp only [LA_balerref08_Cost, ih, KQB_balerref08_Cost lf d fu k _ rfl, LQB_balerref08_Cost, clash3_eq, evIA3_eq (P := Tryz.prog) Tryz.underlying91 gs3, evLoad3_eq (P := Tryz.prog) ga3, insB_eq, q_lss_eq (P := Tryz.prog) nf3]; kernel_rfl
theorem fsh_balerref08_Cost (lf d : Nat) (a0 : Value) (a1 : Value) : inside (F_balerref08_Cost lf d (evC lf d) a0 a1) = evC lf (d + 1) 160 #[a0, a1] := by
  unfold F_balerref08_Cost; (try simp only [KQA_balerref08_Cost lf d, LQA_balerref08_Cost, clash3_eq, insB_eq]); kernel_rfl

/- balerref09_Depths -/
noncomputable def lpA_balerref09_Depths (lf d fu : Nat) (k : Ex → Fr → M Value) (x0 : Value) (x2 : Value) (x3 : Value) (x4 : Value) (x18 : Value) (x19 : Value) (x20 : Value) : M Value := loopK (fun s1 k1 => codeK Tryz.prog (evC lf d) (gtA 161) lf (codeAt (bodyOf Tryz.prog 161) [true, true, true, false, true, false, false]) s1 k1) [0, 2, 3, 4, 18, 19, 20] fu [(0, x0), (2, x2), (3, x3), (4, x4), (18, x18), (19, x19), (20, x20)] k
noncomputable def kcA_balerref09_Depths (lf d : Nat) : Ex → Fr → M Value := contAt Tryz.prog (evC lf d) (gtA 161) lf (bodyOf Tryz.prog 161) [true, true, true, false, true, false] (endK Tryz.prog (resOf Tryz.prog 161))
noncomputable def lpB_balerref09_Depths (lf d fu : Nat) (k : Ex → Fr → M Value) (x0 : Value) (x2 : Value) (x3 : Value) (x4 : Value) (x7 : Value) (x8 : Value) (x18 : Value) (x19 : Value) (x20 : Value) (x21 : Value) : M Value := loopK (fun s1 k1 => codeK Tryz.prog (evC lf d) (gtA 161) lf (codeAt (bodyOf Tryz.prog 161) [true, true, true, true, true, true, false, false, false]) s1 k1) [0, 2, 3, 4, 7, 8, 18, 19, 20, 21] fu [(0, x0), (2, x2), (3, x3), (4, x4), (7, x7), (8, x8), (18, x18), (19, x19), (20, x20), (21, x21)] k
noncomputable def kcB_balerref09_Depths (lf d : Nat) : Ex → Fr → M Value := contAt Tryz.prog (evC lf d) (gtA 161) lf (bodyOf Tryz.prog 161) [true, true, true, true, true, true, false, false] (endK Tryz.prog (resOf Tryz.prog 161))
noncomputable def lpC_balerref09_Depths (lf d fu : Nat) (k : Ex → Fr → M Value) (x0 : Value) (x2 : Value) (x3 : Value) (x4 : Value) (x7 : Value) (x8 : Value) (x9 : Value) (x10 : Value) (x11 : Value) (x12 : Value) (x13 : Value) (x18 : Value) (x19 : Value) (x20 : Value) (x21 : Value) (x39 : Value) (x66 : Value) (x67 : Value) (x68 : Value) : M Value := loopK (fun s1 k1 => codeK Tryz.prog (evC lf d) (gtA 161) lf (codeAt (bodyOf Tryz.prog 161) [true, true, true, true, true, true, false, false, false, true, false, true, true, true, true, true, true, true, true, true, false, true, false, false]) s1 k1) [0, 2, 3, 4, 7, 8, 9, 10, 11, 12, 13, 18, 19, 20, 21, 39, 66, 67, 68] fu [(0, x0), (2, x2), (3, x3), (4, x4), (7, x7), (8, x8), (9, x9), (10, x10), (11, x11), (12, x12), (13, x13), (18, x18), (19, x19), (20, x20), (21, x21), (39, x39), (66, x66), (67, x67), (68, x68)] k
noncomputable def kcC_balerref09_Depths (lf d fu : Nat) (k : Ex → Fr → M Value) : Ex → Fr → M Value := contAt Tryz.prog (evC lf d) (gtA 161) lf (codeAt (bodyOf Tryz.prog 161) [true, true, true, true, true, true, false, false, false]) [true, false, true, true, true, true, true, true, true, true, true, false, true, false] (againK (fun s1 => loopK (fun s1 k1 => codeK Tryz.prog (evC lf d) (gtA 161) lf (codeAt (bodyOf Tryz.prog 161) [true, true, true, true, true, true, false, false, false]) s1 k1) [0, 2, 3, 4, 7, 8, 18, 19, 20, 21] fu (s1.keep [0, 2, 3, 4, 7, 8, 18, 19, 20, 21]) k) k)
noncomputable def LA_balerref09_Depths (lf d : Nat) (rec : FuncId → Array Value → M Value) (k : Ex → Fr → M Value) : Nat → Value → Value → Value → Value → Value → Value → Value → M Value
 | 0, _, _, _, _, _, _, _ => M.fail
 | fu + 1, x0, x2, x3, x4, x18, x19, x20 =>
 optK (q_lss Tryz.prog 3 x20 x19) fun v21n3 =>
 ifV v21n3 (
 optK (evIA3 Tryz.prog 91 1 x18 x20) fun v23n4 =>
 insB (evLoad3 Tryz.prog 3 v23n4) fun v24n5 =>
 insB (evBS3 Tryz.prog 91 1 [(0, x20)]) fun v29n6 =>
 insB (evBuildZ Tryz.prog 209 [Value.int .i64 0, Value.int .i64 0, Value.slice none 0 0] [(0, v24n5), (1, x20), (2, v29n6)]) fun v30n7 =>
 insB (evBS3 Tryz.prog 207 1 [(0, v30n7)]) fun v31n8 =>
 insB (evAppend3 Tryz.prog 207 x4 v31n8) fun v32n9 =>
 optK (q_add Tryz.prog 3 x20 (Value.int .i64 1)) fun v33n10 =>
 LA_balerref09_Depths lf d rec k fu x0 x2 x3 v32n9 x18 x19 v33n10) (
 k (Ex.exit 0) [(0, x0), (2, x2), (3, x3), (4, x4), (18, x18), (19, x19), (20, x20), (21, v21n3)])
noncomputable def KB_balerref09_Depths (lf d : Nat) (rec : FuncId → Array Value → M Value) (dflt : Ex → Fr → M Value) : Ex → Fr → M Value := (kEx 2 (runCur [0, 2, 3, 4, 7, 8, 18, 19, 20, 21, 39] (fun y0 y2 y3 y4 y7 y8 y18 y19 y20 y21 y39 =>
 outK [y7]) (dflt (Ex.exit 2))) dflt)
noncomputable def LC_balerref09_Depths (lf d : Nat) (rec : FuncId → Array Value → M Value) (k : Ex → Fr → M Value) : Nat → Value → Value → Value → Value → Value → Value → Value → Value → Value → Value → Value → Value → Value → Value → Value → Value → Value → Value → Value → M Value
 | 0, _, _, _, _, _, _, _, _, _, _, _, _, _, _, _, _, _, _, _ => M.fail
 | fu + 1, x0, x2, x3, x4, x7, x8, x9, x10, x11, x12, x13, x18, x19, x20, x21, x39, x66, x67, x68 =>
 optK (q_lss Tryz.prog 3 x68 x67) fun v69n33 =>
 ifV v69n33 (
 optK (evIA3 Tryz.prog 91 1 x66 x68) fun v70n34 =>
 insB (evLoad3 Tryz.prog 3 v70n34) fun v71n35 =>
 optK (evIA3 Tryz.prog 91 1 x7 v71n35) fun v74n36 =>
 insB (evLoad3 Tryz.prog 3 v74n36) fun v75n37 =>
 optK (q_add Tryz.prog 3 v75n37 (Value.int .i64 1)) fun v76n38 =>
 optK (evIA3 Tryz.prog 91 1 x7 v71n35) fun v77n39 =>
 insB (evStore3 Tryz.prog 3 v77n39 v76n38) fun u40 =>
 optK (q_add Tryz.prog 3 x68 (Value.int .i64 1)) fun v78n41 =>
 LC_balerref09_Depths lf d rec k fu x0 x2 x3 x4 x7 x8 x9 x10 x11 x12 x13 x18 x19 x20 x21 x39 x66 x67 v78n41) (
 k (Ex.exit 4) [(0, x0), (2, x2), (3, x3), (4, x4), (7, x7), (8, x8), (9, x9), (10, x10), (11, x11), (12, x12), (13, x13), (18, x18), (19, x19), (20, x20), (21, x21), (39, x39), (66, x66), (67, x67), (68, x68), (69, v69n33)])
noncomputable def KC_balerref09_Depths (lf d : Nat) (rec : FuncId → Array Value → M Value) (fu : Nat) (k : Ex → Fr → M Value) (again : Value → Value → Value → Value → Value → Value → Value → Value → Value → Value → M Value) (dflt : Ex → Fr → M Value) : Ex → Fr → M Value := (kEx 4 (runCur [0, 2, 3, 4, 7, 8, 9, 10, 11, 12, 13, 18, 19, 20, 21, 39, 66, 67, 68, 69] (fun y0 y2 y3 y4 y7 y8 y9 y10 y11 y12 y13 y18 y19 y20 y21 y39 y66 y67 y68 y69 =>
 optK (evFA3 Tryz.prog 209 0 y10 0) fun v80n42 =>
 insB (evLoad3 Tryz.prog 3 v80n42) fun v81n43 =>
 optK (evFA3 Tryz.prog 209 0 y12 0) fun v82n44 =>
 insB (evLoad3 Tryz.prog 3 v82n44) fun v83n45 =>
 optK (q_add Tryz.prog 3 v81n43 v83n45) fun v84n46 =>
 insB (evBuildZ Tryz.prog 209 [Value.int .i64 0, Value.int .i64 0, Value.slice none 0 0] [(0, v84n46), (1, y8), (2, y13)]) fun v87n47 =>
 insB (evBS3 Tryz.prog 207 1 [(0, v87n47)]) fun v88n48 =>
 insB (evAppend3 Tryz.prog 207 y4 v88n48) fun v89n49 =>
 optK (q_add Tryz.prog 3 y8 (Value.int .i64 1)) fun v91n50 =>
 again y0 y2 y3 v89n49 y7 v91n50 y18 y19 y20 y21) (dflt (Ex.exit 4))) dflt)
noncomputable def LB_balerref09_Depths (lf d : Nat) (rec : FuncId → Array Value → M Value) (k : Ex → Fr → M Value) : Nat → Value → Value → Value → Value → Value → Value → Value → Value → Value → Value → M Value
 | 0, _, _, _, _, _, _, _, _, _, _ => M.fail
 | fu + 1, x0, x2, x3, x4, x7, x8, x18, x19, x20, x21 =>
 optK (len2 Tryz.prog #[207] [x4]) fun v38n12 =>
 optK (q_gtr Tryz.prog 3 v38n12 (Value.int .i64 1)) fun v39n13 =>
 ifV v39n13 (
 (inside (rec 173 #[x4])).bind fun v41n14 =>
 optK (evIA3 Tryz.prog 207 3 x4 v41n14) fun v44n15 =>
 insB (evLoadA3 Tryz.prog 209 3 v44n15) fun v45n16 =>
 insB (evAllocZ 209 [Value.int .i64 0, Value.int .i64 0, Value.slice none 0 0]) fun v10n17 =>
 insB (evStoreA3 Tryz.prog 209 3 v10n17 v45n16) fun u18 =>
 (inside (rec 174 #[x4, v41n14])).bind fun v48n19 =>
 (inside (rec 173 #[v48n19])).bind fun v50n20 =>
 optK (evIA3 Tryz.prog 207 3 v48n19 v50n20) fun v53n21 =>
 insB (evLoadA3 Tryz.prog 209 3 v53n21) fun v54n22 =>
 insB (evAllocZ 209 [Value.int .i64 0, Value.int .i64 0, Value.slice none 0 0]) fun v12n23 =>
 insB (evStoreA3 Tryz.prog 209 3 v12n23 v54n22) fun u24 =>
 (inside (rec 174 #[v48n19, v50n20])).bind fun v57n25 =>
 optK (evFA3 Tryz.prog 209 2 v10n17 2) fun v59n26 =>
 insB (evLoad3 Tryz.prog 91 v59n26) fun v60n27 =>
 insB (evAppend3 Tryz.prog 91 (Value.slice none 0 0) v60n27) fun v61n28 =>
 optK (evFA3 Tryz.prog 209 2 v12n23 2) fun v63n29 =>
 insB (evLoad3 Tryz.prog 91 v63n29) fun v64n30 =>
 insB (evAppend3 Tryz.prog 91 v61n28 v64n30) fun v65n31 =>
 optK (len2 Tryz.prog #[91] [v65n31]) fun v67n32 =>
 LC_balerref09_Depths lf d rec (KC_balerref09_Depths lf d rec fu k (LB_balerref09_Depths lf d rec k fu) (kcC_balerref09_Depths lf d fu k)) lf x0 x2 x3 v57n25 x7 x8 v41n14 v10n17 v50n20 v12n23 v65n31 x18 x19 x20 x21 v39n13 v65n31 v67n32 (Value.int .i64 0)) (
 k (Ex.exit 2) [(0, x0), (2, x2), (3, x3), (4, x4), (7, x7), (8, x8), (18, x18), (19, x19), (20, x20), (21, x21), (39, v39n13)])
noncomputable def KA_balerref09_Depths (lf d : Nat) (rec : FuncId → Array Value → M Value) (dflt : Ex → Fr → M Value) : Ex → Fr → M Value := (kEx 0 (runCur [0, 2, 3, 4, 18, 19, 20, 21] (fun y0 y2 y3 y4 y18 y19 y20 y21 =>
 insB (evMake3 Tryz.prog 91 y3 y3) fun v35n11 =>
 LB_balerref09_Depths lf d rec (KB_balerref09_Depths lf d rec (kcB_balerref09_Depths lf d)) lf y0 y2 y3 y4 v35n11 y3 y18 y19 y20 y21) (dflt (Ex.exit 0))) dflt)
noncomputable def F_balerref09_Depths (lf d : Nat) (rec : FuncId → Array Value → M Value) (a0 : Value) : M Value :=
 optK (len2 Tryz.prog #[91] [a0]) fun v17n1 =>
 optK (len2 Tryz.prog #[91] [a0]) fun v19n2 =>
 LA_balerref09_Depths lf d rec (KA_balerref09_Depths lf d rec (kcA_balerref09_Depths lf d)) lf a0 (Value.slice none 0 0) v17n1 (Value.slice none 0 0) a0 v19n2 (Value.int .i64 0)
theorem LQA_balerref09_Depths (lf d : Nat) (k : Ex → Fr → M Value) : ∀ fu : Nat, LA_balerref09_Depths lf d (evC lf d) k fu = lpA_balerref09_Depths lf d fu k
  | 0 => by funext x0 x2 x3 x4 x18 x19 x20; kernel_rfl
  | fu + 1 => by
    have ih := LQA_balerref09_Depths lf d k fu
    funext x0 x2 x3 x4 x18 x19 x20; simp only [LA_balerref09_Depths, ih, bz209, clash3_eq, evAppend3_eq, evBS3_eq, evIA3_eq (P := Tryz.prog) Tryz.underlying91 gs3, evLoad3_eq (P := Tryz.prog) ga3, insB_eq, q_add_eq (P := Tryz.prog) nf3, q_lss_eq (P := Tryz.prog) nf3]; kernel_rfl
set_option maxRecDepth 20000 in
theorem KQB_balerref09_Depths (lf d : Nat) : KB_balerref09_Depths lf d (evC lf d) (kcB_balerref09_Depths lf d) = kcB_balerref09_Depths lf d := by
  unfold KB_balerref09_Depths
  refine Eq.trans (kEx_eq ?_) ?_
  · exact (runCur_eq _ _ _ (by intro y0 y2 y3 y4 y7 y8 y18 y19 y20 y21 y39; show _ = _; (try simp only [clash3_eq, insB_eq]); kernel_rfl))
  rfl
theorem LQC_balerref09_Depths (lf d : Nat) (k : Ex → Fr → M Value) : ∀ fu : Nat, LC_balerref09_Depths lf d (evC lf d) k fu = lpC_balerref09_Depths lf d fu k
  | 0 => by funext x0 x2 x3 x4 x7 x8 x9 x10 x11 x12 x13 x18 x19 x20 x21 x39 x66 x67 x68; kernel_rfl
  | fu + 1 => by
    have ih := LQC_balerref09_Depths lf d k fu
    funext x0 x2 x3 x4 x7 x8 x9 x10 x11 x12 x13 x18 x19 x20 x21 x39 x66 x67 x68; simp only [LC_balerref09_Depths, ih, clash3_eq, evIA3_eq (P := Tryz.prog) Tryz.underlying91 gs3, evLoad3_eq (P := Tryz.prog) ga3, evStore3_eq (P := Tryz.prog) gs3, insB_eq, q_add_eq (P := Tryz.prog) nf3, q_lss_eq (P := Tryz.prog) nf3]; kernel_rfl
set_option maxRecDepth 20000 in
theorem KQC_balerref09_Depths (lf d fu : Nat) (k : Ex → Fr → M Value) (again : Value → Value → Value → Value → Value → Value → Value → Value → Value → Value → M Value) (ha : again = lpB_balerref09_Depths lf d fu k) : KC_balerref09_Depths lf d (evC lf d) fu k again (kcC_balerref09_Depths lf d fu k) = kcC_balerref09_Depths lf d fu k := by
  subst ha
  unfold KC_balerref09_Depths
  refine Eq.trans (kEx_eq ?_) ?_
  · exact (runCur_eq _ _ _ (by intro y0 y2 y3 y4 y7 y8 y9 y10 y11 y12 y13 y18 y19 y20 y21 y39 y66 y67 y68 y69; show _ = _; (try simp only [bz209, clash3_eq, evAppend3_eq, evBS3_eq, evFA3_eq (P := Tryz.prog) gf209f0, evLoad3_eq (P := Tryz.prog) ga3, insB_eq, q_add_eq (P := Tryz.prog) nf3]); kernel_rfl))
  rfl
theorem LQB_balerref09_Depths (lf d : Nat) (k : Ex → Fr → M Value) : ∀ fu : Nat, LB_balerref09_Depths lf d (evC lf d) k fu = lpB_balerref09_Depths lf d fu k
  | 0 => by funext x0 x2 x3 x4 x7 x8 x18 x19 x20 x21; kernel_rfl
  | fu + 1 => by
    have ih := LQB_balerref09_Depths lf d k fu
    funext x0 x2 x3 x4 x7 x8 x18 x19 x20 x21; simp only [LB_balerref09_Depths, ih, KQC_balerref09_Depths lf d fu k _ rfl, LQC_balerref09_Depths, az209, clash3_eq, evAppend3_eq, evFA3_eq (P := Tryz.prog) gf209f2, evIA3_eq (P := Tryz.prog) Tryz.underlying207 gs209, evLoad3_eq (P := Tryz.prog) ga91, evLoadA3_eq (P := Tryz.prog) ga209 gs209, evStoreA3_eq (P := Tryz.prog) gs209, insB_eq, q_gtr_eq (P := Tryz.prog) nf3]; kernel_rfl
set_option maxRecDepth 20000 in
theorem KQA_balerref09_Depths (lf d : Nat) : KA_balerref09_Depths lf d (evC lf d) (kcA_balerref09_Depths lf d) = kcA_balerref09_Depths lf d := by
  unfold KA_balerref09_Depths
  refine Eq.trans (kEx_eq ?_) ?_
  · exact (runCur_eq _ _ _ (by intro y0 y2 y3 y4 y18 y19 y20 y21; show _ = _; (try simp only [KQB_balerref09_Depths lf d, LQB_balerref09_Depths, clash3_eq, evMake3_eq, insB_eq]); kernel_rfl))
  rfl
theorem fsh_balerref09_Depths (lf d : Nat) (a0 : Value) : inside (F_balerref09_Depths lf d (evC lf d) a0) = evC lf (d + 1) 161 #[a0] := by
  unfold F_balerref09_Depths; (try simp only [KQA_balerref09_Depths lf d, LQA_balerref09_Depths, clash3_eq, insB_eq]); kernel_rfl

/- balerref09_May -/
noncomputable def lpA_balerref09_May (lf d fu : Nat) (k : Ex → Fr → M Value) (x0 : Value) (x1 : Value) (x2 : Value) (x6 : Value) (x9 : Value) (x10 : Value) (x11 : Value) : M Value := loopK (fun s1 k1 => codeK Tryz.prog (evC lf d) (gtA 162) lf (codeAt (bodyOf Tryz.prog 162) [true, false, true, false, false]) s1 k1) [0, 1, 2, 6, 9, 10, 11] fu [(0, x0), (1, x1), (2, x2), (6, x6), (9, x9), (10, x10), (11, x11)] k
noncomputable def kcA_balerref09_May (lf d : Nat) : Ex → Fr → M Value := contAt Tryz.prog (evC lf d) (gtA 162) lf (bodyOf Tryz.prog 162) [true, false, true, false] (endK Tryz.prog (resOf Tryz.prog 162))
noncomputable def LA_balerref09_May (lf d : Nat) (rec : FuncId → Array Value → M Value) (k : Ex → Fr → M Value) : Nat → Value → Value → Value → Value → Value → Value → Value → M Value
 | 0, _, _, _, _, _, _, _ => M.fail
 | fu + 1, x0, x1, x2, x6, x9, x10, x11 =>
 optK (q_lss Tryz.prog 3 x11 x10) fun v12n2 =>
 ifV v12n2 (
 optK (evIA3 Tryz.prog 91 1 x9 x11) fun v13n3 =>
 insB (evLoad3 Tryz.prog 3 v13n3) fun v14n4 =>
 optK (q_lss Tryz.prog 3 v14n4 x1) fun v17n5 =>
 ifV v17n5 (
 k Ex.ret [(0, x0), (1, x1), (2, x2), (6, (Value.bool false)), (8, v14n4), (9, x9), (10, x10), (11, x11), (12, v12n2), (22, (Value.bool true))]) (
 optK (q_gtr Tryz.prog 3 v14n4 x2) fun v21n6 =>
 ifV v21n6 (
 k Ex.ret [(0, x0), (1, x1), (2, x2), (6, (Value.bool false)), (8, v14n4), (9, x9), (10, x10), (11, x11), (12, v12n2), (22, v21n6)]) (
 optK (q_add Tryz.prog 3 x11 (Value.int .i64 1)) fun v23n7 =>
 LA_balerref09_May lf d rec k fu x0 x1 x2 x6 x9 x10 v23n7))) (
 k (Ex.exit 0) [(0, x0), (1, x1), (2, x2), (6, x6), (9, x9), (10, x10), (11, x11), (12, v12n2)])
noncomputable def KA_balerref09_May (lf d : Nat) (rec : FuncId → Array Value → M Value) (dflt : Ex → Fr → M Value) : Ex → Fr → M Value := (kEx 0 (runCur [0, 1, 2, 6, 9, 10, 11, 12] (fun y0 y1 y2 y6 y9 y10 y11 y12 =>
 outK [(Value.bool true)]) (dflt (Ex.exit 0))) (kRt (runCur [0, 1, 2, 6, 8, 9, 10, 11, 12, 22] (fun y0 y1 y2 y6 y8 y9 y10 y11 y12 y22 =>
 outK [y6]) (dflt Ex.ret)) dflt))
noncomputable def F_balerref09_May (lf d : Nat) (rec : FuncId → Array Value → M Value) (a0 : Value) (a1 : Value) (a2 : Value) : M Value :=
 optK (len2 Tryz.prog #[91] [a0]) fun v10n1 =>
 LA_balerref09_May lf d rec (KA_balerref09_May lf d rec (kcA_balerref09_May lf d)) lf a0 a1 a2 (Value.bool false) a0 v10n1 (Value.int .i64 0)
theorem LQA_balerref09_May (lf d : Nat) (k : Ex → Fr → M Value) : ∀ fu : Nat, LA_balerref09_May lf d (evC lf d) k fu = lpA_balerref09_May lf d fu k
  | 0 => by funext x0 x1 x2 x6 x9 x10 x11; kernel_rfl
  | fu + 1 => by
    have ih := LQA_balerref09_May lf d k fu
    funext x0 x1 x2 x6 x9 x10 x11; simp only [LA_balerref09_May, ih, clash3_eq, evIA3_eq (P := Tryz.prog) Tryz.underlying91 gs3, evLoad3_eq (P := Tryz.prog) ga3, insB_eq, q_add_eq (P := Tryz.prog) nf3, q_gtr_eq (P := Tryz.prog) nf3, q_lss_eq (P := Tryz.prog) nf3]; kernel_rfl
set_option maxRecDepth 20000 in
theorem KQA_balerref09_May (lf d : Nat) : KA_balerref09_May lf d (evC lf d) (kcA_balerref09_May lf d) = kcA_balerref09_May lf d := by
  unfold KA_balerref09_May
  refine Eq.trans (kEx_eq ?_) ?_
  · exact (runCur_eq _ _ _ (by intro y0 y1 y2 y6 y9 y10 y11 y12; show _ = _; (try simp only [clash3_eq, insB_eq]); kernel_rfl))
  refine Eq.trans (kRt_eq ?_) ?_
  · exact (runCur_eq _ _ _ (by intro y0 y1 y2 y6 y8 y9 y10 y11 y12 y22; show _ = _; (try simp only [clash3_eq, insB_eq]); kernel_rfl))
  rfl
theorem fsh_balerref09_May (lf d : Nat) (a0 : Value) (a1 : Value) (a2 : Value) : inside (F_balerref09_May lf d (evC lf d) a0 a1 a2) = evC lf (d + 1) 162 #[a0, a1, a2] := by
  unfold F_balerref09_May; (try simp only [KQA_balerref09_May lf d, LQA_balerref09_May, clash3_eq, insB_eq]); kernel_rfl

/- balerref09_Halved -/
noncomputable def lpA_balerref09_Halved (lf d fu : Nat) (k : Ex → Fr → M Value) (x0 : Value) (x2 : Value) (x3 : Value) (x6 : Value) (x7 : Value) (x8 : Value) : M Value := loopK (fun s1 k1 => codeK Tryz.prog (evC lf d) (gtA 163) lf (codeAt (bodyOf Tryz.prog 163) [true, true, false, true, false, false]) s1 k1) [0, 2, 3, 6, 7, 8] fu [(0, x0), (2, x2), (3, x3), (6, x6), (7, x7), (8, x8)] k
noncomputable def kcA_balerref09_Halved (lf d : Nat) : Ex → Fr → M Value := contAt Tryz.prog (evC lf d) (gtA 163) lf (bodyOf Tryz.prog 163) [true, true, false, true, false] (endK Tryz.prog (resOf Tryz.prog 163))
noncomputable def LA_balerref09_Halved (lf d : Nat) (rec : FuncId → Array Value → M Value) (k : Ex → Fr → M Value) : Nat → Value → Value → Value → Value → Value → Value → M Value
 | 0, _, _, _, _, _, _ => M.fail
 | fu + 1, x0, x2, x3, x6, x7, x8 =>
 optK (q_lss Tryz.prog 3 x8 x7) fun v9n2 =>
 ifV v9n2 (
 optK (evIA3 Tryz.prog 91 1 x6 x8) fun v10n3 =>
 insB (evLoad3 Tryz.prog 3 v10n3) fun v11n4 =>
 optK (q_lss Tryz.prog 3 v11n4 (Value.int .i64 0)) fun v13n5 =>
 ifV v13n5 (
 optK (q_quo Tryz.prog 3 (Value.int .i64 0) (Value.int .i64 2)) fun v16n6 =>
 optK (q_add Tryz.prog 3 v16n6 (Value.int .i64 1)) fun v17n7 =>
 insB (evBS3 Tryz.prog 91 1 [(0, v17n7)]) fun v18n8 =>
 insB (evAppend3 Tryz.prog 91 x3 v18n8) fun v19n9 =>
 optK (q_add Tryz.prog 3 x8 (Value.int .i64 1)) fun v20n10 =>
 LA_balerref09_Halved lf d rec k fu x0 x2 v19n9 x6 x7 v20n10) (
 optK (q_quo Tryz.prog 3 v11n4 (Value.int .i64 2)) fun v16n11 =>
 optK (q_add Tryz.prog 3 v16n11 (Value.int .i64 1)) fun v17n12 =>
 insB (evBS3 Tryz.prog 91 1 [(0, v17n12)]) fun v18n13 =>
 insB (evAppend3 Tryz.prog 91 x3 v18n13) fun v19n14 =>
 optK (q_add Tryz.prog 3 x8 (Value.int .i64 1)) fun v20n15 =>
 LA_balerref09_Halved lf d rec k fu x0 x2 v19n14 x6 x7 v20n15)) (
 k (Ex.exit 0) [(0, x0), (2, x2), (3, x3), (6, x6), (7, x7), (8, x8), (9, v9n2)])
noncomputable def KA_balerref09_Halved (lf d : Nat) (rec : FuncId → Array Value → M Value) (dflt : Ex → Fr → M Value) : Ex → Fr → M Value := (kEx 0 (runCur [0, 2, 3, 6, 7, 8, 9] (fun y0 y2 y3 y6 y7 y8 y9 =>
 outK [y3]) (dflt (Ex.exit 0))) dflt)
noncomputable def F_balerref09_Halved (lf d : Nat) (rec : FuncId → Array Value → M Value) (a0 : Value) : M Value :=
 optK (len2 Tryz.prog #[91] [a0]) fun v7n1 =>
 LA_balerref09_Halved lf d rec (KA_balerref09_Halved lf d rec (kcA_balerref09_Halved lf d)) lf a0 (Value.slice none 0 0) (Value.slice none 0 0) a0 v7n1 (Value.int .i64 0)
theorem LQA_balerref09_Halved (lf d : Nat) (k : Ex → Fr → M Value) : ∀ fu : Nat, LA_balerref09_Halved lf d (evC lf d) k fu = lpA_balerref09_Halved lf d fu k
  | 0 => by funext x0 x2 x3 x6 x7 x8; kernel_rfl
  | fu + 1 => by
    have ih := LQA_balerref09_Halved lf d k fu
    funext x0 x2 x3 x6 x7 x8; simp only [LA_balerref09_Halved, ih, clash3_eq, evAppend3_eq, evBS3_eq, evIA3_eq (P := Tryz.prog) Tryz.underlying91 gs3, evLoad3_eq (P := Tryz.prog) ga3, insB_eq, q_add_eq (P := Tryz.prog) nf3, q_lss_eq (P := Tryz.prog) nf3, q_quo_eq (P := Tryz.prog) nf3]; kernel_rfl
set_option maxRecDepth 20000 in
theorem KQA_balerref09_Halved (lf d : Nat) : KA_balerref09_Halved lf d (evC lf d) (kcA_balerref09_Halved lf d) = kcA_balerref09_Halved lf d := by
  unfold KA_balerref09_Halved
  refine Eq.trans (kEx_eq ?_) ?_
  · exact (runCur_eq _ _ _ (by intro y0 y2 y3 y6 y7 y8 y9; show _ = _; (try simp only [clash3_eq, insB_eq]); kernel_rfl))
  rfl
theorem fsh_balerref09_Halved (lf d : Nat) (a0 : Value) : inside (F_balerref09_Halved lf d (evC lf d) a0) = evC lf (d + 1) 163 #[a0] := by
  unfold F_balerref09_Halved; (try simp only [KQA_balerref09_Halved lf d, LQA_balerref09_Halved, clash3_eq, insB_eq]); kernel_rfl

/- block_Reader_begin -/
noncomputable def F_block_Reader_begin (lf d : Nat) (rec : FuncId → Array Value → M Value) (a0 : Value) (a1 : Value) : M Value :=
 (inside (rec 68 #[a1])).bind fun v12n1 =>
 optK (q_lss Tryz.prog 3 v12n1 (Value.int .i64 57)) fun v13n2 =>
 ifV v13n2 (
 outK [(Value.int .i64 3)]) (
 (inside (rec 138 #[a1, (Value.int .i64 32)])).bind fun v16n3 =>
 optK (evExtract v16n3 0) fun v17n4 =>
 optK (evExtract v16n3 1) fun v18n5 =>
 (inside (rec 138 #[a1, (Value.int .i64 1)])).bind fun v21n6 =>
 optK (evExtract v21n6 0) fun v22n7 =>
 optK (evExtract v21n6 1) fun v23n8 =>
 (inside (rec 138 #[a1, (Value.int .i64 24)])).bind fun v26n9 =>
 optK (evExtract v26n9 0) fun v27n10 =>
 optK (evExtract v26n9 1) fun v28n11 =>
 optK (nil2 a0) fun v30n12 =>
 optK (evFA3 Tryz.prog 118 2 v30n12 2) fun v31n13 =>
 insB (evStore3 Tryz.prog 4 v31n13 (Value.bool true)) fun u14 =>
 optK (nil2 a0) fun v34n15 =>
 optK (evFA3 Tryz.prog 118 3 v34n15 3) fun v35n16 =>
 insB (evStore3 Tryz.prog 62 v35n16 v17n4) fun u17 =>
 conv3 Tryz.prog 62 3 .u32 .i64 v27n10 fun v38n18 =>
 optK (nil2 a0) fun v39n19 =>
 optK (evFA3 Tryz.prog 118 4 v39n19 4) fun v40n20 =>
 insB (evStore3 Tryz.prog 3 v40n20 v38n18) fun u21 =>
 optK (q_eql Tryz.prog 62 v22n7 (Value.int .u32 1)) fun v42n22 =>
 ifV v42n22 (
 outK [(Value.int .i64 25)]) (
 outK [(Value.int .i64 0)]))
theorem fsh_block_Reader_begin (lf d : Nat) (a0 : Value) (a1 : Value) : inside (F_block_Reader_begin lf d (evC lf d) a0 a1) = evC lf (d + 1) 166 #[a0, a1] := by
  unfold F_block_Reader_begin; (try simp only [clash3_eq, conv3_eq cw62x3, evFA3_eq (P := Tryz.prog) gf118f2, evFA3_eq (P := Tryz.prog) gf118f3, evFA3_eq (P := Tryz.prog) gf118f4, evStore3_eq (P := Tryz.prog) gs3, evStore3_eq (P := Tryz.prog) gs4, evStore3_eq (P := Tryz.prog) gs62, insB_eq, q_eql_eq (P := Tryz.prog) nf62, q_lss_eq (P := Tryz.prog) nf3]); kernel_rfl

/- block_Reader_symbols -/
noncomputable def F_block_Reader_symbols (lf d : Nat) (rec : FuncId → Array Value → M Value) (a0 : Value) (a1 : Value) : M Value :=
 (inside (rec 175 #[a1])).bind fun v9n1 =>
 optK (evExtract v9n1 0) fun v10n2 =>
 optK (evExtract v9n1 1) fun v11n3 =>
 optK (q_eql Tryz.prog 27 v11n3 (Value.int .i64 0)) fun v13n4 =>
 ifV v13n4 (
 optK (nil2 a0) fun v17n5 =>
 optK (evFA3 Tryz.prog 118 1 v17n5 1) fun v18n6 =>
 insB (evLoad3 Tryz.prog 3 v18n6) fun v19n7 =>
 (inside (rec 176 #[v10n2, v19n7])).bind fun v20n8 =>
 optK (nil2 a0) fun v21n9 =>
 optK (evFA3 Tryz.prog 118 0 v21n9 0) fun v22n10 =>
 insB (evStore3 Tryz.prog 116 v22n10 v20n8) fun u11 =>
 outK [v11n3]) (
 outK [v11n3])
theorem fsh_block_Reader_symbols (lf d : Nat) (a0 : Value) (a1 : Value) : inside (F_block_Reader_symbols lf d (evC lf d) a0 a1) = evC lf (d + 1) 167 #[a0, a1] := by
  unfold F_block_Reader_symbols; (try simp only [clash3_eq, evFA3_eq (P := Tryz.prog) gf118f0, evFA3_eq (P := Tryz.prog) gf118f1, evLoad3_eq (P := Tryz.prog) ga3, evStore3_eq (P := Tryz.prog) gs116, insB_eq, q_eql_eq (P := Tryz.prog) nf27]); kernel_rfl

/- block_row_waits -/
noncomputable def F_block_row_waits (lf d : Nat) (rec : FuncId → Array Value → M Value) (a0 : Value) : M Value :=
 optK (qP_neq Tryz.prog 116 a0 (Value.pointer none)) fun v4n1 =>
 ifV v4n1 (
 optK (nil2 a0) fun v7n2 =>
 optK (evFA3 Tryz.prog 123 3 v7n2 3) fun v8n3 =>
 insB (evLoad3 Tryz.prog 3 v8n3) fun v9n4 =>
 optK (q_gtr Tryz.prog 3 v9n4 (Value.int .i64 0)) fun v10n5 =>
 ifV v10n5 (
 outK [(Value.bool true)]) (
 optK (nil2 a0) fun v13n6 =>
 optK (evFA3 Tryz.prog 123 4 v13n6 4) fun v14n7 =>
 insB (evLoad3 Tryz.prog 3 v14n7) fun v15n8 =>
 optK (q_gtr Tryz.prog 3 v15n8 (Value.int .i64 0)) fun v16n9 =>
 outK [v16n9])) (
 outK [(Value.bool false)])
theorem fsh_block_row_waits (lf d : Nat) (a0 : Value) : inside (F_block_row_waits lf d (evC lf d) a0) = evC lf (d + 1) 168 #[a0] := by
  unfold F_block_row_waits; (try simp only [clash3_eq, evFA3_eq (P := Tryz.prog) gf123f3, evFA3_eq (P := Tryz.prog) gf123f4, evLoad3_eq (P := Tryz.prog) ga3, insB_eq, qP_neq_eq (P := Tryz.prog) Tryz.underlying116, q_gtr_eq (P := Tryz.prog) nf3]); kernel_rfl

/- block_row_next -/
noncomputable def F_block_row_next (lf d : Nat) (rec : FuncId → Array Value → M Value) (a0 : Value) : M Value :=
 optK (nil2 a0) fun v7n1 =>
 optK (evFA3 Tryz.prog 123 3 v7n1 3) fun v8n2 =>
 insB (evLoad3 Tryz.prog 3 v8n2) fun v9n3 =>
 optK (q_gtr Tryz.prog 3 v9n3 (Value.int .i64 0)) fun v10n4 =>
 ifV v10n4 (
 optK (nil2 a0) fun v12n5 =>
 optK (evFA3 Tryz.prog 123 3 v12n5 3) fun v13n6 =>
 insB (evLoad3 Tryz.prog 3 v13n6) fun v14n7 =>
 optK (q_sub Tryz.prog 3 v14n7 (Value.int .i64 1)) fun v15n8 =>
 optK (nil2 a0) fun v16n9 =>
 optK (evFA3 Tryz.prog 123 3 v16n9 3) fun v17n10 =>
 insB (evStore3 Tryz.prog 3 v17n10 v15n8) fun u11 =>
 optK (nil2 a0) fun v27n12 =>
 optK (evFA3 Tryz.prog 123 2 v27n12 2) fun v28n13 =>
 insB (evLoad3 Tryz.prog 121 v28n13) fun v29n14 =>
 (inside (rec 177 #[v29n14, (Value.int .i64 0)])).bind fun v31n15 =>
 optK (evExtract v31n15 0) fun v32n16 =>
 optK (evExtract v31n15 1) fun v33n17 =>
 outK [v32n16]) (
 optK (nil2 a0) fun v19n18 =>
 optK (evFA3 Tryz.prog 123 4 v19n18 4) fun v20n19 =>
 insB (evLoad3 Tryz.prog 3 v20n19) fun v21n20 =>
 optK (nil2 a0) fun v23n21 =>
 optK (evFA3 Tryz.prog 123 4 v23n21 4) fun v24n22 =>
 insB (evStore3 Tryz.prog 3 v24n22 (Value.int .i64 0)) fun u23 =>
 optK (nil2 a0) fun v27n24 =>
 optK (evFA3 Tryz.prog 123 2 v27n24 2) fun v28n25 =>
 insB (evLoad3 Tryz.prog 121 v28n25) fun v29n26 =>
 (inside (rec 177 #[v29n26, v21n20])).bind fun v31n27 =>
 optK (evExtract v31n27 0) fun v32n28 =>
 optK (evExtract v31n27 1) fun v33n29 =>
 outK [v32n28])
theorem fsh_block_row_next (lf d : Nat) (a0 : Value) : inside (F_block_row_next lf d (evC lf d) a0) = evC lf (d + 1) 169 #[a0] := by
  unfold F_block_row_next; (try simp only [clash3_eq, evFA3_eq (P := Tryz.prog) gf123f2, evFA3_eq (P := Tryz.prog) gf123f3, evFA3_eq (P := Tryz.prog) gf123f4, evLoad3_eq (P := Tryz.prog) ga121, evLoad3_eq (P := Tryz.prog) ga3, evStore3_eq (P := Tryz.prog) gs3, insB_eq, q_gtr_eq (P := Tryz.prog) nf3, q_sub_eq (P := Tryz.prog) nf3]); kernel_rfl

/- block_Reader_symbol -/
noncomputable def F_block_Reader_symbol (lf d : Nat) (rec : FuncId → Array Value → M Value) (a0 : Value) (a1 : Value) : M Value :=
 optK (nil2 a0) fun v9n1 =>
 optK (evFA3 Tryz.prog 118 0 v9n1 0) fun v10n2 =>
 insB (evLoad3 Tryz.prog 116 v10n2) fun v11n3 =>
 optK (nil2 v11n3) fun v12n4 =>
 optK (evFA3 Tryz.prog 123 0 v12n4 0) fun v13n5 =>
 insB (evLoad3 Tryz.prog 119 v13n5) fun v14n6 =>
 (inside (rec 178 #[v14n6, a1])).bind fun v16n7 =>
 optK (evExtract v16n7 0) fun v17n8 =>
 optK (evExtract v16n7 1) fun v18n9 =>
 optK (q_neq Tryz.prog 27 v18n9 (Value.int .i64 0)) fun v20n10 =>
 ifV v20n10 (
 outK [v18n9]) (
 optK (q_lss Tryz.prog 3 v17n8 (Value.int .i64 0)) fun v23n11 =>
 ifV v23n11 (
 outK [v18n9]) (
 optK (nil2 a0) fun v27n12 =>
 optK (evFA3 Tryz.prog 118 0 v27n12 0) fun v28n13 =>
 insB (evLoad3 Tryz.prog 116 v28n13) fun v29n14 =>
 (inside (rec 179 #[v29n14, v17n8])).bind fun v31n15 =>
 outK [v31n15]))
theorem fsh_block_Reader_symbol (lf d : Nat) (a0 : Value) (a1 : Value) : inside (F_block_Reader_symbol lf d (evC lf d) a0 a1) = evC lf (d + 1) 170 #[a0, a1] := by
  unfold F_block_Reader_symbol; (try simp only [clash3_eq, evFA3_eq (P := Tryz.prog) gf118f0, evFA3_eq (P := Tryz.prog) gf123f0, evLoad3_eq (P := Tryz.prog) ga116, evLoad3_eq (P := Tryz.prog) ga119, insB_eq, q_lss_eq (P := Tryz.prog) nf3, q_neq_eq (P := Tryz.prog) nf27]); kernel_rfl

/- block_Reader_end -/
noncomputable def F_block_Reader_end (lf d : Nat) (rec : FuncId → Array Value → M Value) (a0 : Value) : M Value :=
 optK (nil2 a0) fun v5n1 =>
 optK (evFA3 Tryz.prog 118 0 v5n1 0) fun v6n2 =>
 insB (evLoad3 Tryz.prog 116 v6n2) fun v7n3 =>
 optK (qP_eql Tryz.prog 116 v7n3 (Value.pointer none)) fun v8n4 =>
 ifV v8n4 (
 outK [(Value.int .i64 0)]) (
 optK (nil2 a0) fun v11n5 =>
 optK (evFA3 Tryz.prog 118 0 v11n5 0) fun v12n6 =>
 insB (evLoad3 Tryz.prog 116 v12n6) fun v13n7 =>
 optK (nil2 v13n7) fun v14n8 =>
 optK (evFA3 Tryz.prog 123 0 v14n8 0) fun v15n9 =>
 insB (evLoad3 Tryz.prog 119 v15n9) fun v16n10 =>
 (inside (rec 180 #[v16n10])).bind fun v17n11 =>
 optK (un3 Tryz.prog .not v17n11) fun v18n12 =>
 ifV v18n12 (
 outK [(Value.int .i64 0)]) (
 optK (nil2 a0) fun v22n13 =>
 optK (evFA3 Tryz.prog 118 0 v22n13 0) fun v23n14 =>
 insB (evLoad3 Tryz.prog 116 v23n14) fun v24n15 =>
 (inside (rec 168 #[v24n15])).bind fun v25n16 =>
 ifV v25n16 (
 outK [(Value.int .i64 0)]) (
 optK (nil2 a0) fun v29n17 =>
 optK (evFA3 Tryz.prog 118 4 v29n17 4) fun v30n18 =>
 insB (evLoad3 Tryz.prog 3 v30n18) fun v31n19 =>
 optK (nil2 a0) fun v33n20 =>
 optK (evFA3 Tryz.prog 118 5 v33n20 5) fun v34n21 =>
 insB (evLoad3 Tryz.prog 58 v34n21) fun v35n22 =>
 optK (len2 Tryz.prog #[58] [v35n22]) fun v36n23 =>
 optK (q_geq Tryz.prog 3 v31n19 v36n23) fun v37n24 =>
 ifV v37n24 (
 outK [(Value.int .i64 23)]) (
 optK (nil2 a0) fun v39n25 =>
 optK (evFA3 Tryz.prog 118 6 v39n25 6) fun v40n26 =>
 insB (evStore3 Tryz.prog 4 v40n26 (Value.bool true)) fun u27 =>
 outK [(Value.int .i64 0)]))))
theorem fsh_block_Reader_end (lf d : Nat) (a0 : Value) : inside (F_block_Reader_end lf d (evC lf d) a0) = evC lf (d + 1) 171 #[a0] := by
  unfold F_block_Reader_end; (try simp only [clash3_eq, evFA3_eq (P := Tryz.prog) gf118f0, evFA3_eq (P := Tryz.prog) gf118f4, evFA3_eq (P := Tryz.prog) gf118f5, evFA3_eq (P := Tryz.prog) gf118f6, evFA3_eq (P := Tryz.prog) gf123f0, evLoad3_eq (P := Tryz.prog) ga116, evLoad3_eq (P := Tryz.prog) ga119, evLoad3_eq (P := Tryz.prog) ga3, evLoad3_eq (P := Tryz.prog) ga58, evStore3_eq (P := Tryz.prog) gs4, insB_eq, qP_eql_eq (P := Tryz.prog) Tryz.underlying116, q_geq_eq (P := Tryz.prog) nf3, un3_eq]); kernel_rfl

/- balerref08_most -/
noncomputable def F_balerref08_most (lf d : Nat) (rec : FuncId → Array Value → M Value) (a0 : Value) : M Value :=
 optK (q_gtr Tryz.prog 3 a0 (Value.int .i64 1099511627776)) fun v4n1 =>
 ifV v4n1 (
 outK [(Value.int .i64 1099511627776)]) (
 outK [a0])
theorem fsh_balerref08_most (lf d : Nat) (a0 : Value) : inside (F_balerref08_most lf d (evC lf d) a0) = evC lf (d + 1) 172 #[a0] := by
  unfold F_balerref08_most; (try simp only [clash3_eq, insB_eq, q_gtr_eq (P := Tryz.prog) nf3]); kernel_rfl

/- balerref09_least -/
noncomputable def lpA_balerref09_least (lf d fu : Nat) (k : Ex → Fr → M Value) (x0 : Value) (x2 : Value) (x3 : Value) (x6 : Value) (x7 : Value) (x8 : Value) : M Value := loopK (fun s1 k1 => codeK Tryz.prog (evC lf d) (gtA 173) lf (codeAt (bodyOf Tryz.prog 173) [true, true, false, true, false, false]) s1 k1) [0, 2, 3, 6, 7, 8] fu [(0, x0), (2, x2), (3, x3), (6, x6), (7, x7), (8, x8)] k
noncomputable def kcA_balerref09_least (lf d : Nat) : Ex → Fr → M Value := contAt Tryz.prog (evC lf d) (gtA 173) lf (bodyOf Tryz.prog 173) [true, true, false, true, false] (endK Tryz.prog (resOf Tryz.prog 173))
noncomputable def LA_balerref09_least (lf d : Nat) (rec : FuncId → Array Value → M Value) (k : Ex → Fr → M Value) : Nat → Value → Value → Value → Value → Value → Value → M Value
 | 0, _, _, _, _, _, _ => M.fail
 | fu + 1, x0, x2, x3, x6, x7, x8 =>
 optK (q_lss Tryz.prog 3 x8 x7) fun v9n2 =>
 ifV v9n2 (
 optK (evIA3 Tryz.prog 207 3 x6 x8) fun v11n3 =>
 insB (evLoadA3 Tryz.prog 209 3 v11n3) fun v12n4 =>
 insB (evAllocZ 209 [Value.int .i64 0, Value.int .i64 0, Value.slice none 0 0]) fun v5n5 =>
 insB (evStoreA3 Tryz.prog 209 3 v5n5 v12n4) fun u6 =>
 insB (evLoadA3 Tryz.prog 209 3 v5n5) fun v13n7 =>
 optK (evIA3 Tryz.prog 207 3 x0 x3) fun v16n8 =>
 insB (evLoadA3 Tryz.prog 209 3 v16n8) fun v17n9 =>
 (inside (rec 181 #[v13n7, v17n9])).bind fun v18n10 =>
 ifV v18n10 (
 optK (q_add Tryz.prog 3 x8 (Value.int .i64 1)) fun v20n11 =>
 LA_balerref09_least lf d rec k fu x0 x2 x8 x6 x7 v20n11) (
 optK (q_add Tryz.prog 3 x8 (Value.int .i64 1)) fun v20n12 =>
 LA_balerref09_least lf d rec k fu x0 x2 x3 x6 x7 v20n12)) (
 k (Ex.exit 0) [(0, x0), (2, x2), (3, x3), (6, x6), (7, x7), (8, x8), (9, v9n2)])
noncomputable def KA_balerref09_least (lf d : Nat) (rec : FuncId → Array Value → M Value) (dflt : Ex → Fr → M Value) : Ex → Fr → M Value := (kEx 0 (runCur [0, 2, 3, 6, 7, 8, 9] (fun y0 y2 y3 y6 y7 y8 y9 =>
 outK [y3]) (dflt (Ex.exit 0))) dflt)
noncomputable def F_balerref09_least (lf d : Nat) (rec : FuncId → Array Value → M Value) (a0 : Value) : M Value :=
 optK (len2 Tryz.prog #[207] [a0]) fun v7n1 =>
 LA_balerref09_least lf d rec (KA_balerref09_least lf d rec (kcA_balerref09_least lf d)) lf a0 (Value.int .i64 0) (Value.int .i64 0) a0 v7n1 (Value.int .i64 0)
theorem LQA_balerref09_least (lf d : Nat) (k : Ex → Fr → M Value) : ∀ fu : Nat, LA_balerref09_least lf d (evC lf d) k fu = lpA_balerref09_least lf d fu k
  | 0 => by funext x0 x2 x3 x6 x7 x8; kernel_rfl
  | fu + 1 => by
    have ih := LQA_balerref09_least lf d k fu
    funext x0 x2 x3 x6 x7 x8; simp only [LA_balerref09_least, ih, az209, clash3_eq, evIA3_eq (P := Tryz.prog) Tryz.underlying207 gs209, evLoadA3_eq (P := Tryz.prog) ga209 gs209, evStoreA3_eq (P := Tryz.prog) gs209, insB_eq, q_add_eq (P := Tryz.prog) nf3, q_lss_eq (P := Tryz.prog) nf3]; kernel_rfl
set_option maxRecDepth 20000 in
theorem KQA_balerref09_least (lf d : Nat) : KA_balerref09_least lf d (evC lf d) (kcA_balerref09_least lf d) = kcA_balerref09_least lf d := by
  unfold KA_balerref09_least
  refine Eq.trans (kEx_eq ?_) ?_
  · exact (runCur_eq _ _ _ (by intro y0 y2 y3 y6 y7 y8 y9; show _ = _; (try simp only [clash3_eq, insB_eq]); kernel_rfl))
  rfl
theorem fsh_balerref09_least (lf d : Nat) (a0 : Value) : inside (F_balerref09_least lf d (evC lf d) a0) = evC lf (d + 1) 173 #[a0] := by
  unfold F_balerref09_least; (try simp only [KQA_balerref09_least lf d, LQA_balerref09_least, clash3_eq, insB_eq]); kernel_rfl

/- balerref09_without -/
noncomputable def lpA_balerref09_without (lf d fu : Nat) (k : Ex → Fr → M Value) (x0 : Value) (x1 : Value) (x4 : Value) (x5 : Value) (x8 : Value) (x9 : Value) (x10 : Value) : M Value := loopK (fun s1 k1 => codeK Tryz.prog (evC lf d) (gtA 174) lf (codeAt (bodyOf Tryz.prog 174) [true, true, false, true, false, false]) s1 k1) [0, 1, 4, 5, 8, 9, 10] fu [(0, x0), (1, x1), (4, x4), (5, x5), (8, x8), (9, x9), (10, x10)] k
noncomputable def kcA_balerref09_without (lf d : Nat) : Ex → Fr → M Value := contAt Tryz.prog (evC lf d) (gtA 174) lf (bodyOf Tryz.prog 174) [true, true, false, true, false] (endK Tryz.prog (resOf Tryz.prog 174))
noncomputable def LA_balerref09_without (lf d : Nat) (rec : FuncId → Array Value → M Value) (k : Ex → Fr → M Value) : Nat → Value → Value → Value → Value → Value → Value → Value → M Value
 | 0, _, _, _, _, _, _, _ => M.fail
 | fu + 1, x0, x1, x4, x5, x8, x9, x10 =>
 optK (q_lss Tryz.prog 3 x10 x9) fun v11n2 =>
 ifV v11n2 (
 optK (evIA3 Tryz.prog 207 3 x8 x10) fun v13n3 =>
 insB (evLoadA3 Tryz.prog 209 3 v13n3) fun v14n4 =>
 insB (evAllocZ 209 [Value.int .i64 0, Value.int .i64 0, Value.slice none 0 0]) fun v7n5 =>
 insB (evStoreA3 Tryz.prog 209 3 v7n5 v14n4) fun u6 =>
 optK (q_neq Tryz.prog 3 x10 x1) fun v17n7 =>
 ifV v17n7 (
 insB (evLoadA3 Tryz.prog 209 3 v7n5) fun v19n8 =>
 insB (evBS3 Tryz.prog 207 1 [(0, v19n8)]) fun v20n9 =>
 insB (evAppend3 Tryz.prog 207 x5 v20n9) fun v21n10 =>
 optK (q_add Tryz.prog 3 x10 (Value.int .i64 1)) fun v22n11 =>
 LA_balerref09_without lf d rec k fu x0 x1 x4 v21n10 x8 x9 v22n11) (
 optK (q_add Tryz.prog 3 x10 (Value.int .i64 1)) fun v22n12 =>
 LA_balerref09_without lf d rec k fu x0 x1 x4 x5 x8 x9 v22n12)) (
 k (Ex.exit 0) [(0, x0), (1, x1), (4, x4), (5, x5), (8, x8), (9, x9), (10, x10), (11, v11n2)])
noncomputable def KA_balerref09_without (lf d : Nat) (rec : FuncId → Array Value → M Value) (dflt : Ex → Fr → M Value) : Ex → Fr → M Value := (kEx 0 (runCur [0, 1, 4, 5, 8, 9, 10, 11] (fun y0 y1 y4 y5 y8 y9 y10 y11 =>
 outK [y5]) (dflt (Ex.exit 0))) dflt)
noncomputable def F_balerref09_without (lf d : Nat) (rec : FuncId → Array Value → M Value) (a0 : Value) (a1 : Value) : M Value :=
 optK (len2 Tryz.prog #[207] [a0]) fun v9n1 =>
 LA_balerref09_without lf d rec (KA_balerref09_without lf d rec (kcA_balerref09_without lf d)) lf a0 a1 (Value.slice none 0 0) (Value.slice none 0 0) a0 v9n1 (Value.int .i64 0)
theorem LQA_balerref09_without (lf d : Nat) (k : Ex → Fr → M Value) : ∀ fu : Nat, LA_balerref09_without lf d (evC lf d) k fu = lpA_balerref09_without lf d fu k
  | 0 => by funext x0 x1 x4 x5 x8 x9 x10; kernel_rfl
  | fu + 1 => by
    have ih := LQA_balerref09_without lf d k fu
    funext x0 x1 x4 x5 x8 x9 x10; simp only [LA_balerref09_without, ih, az209, clash3_eq, evAppend3_eq, evBS3_eq, evIA3_eq (P := Tryz.prog) Tryz.underlying207 gs209, evLoadA3_eq (P := Tryz.prog) ga209 gs209, evStoreA3_eq (P := Tryz.prog) gs209, insB_eq, q_add_eq (P := Tryz.prog) nf3, q_lss_eq (P := Tryz.prog) nf3, q_neq_eq (P := Tryz.prog) nf3]; kernel_rfl
set_option maxRecDepth 20000 in
theorem KQA_balerref09_without (lf d : Nat) : KA_balerref09_without lf d (evC lf d) (kcA_balerref09_without lf d) = kcA_balerref09_without lf d := by
  unfold KA_balerref09_without
  refine Eq.trans (kEx_eq ?_) ?_
  · exact (runCur_eq _ _ _ (by intro y0 y1 y4 y5 y8 y9 y10 y11; show _ = _; (try simp only [clash3_eq, insB_eq]); kernel_rfl))
  rfl
theorem fsh_balerref09_without (lf d : Nat) (a0 : Value) (a1 : Value) : inside (F_balerref09_without lf d (evC lf d) a0 a1) = evC lf (d + 1) 174 #[a0, a1] := by
  unfold F_balerref09_without; (try simp only [KQA_balerref09_without lf d, LQA_balerref09_without, clash3_eq, insB_eq]); kernel_rfl

/- used_Read -/
noncomputable def F_used_Read (lf d : Nat) (rec : FuncId → Array Value → M Value) (a0 : Value) : M Value :=
 (inside (rec 182 #[a0])).bind fun v8n1 =>
 (inside (rec 183 #[a0])).bind fun v11n2 =>
 optK (evExtract v11n2 0) fun v12n3 =>
 optK (evExtract v11n2 1) fun v13n4 =>
 optK (q_neq Tryz.prog 27 v13n4 (Value.int .i64 0)) fun v15n5 =>
 ifV v15n5 (
 (inside (rec 184 #[a0, v8n1])).bind fun v18n6 =>
 outK [v12n3, v13n4]) (
 outK [v12n3, v13n4])
theorem fsh_used_Read (lf d : Nat) (a0 : Value) : inside (F_used_Read lf d (evC lf d) a0) = evC lf (d + 1) 175 #[a0] := by
  unfold F_used_Read; (try simp only [clash3_eq, insB_eq, q_neq_eq (P := Tryz.prog) nf27]); kernel_rfl

/- block_rowOf -/
noncomputable def F_block_rowOf (lf d : Nat) (rec : FuncId → Array Value → M Value) (a0 : Value) (a1 : Value) : M Value :=
 optK (len2 Tryz.prog #[9] [a0]) fun v13n1 =>
 optK (q_add Tryz.prog 3 v13n1 (Value.int .i64 2)) fun v14n2 =>
 (inside (rec 185 #[v14n2])).bind fun v15n3 =>
 optK (evExtract v15n3 0) fun v16n4 =>
 optK (evExtract v15n3 1) fun v17n5 =>
 optK (len2 Tryz.prog #[9] [a0]) fun v20n6 =>
 (inside (rec 186 #[v20n6, a1])).bind fun v22n7 =>
 optK (evExtract v22n7 0) fun v23n8 =>
 optK (evExtract v22n7 1) fun v24n9 =>
 (inside (rec 187 #[a0])).bind fun v27n10 =>
 optK (evExtract v27n10 0) fun v28n11 =>
 optK (evExtract v27n10 1) fun v29n12 =>
 insB (evBuildZ Tryz.prog 123 [Value.pointer none, Value.pointer none, Value.pointer none, Value.int .i64 0, Value.int .i64 0] [(0, v16n4), (1, v23n8), (2, v28n11)]) fun v33n13 =>
 insB (evBox3 Tryz.prog 123 v33n13) fun v34n14 =>
 outK [v34n14]
theorem fsh_block_rowOf (lf d : Nat) (a0 : Value) (a1 : Value) : inside (F_block_rowOf lf d (evC lf d) a0 a1) = evC lf (d + 1) 176 #[a0, a1] := by
  unfold F_block_rowOf; (try simp only [bz123, clash3_eq, evBox3_eq, insB_eq, q_add_eq (P := Tryz.prog) nf3]); kernel_rfl

/- mtf_List_At -/
noncomputable def F_mtf_List_At (lf d : Nat) (rec : FuncId → Array Value → M Value) (a0 : Value) (a1 : Value) : M Value :=
 optK (qP_eql Tryz.prog 121 a0 (Value.pointer none)) fun v8n1 =>
 ifV v8n1 (
 outK [(Value.int .u8 0), (Value.int .i64 7)]) (
 optK (q_lss Tryz.prog 3 a1 (Value.int .i64 0)) fun v11n2 =>
 ifV v11n2 (
 outK [(Value.int .u8 0), (Value.int .i64 1)]) (
 optK (nil2 a0) fun v15n3 =>
 optK (evFA3 Tryz.prog 226 0 v15n3 0) fun v16n4 =>
 insB (evLoad3 Tryz.prog 58 v16n4) fun v17n5 =>
 optK (len2 Tryz.prog #[58] [v17n5]) fun v18n6 =>
 optK (q_geq Tryz.prog 3 a1 v18n6) fun v19n7 =>
 ifV v19n7 (
 outK [(Value.int .u8 0), (Value.int .i64 1)]) (
 (inside (rec 188 #[a0, a1])).bind fun v23n8 =>
 outK [v23n8, (Value.int .i64 0)])))
theorem fsh_mtf_List_At (lf d : Nat) (a0 : Value) (a1 : Value) : inside (F_mtf_List_At lf d (evC lf d) a0 a1) = evC lf (d + 1) 177 #[a0, a1] := by
  unfold F_mtf_List_At; (try simp only [clash3_eq, evFA3_eq (P := Tryz.prog) gf226f0, evLoad3_eq (P := Tryz.prog) ga58, insB_eq, qP_eql_eq (P := Tryz.prog) Tryz.underlying121, q_geq_eq (P := Tryz.prog) nf3, q_lss_eq (P := Tryz.prog) nf3]); kernel_rfl

/- code_Reader_Step -/
noncomputable def F_code_Reader_Step (lf d : Nat) (rec : FuncId → Array Value → M Value) (a0 : Value) (a1 : Value) : M Value :=
 optK (qP_eql Tryz.prog 119 a0 (Value.pointer none)) fun v11n1 =>
 ifV v11n1 (
 outK [(Value.int .i64 0), (Value.int .i64 7)]) (
 optK (qP_eql Tryz.prog 55 a1 (Value.pointer none)) fun v14n2 =>
 ifV v14n2 (
 outK [(Value.int .i64 0), (Value.int .i64 7)]) (
 optK (nil2 a0) fun v18n3 =>
 optK (evFA3 Tryz.prog 143 6 v18n3 6) fun v19n4 =>
 insB (evLoad3 Tryz.prog 4 v19n4) fun v20n5 =>
 ifV v20n5 (
 outK [(Value.int .i64 0), (Value.int .i64 7)]) (
 optK (nil2 a0) fun v24n6 =>
 optK (evFA3 Tryz.prog 143 7 v24n6 7) fun v25n7 =>
 insB (evLoad3 Tryz.prog 27 v25n7) fun v26n8 =>
 optK (q_neq Tryz.prog 27 v26n8 (Value.int .i64 0)) fun v27n9 =>
 ifV v27n9 (
 optK (nil2 a0) fun v29n10 =>
 optK (evFA3 Tryz.prog 143 7 v29n10 7) fun v30n11 =>
 insB (evLoad3 Tryz.prog 27 v30n11) fun v31n12 =>
 outK [(Value.int .i64 0), v31n12]) (
 optK (nil2 a0) fun v36n13 =>
 optK (evFA3 Tryz.prog 143 1 v36n13 1) fun v37n14 =>
 insB (evLoad3 Tryz.prog 139 v37n14) fun v38n15 =>
 (inside (rec 190 #[v38n15])).bind fun v39n16 =>
 optK (un3 Tryz.prog .not v39n16) fun v40n17 =>
 ifV v40n17 (
 callV Tryz.prog rec (Value.func (Go.Fn.func 191) #[a0] #[]) [a1] fun v60n18 =>
 optK (evExtract v60n18 0) fun v61n19 =>
 optK (evExtract v60n18 1) fun v62n20 =>
 optK (q_eql Tryz.prog 27 v62n20 (Value.int .i64 0)) fun v64n21 =>
 ifV v64n21 (
 outK [v61n19, v62n20]) (
 optK (q_neq Tryz.prog 27 v62n20 (Value.int .i64 3)) fun v68n22 =>
 ifV v68n22 (
 optK (nil2 a0) fun v71n23 =>
 optK (evFA3 Tryz.prog 143 7 v71n23 7) fun v72n24 =>
 insB (evStore3 Tryz.prog 27 v72n24 v62n20) fun u25 =>
 outK [(Value.int .i64 0), v62n20]) (
 outK [(Value.int .i64 0), v62n20]))) (
 optK (nil2 a0) fun v45n26 =>
 optK (evFA3 Tryz.prog 143 4 v45n26 4) fun v46n27 =>
 (timed (
 insB (evLoad3 Tryz.prog 141 v46n27) fun v47n29 => M.ret v47n29)).bind fun vtn28 =>
 optK (len2 Tryz.prog #[141] [vtn28.1]) fun v48n30 =>
 optK (nil2 a0) fun v50n31 =>
 optK (evFA3 Tryz.prog 143 1 v50n31 1) fun v51n32 =>
 (timed (
 insB (evLoad3 Tryz.prog 139 v51n32) fun v52n34 => M.ret v52n34)).bind fun vtn33 =>
 (timed (
 (inside (rec 192 #[vtn33.1])).bind fun v53n36 => M.ret v53n36)).bind fun vtn35 =>
 optK (q_lss Tryz.prog 3 v48n30 vtn35.1) fun v54n37 =>
 chkT ((!(clash3 vtn28.2 vtn35.2) && true) && true) (
 ifV v54n37 (
 callV Tryz.prog rec (Value.func (Go.Fn.func 193) #[a0] #[]) [a1] fun v60n38 =>
 optK (evExtract v60n38 0) fun v61n39 =>
 optK (evExtract v60n38 1) fun v62n40 =>
 optK (q_eql Tryz.prog 27 v62n40 (Value.int .i64 0)) fun v64n41 =>
 ifV v64n41 (
 outK [v61n39, v62n40]) (
 optK (q_neq Tryz.prog 27 v62n40 (Value.int .i64 3)) fun v68n42 =>
 ifV v68n42 (
 optK (nil2 a0) fun v71n43 =>
 optK (evFA3 Tryz.prog 143 7 v71n43 7) fun v72n44 =>
 insB (evStore3 Tryz.prog 27 v72n44 v62n40) fun u45 =>
 outK [(Value.int .i64 0), v62n40]) (
 outK [(Value.int .i64 0), v62n40]))) (
 callV Tryz.prog rec (Value.func (Go.Fn.func 189) #[a0] #[]) [a1] fun v60n46 =>
 optK (evExtract v60n46 0) fun v61n47 =>
 optK (evExtract v60n46 1) fun v62n48 =>
 optK (q_eql Tryz.prog 27 v62n48 (Value.int .i64 0)) fun v64n49 =>
 ifV v64n49 (
 outK [v61n47, v62n48]) (
 optK (q_neq Tryz.prog 27 v62n48 (Value.int .i64 3)) fun v68n50 =>
 ifV v68n50 (
 optK (nil2 a0) fun v71n51 =>
 optK (evFA3 Tryz.prog 143 7 v71n51 7) fun v72n52 =>
 insB (evStore3 Tryz.prog 27 v72n52 v62n48) fun u53 =>
 outK [(Value.int .i64 0), v62n48]) (
 outK [(Value.int .i64 0), v62n48])))))))))
theorem fsh_code_Reader_Step (lf d : Nat) (a0 : Value) (a1 : Value) : inside (F_code_Reader_Step lf d (evC lf d) a0 a1) = evC lf (d + 1) 178 #[a0, a1] := by
  unfold F_code_Reader_Step; (try simp only [clash3_eq, evFA3_eq (P := Tryz.prog) gf143f1, evFA3_eq (P := Tryz.prog) gf143f4, evFA3_eq (P := Tryz.prog) gf143f6, evFA3_eq (P := Tryz.prog) gf143f7, evLoad3_eq (P := Tryz.prog) ga139, evLoad3_eq (P := Tryz.prog) ga141, evLoad3_eq (P := Tryz.prog) ga27, evLoad3_eq (P := Tryz.prog) ga4, evStore3_eq (P := Tryz.prog) gs27, insB_eq, qP_eql_eq (P := Tryz.prog) Tryz.underlying119, qP_eql_eq (P := Tryz.prog) Tryz.underlying55, q_eql_eq (P := Tryz.prog) nf27, q_lss_eq (P := Tryz.prog) nf3, q_neq_eq (P := Tryz.prog) nf27, un3_eq]); kernel_rfl

/- block_row_told -/
noncomputable def F_block_row_told (lf d : Nat) (rec : FuncId → Array Value → M Value) (a0 : Value) (a1 : Value) : M Value :=
 optK (nil2 a0) fun v10n1 =>
 optK (evFA3 Tryz.prog 123 1 v10n1 1) fun v11n2 =>
 insB (evLoad3 Tryz.prog 120 v11n2) fun v12n3 =>
 (inside (rec 194 #[v12n3, a1])).bind fun v14n4 =>
 optK (evExtract v14n4 0) fun v15n5 =>
 optK (evExtract v14n4 1) fun v16n6 =>
 optK (evExtract v14n4 2) fun v17n7 =>
 optK (q_neq Tryz.prog 27 v17n7 (Value.int .i64 0)) fun v19n8 =>
 ifV v19n8 (
 outK [(Value.int .i64 25)]) (
 optK (nil2 a0) fun v22n9 =>
 optK (evFA3 Tryz.prog 123 3 v22n9 3) fun v23n10 =>
 insB (evStore3 Tryz.prog 3 v23n10 v15n5) fun u11 =>
 optK (max2 [v16n6, (Value.int .i64 0)]) fun v26n12 =>
 optK (nil2 a0) fun v27n13 =>
 optK (evFA3 Tryz.prog 123 4 v27n13 4) fun v28n14 =>
 insB (evStore3 Tryz.prog 3 v28n14 v26n12) fun u15 =>
 outK [(Value.int .i64 0)])
theorem fsh_block_row_told (lf d : Nat) (a0 : Value) (a1 : Value) : inside (F_block_row_told lf d (evC lf d) a0 a1) = evC lf (d + 1) 179 #[a0, a1] := by
  unfold F_block_row_told; (try simp only [clash3_eq, evFA3_eq (P := Tryz.prog) gf123f1, evFA3_eq (P := Tryz.prog) gf123f3, evFA3_eq (P := Tryz.prog) gf123f4, evLoad3_eq (P := Tryz.prog) ga120, evStore3_eq (P := Tryz.prog) gs3, insB_eq, q_neq_eq (P := Tryz.prog) nf27]); kernel_rfl

/- code_Reader_Done -/
noncomputable def F_code_Reader_Done (lf d : Nat) (rec : FuncId → Array Value → M Value) (a0 : Value) : M Value :=
 optK (qP_neq Tryz.prog 119 a0 (Value.pointer none)) fun v4n1 =>
 ifV v4n1 (
 optK (nil2 a0) fun v7n2 =>
 optK (evFA3 Tryz.prog 143 6 v7n2 6) fun v8n3 =>
 insB (evLoad3 Tryz.prog 4 v8n3) fun v9n4 =>
 outK [v9n4]) (
 outK [(Value.bool false)])
theorem fsh_code_Reader_Done (lf d : Nat) (a0 : Value) : inside (F_code_Reader_Done lf d (evC lf d) a0) = evC lf (d + 1) 180 #[a0] := by
  unfold F_code_Reader_Done; (try simp only [clash3_eq, evFA3_eq (P := Tryz.prog) gf143f6, evLoad3_eq (P := Tryz.prog) ga4, insB_eq, qP_neq_eq (P := Tryz.prog) Tryz.underlying119]); kernel_rfl

/- balerref09_less -/
noncomputable def F_balerref09_less (lf d : Nat) (rec : FuncId → Array Value → M Value) (a0 : Value) (a1 : Value) : M Value :=
 insB (evBox3 Tryz.prog 209 a0) fun v2n1 =>
 insB (evBox3 Tryz.prog 209 a1) fun v3n2 =>
 optK (evFA3 Tryz.prog 209 0 v2n1 0) fun v5n3 =>
 insB (evLoad3 Tryz.prog 3 v5n3) fun v6n4 =>
 optK (evFA3 Tryz.prog 209 0 v3n2 0) fun v7n5 =>
 insB (evLoad3 Tryz.prog 3 v7n5) fun v8n6 =>
 optK (q_lss Tryz.prog 3 v6n4 v8n6) fun v9n7 =>
 ifV v9n7 (
 outK [(Value.bool true)]) (
 optK (evFA3 Tryz.prog 209 0 v2n1 0) fun v11n8 =>
 insB (evLoad3 Tryz.prog 3 v11n8) fun v12n9 =>
 optK (evFA3 Tryz.prog 209 0 v3n2 0) fun v13n10 =>
 insB (evLoad3 Tryz.prog 3 v13n10) fun v14n11 =>
 optK (q_eql Tryz.prog 3 v12n9 v14n11) fun v15n12 =>
 ifV v15n12 (
 optK (evFA3 Tryz.prog 209 1 v2n1 1) fun v17n13 =>
 insB (evLoad3 Tryz.prog 3 v17n13) fun v18n14 =>
 optK (evFA3 Tryz.prog 209 1 v3n2 1) fun v19n15 =>
 insB (evLoad3 Tryz.prog 3 v19n15) fun v20n16 =>
 optK (q_lss Tryz.prog 3 v18n14 v20n16) fun v21n17 =>
 outK [v21n17]) (
 outK [(Value.bool false)]))
theorem fsh_balerref09_less (lf d : Nat) (a0 : Value) (a1 : Value) : inside (F_balerref09_less lf d (evC lf d) a0 a1) = evC lf (d + 1) 181 #[a0, a1] := by
  unfold F_balerref09_less; (try simp only [clash3_eq, evBox3_eq, evFA3_eq (P := Tryz.prog) gf209f0, evFA3_eq (P := Tryz.prog) gf209f1, evLoad3_eq (P := Tryz.prog) ga3, insB_eq, q_eql_eq (P := Tryz.prog) nf3, q_lss_eq (P := Tryz.prog) nf3]); kernel_rfl

/- bits_Reader_At -/
noncomputable def F_bits_Reader_At (lf d : Nat) (rec : FuncId → Array Value → M Value) (a0 : Value) : M Value :=
 optK (qP_eql Tryz.prog 55 a0 (Value.pointer none)) fun v4n1 =>
 ifV v4n1 (
 outK [(Value.int .i64 0)]) (
 optK (nil2 a0) fun v6n2 =>
 optK (evFA3 Tryz.prog 89 2 v6n2 2) fun v7n3 =>
 insB (evLoad3 Tryz.prog 3 v7n3) fun v8n4 =>
 outK [v8n4])
theorem fsh_bits_Reader_At (lf d : Nat) (a0 : Value) : inside (F_bits_Reader_At lf d (evC lf d) a0) = evC lf (d + 1) 182 #[a0] := by
  unfold F_bits_Reader_At; (try simp only [clash3_eq, evFA3_eq (P := Tryz.prog) gf89f2, evLoad3_eq (P := Tryz.prog) ga3, insB_eq, qP_eql_eq (P := Tryz.prog) Tryz.underlying55]); kernel_rfl

/- used_read -/
noncomputable def lpA_used_read (lf d fu : Nat) (k : Ex → Fr → M Value) (x0 : Value) (x2 : Value) (x3 : Value) (x4 : Value) (x5 : Value) (x6 : Value) (x20 : Value) (x23 : Value) (x24 : Value) (x25 : Value) : M Value := loopK (fun s1 k1 => codeK Tryz.prog (evC lf d) (gtA 183) lf (codeAt (bodyOf Tryz.prog 183) [true, true, true, true, false, true, false, false]) s1 k1) [0, 2, 3, 4, 5, 6, 20, 23, 24, 25] fu [(0, x0), (2, x2), (3, x3), (4, x4), (5, x5), (6, x6), (20, x20), (23, x23), (24, x24), (25, x25)] k
noncomputable def kcA_used_read (lf d : Nat) : Ex → Fr → M Value := contAt Tryz.prog (evC lf d) (gtA 183) lf (bodyOf Tryz.prog 183) [true, true, true, true, false, true, false] (endK Tryz.prog (resOf Tryz.prog 183))
noncomputable def lpB_used_read (lf d fu : Nat) (k : Ex → Fr → M Value) (x0 : Value) (x2 : Value) (x3 : Value) (x4 : Value) (x5 : Value) (x6 : Value) (x8 : Value) (x9 : Value) (x10 : Value) (x20 : Value) (x23 : Value) (x24 : Value) (x25 : Value) (x26 : Value) (x35 : Value) (x38 : Value) (x39 : Value) (x40 : Value) : M Value := loopK (fun s1 k1 => codeK Tryz.prog (evC lf d) (gtA 183) lf (codeAt (bodyOf Tryz.prog 183) [true, true, true, true, false, true, false, false, true, true, false, false, true, true, true, true, false, false]) s1 k1) [0, 2, 3, 4, 5, 6, 8, 9, 10, 20, 23, 24, 25, 26, 35, 38, 39, 40] fu [(0, x0), (2, x2), (3, x3), (4, x4), (5, x5), (6, x6), (8, x8), (9, x9), (10, x10), (20, x20), (23, x23), (24, x24), (25, x25), (26, x26), (35, x35), (38, x38), (39, x39), (40, x40)] k
noncomputable def kcB_used_read (lf d fu : Nat) (k : Ex → Fr → M Value) : Ex → Fr → M Value := contAt Tryz.prog (evC lf d) (gtA 183) lf (codeAt (bodyOf Tryz.prog 183) [true, true, true, true, false, true, false, false]) [true, true, false, false, true, true, true, true, false] (againK (fun s1 => loopK (fun s1 k1 => codeK Tryz.prog (evC lf d) (gtA 183) lf (codeAt (bodyOf Tryz.prog 183) [true, true, true, true, false, true, false, false]) s1 k1) [0, 2, 3, 4, 5, 6, 20, 23, 24, 25] fu (s1.keep [0, 2, 3, 4, 5, 6, 20, 23, 24, 25]) k) k)
noncomputable def KA_used_read (lf d : Nat) (rec : FuncId → Array Value → M Value) (dflt : Ex → Fr → M Value) : Ex → Fr → M Value := (kEx 0 (runCur [0, 2, 3, 4, 5, 6, 20, 23, 24, 25, 26] (fun y0 y2 y3 y4 y5 y6 y20 y23 y24 y25 y26 =>
 insB (evLoadA3 Tryz.prog 230 256 y6) fun v51n17 =>
 (inside (rec 196 #[v51n17])).bind fun v52n18 =>
 optK (qS_eql Tryz.prog 9 v52n18 (Value.string { data := #[] })) fun v54n19 =>
 ifV v54n19 (
 outK [(Value.string { data := #[] }), (Value.int .i64 25)]) (
 outK [v52n18, (Value.int .i64 0)])) (dflt (Ex.exit 0))) (kRt (runCur [0, 2, 3, 4, 5, 6, 8, 9, 10, 20, 23, 24, 25, 26, 35] (fun y0 y2 y3 y4 y5 y6 y8 y9 y10 y20 y23 y24 y25 y26 y35 =>
 outK [y2, y3]) (dflt Ex.ret)) dflt))
noncomputable def LB_used_read (lf d : Nat) (rec : FuncId → Array Value → M Value) (k : Ex → Fr → M Value) : Nat → Value → Value → Value → Value → Value → Value → Value → Value → Value → Value → Value → Value → Value → Value → Value → Value → Value → Value → M Value
 | 0, _, _, _, _, _, _, _, _, _, _, _, _, _, _, _, _, _, _ => M.fail
 | fu + 1, x0, x2, x3, x4, x5, x6, x8, x9, x10, x20, x23, x24, x25, x26, x35, x38, x39, x40 =>
 optK (q_lss Tryz.prog 3 x40 x39) fun v41n20 =>
 ifV v41n20 (
 optK (evIA3 Tryz.prog 91 1 x38 x40) fun v42n21 =>
 insB (evLoad3 Tryz.prog 3 v42n21) fun v43n22 =>
 optK (q_mul Tryz.prog 3 (Value.int .i64 16) x8) fun v45n23 =>
 optK (q_add Tryz.prog 3 v45n23 v43n22) fun v47n24 =>
 optK (evIAP3 Tryz.prog 230 256 1 x6 v47n24) fun v48n25 =>
 insB (evStore3 Tryz.prog 4 v48n25 (Value.bool true)) fun u26 =>
 optK (q_add Tryz.prog 3 x40 (Value.int .i64 1)) fun v49n27 =>
 LB_used_read lf d rec k fu x0 x2 x3 x4 x5 x6 x8 x9 x10 x20 x23 x24 x25 x26 x35 x38 x39 v49n27) (
 k (Ex.exit 2) [(0, x0), (2, x2), (3, x3), (4, x4), (5, x5), (6, x6), (8, x8), (9, x9), (10, x10), (20, x20), (23, x23), (24, x24), (25, x25), (26, x26), (35, x35), (38, x38), (39, x39), (40, x40), (41, v41n20)])
noncomputable def KB_used_read (lf d : Nat) (rec : FuncId → Array Value → M Value) (fu : Nat) (k : Ex → Fr → M Value) (again : Value → Value → Value → Value → Value → Value → Value → Value → Value → Value → M Value) (dflt : Ex → Fr → M Value) : Ex → Fr → M Value := (kEx 2 (runCur [0, 2, 3, 4, 5, 6, 8, 9, 10, 20, 23, 24, 25, 26, 35, 38, 39, 40, 41] (fun y0 y2 y3 y4 y5 y6 y8 y9 y10 y20 y23 y24 y25 y26 y35 y38 y39 y40 y41 =>
 optK (q_add Tryz.prog 3 y25 (Value.int .i64 1)) fun v50n28 =>
 again y0 y2 y3 y4 y5 y6 y20 y23 y24 v50n28) (dflt (Ex.exit 2))) dflt)
noncomputable def LA_used_read (lf d : Nat) (rec : FuncId → Array Value → M Value) (k : Ex → Fr → M Value) : Nat → Value → Value → Value → Value → Value → Value → Value → Value → Value → Value → M Value
 | 0, _, _, _, _, _, _, _, _, _, _ => M.fail
 | fu + 1, x0, x2, x3, x4, x5, x6, x20, x23, x24, x25 =>
 optK (q_lss Tryz.prog 3 x25 x24) fun v26n8 =>
 ifV v26n8 (
 optK (evIA3 Tryz.prog 91 1 x23 x25) fun v27n9 =>
 insB (evLoad3 Tryz.prog 3 v27n9) fun v28n10 =>
 (inside (rec 138 #[x0, (Value.int .i64 16)])).bind fun v31n11 =>
 optK (evExtract v31n11 0) fun v32n12 =>
 optK (evExtract v31n11 1) fun v33n13 =>
 optK (q_neq Tryz.prog 27 v33n13 (Value.int .i64 0)) fun v35n14 =>
 ifV v35n14 (
 k Ex.ret [(0, x0), (2, (Value.string { data := #[] })), (3, v33n13), (4, x4), (5, x5), (6, x6), (8, v28n10), (9, v32n12), (10, v33n13), (20, x20), (23, x23), (24, x24), (25, x25), (26, v26n8), (35, v35n14)]) (
 (inside (rec 195 #[v32n12])).bind fun v38n15 =>
 optK (len2 Tryz.prog #[91] [v38n15]) fun v39n16 =>
 LB_used_read lf d rec (KB_used_read lf d rec fu k (LA_used_read lf d rec k fu) (kcB_used_read lf d fu k)) lf x0 x2 x3 x4 x5 x6 v28n10 v32n12 v33n13 x20 x23 x24 x25 v26n8 v35n14 v38n15 v39n16 (Value.int .i64 0))) (
 k (Ex.exit 0) [(0, x0), (2, x2), (3, x3), (4, x4), (5, x5), (6, x6), (20, x20), (23, x23), (24, x24), (25, x25), (26, v26n8)])
noncomputable def F_used_read (lf d : Nat) (rec : FuncId → Array Value → M Value) (a0 : Value) : M Value :=
 (inside (rec 138 #[a0, (Value.int .i64 16)])).bind fun v16n1 =>
 optK (evExtract v16n1 0) fun v17n2 =>
 optK (evExtract v16n1 1) fun v18n3 =>
 optK (q_neq Tryz.prog 27 v18n3 (Value.int .i64 0)) fun v20n4 =>
 ifV v20n4 (
 outK [(Value.string { data := #[] }), v18n3]) (
 insB (evAllocZ 230 (repV (Value.bool false) 256)) fun v6n5 =>
 (inside (rec 195 #[v17n2])).bind fun v23n6 =>
 optK (len2 Tryz.prog #[91] [v23n6]) fun v24n7 =>
 LA_used_read lf d rec (KA_used_read lf d rec (kcA_used_read lf d)) lf a0 (Value.string { data := #[] }) (Value.int .i64 0) v17n2 v18n3 v6n5 v20n4 v23n6 v24n7 (Value.int .i64 0))
set_option maxRecDepth 20000 in
theorem KQA_used_read (lf d : Nat) : KA_used_read lf d (evC lf d) (kcA_used_read lf d) = kcA_used_read lf d := by
  unfold KA_used_read
  refine Eq.trans (kEx_eq ?_) ?_
  · exact (runCur_eq _ _ _ (by intro y0 y2 y3 y4 y5 y6 y20 y23 y24 y25 y26; show _ = _; (try simp only [clash3_eq, evLoadA3_eq (P := Tryz.prog) ga230 gs230, insB_eq, qS_eql_eq (P := Tryz.prog) nf9]); kernel_rfl))
  refine Eq.trans (kRt_eq ?_) ?_
  · exact (runCur_eq _ _ _ (by intro y0 y2 y3 y4 y5 y6 y8 y9 y10 y20 y23 y24 y25 y26 y35; show _ = _; (try simp only [clash3_eq, evLoadA3_eq (P := Tryz.prog) ga230 gs230, insB_eq, qS_eql_eq (P := Tryz.prog) nf9]); kernel_rfl))
  rfl
theorem LQB_used_read (lf d : Nat) (k : Ex → Fr → M Value) : ∀ fu : Nat, LB_used_read lf d (evC lf d) k fu = lpB_used_read lf d fu k
  | 0 => by funext x0 x2 x3 x4 x5 x6 x8 x9 x10 x20 x23 x24 x25 x26 x35 x38 x39 x40; kernel_rfl
  | fu + 1 => by
    have ih := LQB_used_read lf d k fu
    funext x0 x2 x3 x4 x5 x6 x8 x9 x10 x20 x23 x24 x25 x26 x35 x38 x39 x40; simp only [LB_used_read, ih, clash3_eq, evIA3_eq (P := Tryz.prog) Tryz.underlying91 gs3, evIAP3_eq (P := Tryz.prog) Tryz.underlying230 gs4, evLoad3_eq (P := Tryz.prog) ga3, evStore3_eq (P := Tryz.prog) gs4, insB_eq, q_add_eq (P := Tryz.prog) nf3, q_lss_eq (P := Tryz.prog) nf3, q_mul_eq (P := Tryz.prog) nf3]; kernel_rfl
set_option maxRecDepth 20000 in
theorem KQB_used_read (lf d fu : Nat) (k : Ex → Fr → M Value) (again : Value → Value → Value → Value → Value → Value → Value → Value → Value → Value → M Value) (ha : again = lpA_used_read lf d fu k) : KB_used_read lf d (evC lf d) fu k again (kcB_used_read lf d fu k) = kcB_used_read lf d fu k := by
  subst ha
  unfold KB_used_read
  refine Eq.trans (kEx_eq ?_) ?_
  · exact (runCur_eq _ _ _ (by intro y0 y2 y3 y4 y5 y6 y8 y9 y10 y20 y23 y24 y25 y26 y35 y38 y39 y40 y41; show _ = _; (try simp only [clash3_eq, insB_eq, q_add_eq (P := Tryz.prog) nf3]); kernel_rfl))
  rfl
theorem LQA_used_read (lf d : Nat) (k : Ex → Fr → M Value) : ∀ fu : Nat, LA_used_read lf d (evC lf d) k fu = lpA_used_read lf d fu k
  | 0 => by funext x0 x2 x3 x4 x5 x6 x20 x23 x24 x25; kernel_rfl
  | fu + 1 => by
    have ih := LQA_used_read lf d k fu
    funext x0 x2 x3 x4 x5 x6 x20 x23 x24 x25; simp only [LA_used_read, ih, KQB_used_read lf d fu k _ rfl, LQB_used_read, clash3_eq, evIA3_eq (P := Tryz.prog) Tryz.underlying91 gs3, evLoad3_eq (P := Tryz.prog) ga3, insB_eq, q_lss_eq (P := Tryz.prog) nf3, q_neq_eq (P := Tryz.prog) nf27]; kernel_rfl
theorem fsh_used_read (lf d : Nat) (a0 : Value) : inside (F_used_read lf d (evC lf d) a0) = evC lf (d + 1) 183 #[a0] := by
  unfold F_used_read; (try simp only [KQA_used_read lf d, LQA_used_read, az230, clash3_eq, insB_eq, q_neq_eq (P := Tryz.prog) nf27]); kernel_rfl

/- bits_Reader_Seek -/
noncomputable def F_bits_Reader_Seek (lf d : Nat) (rec : FuncId → Array Value → M Value) (a0 : Value) (a1 : Value) : M Value :=
 optK (qP_eql Tryz.prog 55 a0 (Value.pointer none)) fun v7n1 =>
 ifV v7n1 (
 outK [(Value.int .i64 7)]) (
 optK (nil2 a0) fun v11n2 =>
 optK (evFA3 Tryz.prog 89 1 v11n2 1) fun v12n3 =>
 insB (evLoad3 Tryz.prog 3 v12n3) fun v13n4 =>
 optK (q_mul Tryz.prog 3 (Value.int .i64 8) v13n4) fun v14n5 =>
 optK (q_lss Tryz.prog 3 a1 v14n5) fun v15n6 =>
 ifV v15n6 (
 outK [(Value.int .i64 1)]) (
 (inside (rec 89 #[a0])).bind fun v19n7 =>
 optK (q_gtr Tryz.prog 3 a1 v19n7) fun v20n8 =>
 ifV v20n8 (
 outK [(Value.int .i64 1)]) (
 optK (nil2 a0) fun v24n9 =>
 optK (evFA3 Tryz.prog 89 2 v24n9 2) fun v25n10 =>
 insB (evStore3 Tryz.prog 3 v25n10 a1) fun u11 =>
 outK [(Value.int .i64 0)])))
theorem fsh_bits_Reader_Seek (lf d : Nat) (a0 : Value) (a1 : Value) : inside (F_bits_Reader_Seek lf d (evC lf d) a0 a1) = evC lf (d + 1) 184 #[a0, a1] := by
  unfold F_bits_Reader_Seek; (try simp only [clash3_eq, evFA3_eq (P := Tryz.prog) gf89f1, evFA3_eq (P := Tryz.prog) gf89f2, evLoad3_eq (P := Tryz.prog) ga3, evStore3_eq (P := Tryz.prog) gs3, insB_eq, qP_eql_eq (P := Tryz.prog) Tryz.underlying55, q_gtr_eq (P := Tryz.prog) nf3, q_lss_eq (P := Tryz.prog) nf3, q_mul_eq (P := Tryz.prog) nf3]); kernel_rfl

/- code_NewReader -/
noncomputable def F_code_NewReader (lf d : Nat) (rec : FuncId → Array Value → M Value) (a0 : Value) : M Value :=
 (inside (rec 197 #[a0])).bind fun v8n1 =>
 optK (evExtract v8n1 0) fun v9n2 =>
 optK (evExtract v8n1 1) fun v10n3 =>
 optK (q_neq Tryz.prog 27 v10n3 (Value.int .i64 0)) fun v12n4 =>
 ifV v12n4 (
 outK [(Value.pointer none), v10n3]) (
 (inside (rec 198 #[])).bind fun v15n5 =>
 insB (evBuildZ Tryz.prog 143 [Value.int .i64 0, Value.pointer none, Value.slice none 0 0, Value.pointer none, Value.slice none 0 0, Value.int .i64 0, Value.bool false, Value.int .i64 0] [(0, a0), (1, v15n5), (3, v9n2)]) fun v17n6 =>
 insB (evBox3 Tryz.prog 143 v17n6) fun v18n7 =>
 outK [v18n7, (Value.int .i64 0)])
theorem fsh_code_NewReader (lf d : Nat) (a0 : Value) : inside (F_code_NewReader lf d (evC lf d) a0) = evC lf (d + 1) 185 #[a0] := by
  unfold F_code_NewReader; (try simp only [bz143, clash3_eq, evBox3_eq, insB_eq, q_neq_eq (P := Tryz.prog) nf27]); kernel_rfl

/- zeros_NewReader -/
noncomputable def F_zeros_NewReader (lf d : Nat) (rec : FuncId → Array Value → M Value) (a0 : Value) (a1 : Value) : M Value :=
 (inside (rec 199 #[a0])).bind fun v7n1 =>
 optK (un3 Tryz.prog .not v7n1) fun v8n2 =>
 ifV v8n2 (
 outK [(Value.pointer none), (Value.int .i64 1)]) (
 optK (q_lss Tryz.prog 3 a1 (Value.int .i64 0)) fun v11n3 =>
 ifV v11n3 (
 outK [(Value.pointer none), (Value.int .i64 1)]) (
 optK (q_gtr Tryz.prog 3 a1 (Value.int .i64 1099511627776)) fun v15n4 =>
 ifV v15n4 (
 outK [(Value.pointer none), (Value.int .i64 1)]) (
 insB (evBuildZ Tryz.prog 237 [Value.int .i64 0, Value.int .i64 0, Value.int .i64 0, Value.int .i64 0, Value.int .i64 0, Value.bool false] [(0, a0), (1, a1), (4, (Value.int .i64 1))]) fun v19n5 =>
 insB (evBox3 Tryz.prog 237 v19n5) fun v20n6 =>
 outK [v20n6, (Value.int .i64 0)])))
theorem fsh_zeros_NewReader (lf d : Nat) (a0 : Value) (a1 : Value) : inside (F_zeros_NewReader lf d (evC lf d) a0 a1) = evC lf (d + 1) 186 #[a0, a1] := by
  unfold F_zeros_NewReader; (try simp only [bz237, clash3_eq, evBox3_eq, insB_eq, q_gtr_eq (P := Tryz.prog) nf3, q_lss_eq (P := Tryz.prog) nf3, un3_eq]); kernel_rfl

/- mtf_New -/
noncomputable def F_mtf_New (lf d : Nat) (rec : FuncId → Array Value → M Value) (a0 : Value) : M Value :=
 (inside (rec 200 #[a0])).bind fun v5n1 =>
 optK (un3 Tryz.prog .not v5n1) fun v6n2 =>
 ifV v6n2 (
 outK [(Value.pointer none), (Value.int .i64 1)]) (
 insB (toBytes3 5 a0) fun v8n3 =>
 insB (evBuildZ Tryz.prog 226 [Value.slice none 0 0] [(0, v8n3)]) fun v9n4 =>
 insB (evBox3 Tryz.prog 226 v9n4) fun v10n5 =>
 outK [v10n5, (Value.int .i64 0)])
theorem fsh_mtf_New (lf d : Nat) (a0 : Value) : inside (F_mtf_New lf d (evC lf d) a0) = evC lf (d + 1) 187 #[a0] := by
  unfold F_mtf_New; (try simp only [bz226, clash3_eq, evBox3_eq, insB_eq, toBytes3_eq, un3_eq]); kernel_rfl

/- mtf_List_touch -/
noncomputable def F_mtf_List_touch (lf d : Nat) (rec : FuncId → Array Value → M Value) (a0 : Value) (a1 : Value) : M Value :=
 optK (nil2 a0) fun v7n1 =>
 optK (evFA3 Tryz.prog 226 0 v7n1 0) fun v8n2 =>
 insB (evLoad3 Tryz.prog 58 v8n2) fun v9n3 =>
 optK (evIA3 Tryz.prog 58 1 v9n3 a1) fun v11n4 =>
 insB (evLoad3 Tryz.prog 5 v11n4) fun v12n5 =>
 optK (nil2 a0) fun v14n6 =>
 optK (evFA3 Tryz.prog 226 0 v14n6 0) fun v15n7 =>
 insB (evLoad3 Tryz.prog 58 v15n7) fun v16n8 =>
 optK (q_add Tryz.prog 3 a1 (Value.int .i64 1)) fun v18n9 =>
 slice2 Tryz.prog 58 v16n8 (some (Value.int .i64 1)) (some v18n9) none fun v19n10 =>
 optK (nil2 a0) fun v21n11 =>
 optK (evFA3 Tryz.prog 226 0 v21n11 0) fun v22n12 =>
 insB (evLoad3 Tryz.prog 58 v22n12) fun v23n13 =>
 slice2 Tryz.prog 58 v23n13 none (some a1) none fun v25n14 =>
 (inside (evCopy Tryz.prog 58 v19n10 v25n14)).bind fun v26n15 =>
 optK (nil2 a0) fun v28n16 =>
 optK (evFA3 Tryz.prog 226 0 v28n16 0) fun v29n17 =>
 insB (evLoad3 Tryz.prog 58 v29n17) fun v30n18 =>
 optK (evIA3 Tryz.prog 58 1 v30n18 (Value.int .i64 0)) fun v32n19 =>
 insB (evStore3 Tryz.prog 5 v32n19 v12n5) fun u20 =>
 outK [v12n5]
theorem fsh_mtf_List_touch (lf d : Nat) (a0 : Value) (a1 : Value) : inside (F_mtf_List_touch lf d (evC lf d) a0 a1) = evC lf (d + 1) 188 #[a0, a1] := by
  unfold F_mtf_List_touch; (try simp only [clash3_eq, evFA3_eq (P := Tryz.prog) gf226f0, evIA3_eq (P := Tryz.prog) Tryz.underlying58 gs5, evLoad3_eq (P := Tryz.prog) ga5, evLoad3_eq (P := Tryz.prog) ga58, evStore3_eq (P := Tryz.prog) gs5, insB_eq, q_add_eq (P := Tryz.prog) nf3]); kernel_rfl

/- code_Reader_symbol -/
noncomputable def F_code_Reader_symbol (lf d : Nat) (rec : FuncId → Array Value → M Value) (a0 : Value) (a1 : Value) : M Value :=
 optK (nil2 a0) fun v10n1 =>
 optK (evFA3 Tryz.prog 143 5 v10n1 5) fun v11n2 =>
 insB (evLoad3 Tryz.prog 3 v11n2) fun v12n3 =>
 optK (q_quo Tryz.prog 3 v12n3 (Value.int .i64 50)) fun v13n4 =>
 optK (nil2 a0) fun v16n5 =>
 optK (evFA3 Tryz.prog 143 2 v16n5 2) fun v17n6 =>
 insB (evLoad3 Tryz.prog 91 v17n6) fun v18n7 =>
 optK (len2 Tryz.prog #[91] [v18n7]) fun v19n8 =>
 optK (q_geq Tryz.prog 3 v13n4 v19n8) fun v20n9 =>
 ifV v20n9 (
 outK [(Value.int .i64 (-1)), (Value.int .i64 25)]) (
 optK (nil2 a0) fun v23n10 =>
 optK (evFA3 Tryz.prog 143 4 v23n10 4) fun v24n11 =>
 insB (evLoad3 Tryz.prog 141 v24n11) fun v25n12 =>
 optK (nil2 a0) fun v27n13 =>
 optK (evFA3 Tryz.prog 143 2 v27n13 2) fun v28n14 =>
 insB (evLoad3 Tryz.prog 91 v28n14) fun v29n15 =>
 optK (evIA3 Tryz.prog 91 1 v29n15 v13n4) fun v31n16 =>
 insB (evLoad3 Tryz.prog 3 v31n16) fun v32n17 =>
 optK (evIA3 Tryz.prog 141 1 v25n12 v32n17) fun v33n18 =>
 insB (evLoad3 Tryz.prog 238 v33n18) fun v34n19 =>
 (inside (rec 201 #[v34n19, a1])).bind fun v36n20 =>
 optK (evExtract v36n20 0) fun v37n21 =>
 optK (evExtract v36n20 1) fun v38n22 =>
 optK (q_neq Tryz.prog 27 v38n22 (Value.int .i64 0)) fun v40n23 =>
 ifV v40n23 (
 outK [(Value.int .i64 (-1)), v38n22]) (
 optK (nil2 a0) fun v43n24 =>
 optK (evFA3 Tryz.prog 143 5 v43n24 5) fun v44n25 =>
 insB (evLoad3 Tryz.prog 3 v44n25) fun v45n26 =>
 optK (q_add Tryz.prog 3 v45n26 (Value.int .i64 1)) fun v46n27 =>
 optK (nil2 a0) fun v47n28 =>
 optK (evFA3 Tryz.prog 143 5 v47n28 5) fun v48n29 =>
 insB (evStore3 Tryz.prog 3 v48n29 v46n27) fun u30 =>
 optK (nil2 a0) fun v52n31 =>
 optK (evFA3 Tryz.prog 143 0 v52n31 0) fun v53n32 =>
 insB (evLoad3 Tryz.prog 3 v53n32) fun v54n33 =>
 optK (q_sub Tryz.prog 3 v54n33 (Value.int .i64 1)) fun v55n34 =>
 optK (q_eql Tryz.prog 3 v37n21 v55n34) fun v56n35 =>
 optK (nil2 a0) fun v57n36 =>
 optK (evFA3 Tryz.prog 143 6 v57n36 6) fun v58n37 =>
 insB (evStore3 Tryz.prog 4 v58n37 v56n35) fun u38 =>
 outK [v37n21, (Value.int .i64 0)]))
theorem fsh_code_Reader_symbol (lf d : Nat) (a0 : Value) (a1 : Value) : inside (F_code_Reader_symbol lf d (evC lf d) a0 a1) = evC lf (d + 1) 189 #[a0, a1] := by
  unfold F_code_Reader_symbol; (try simp only [clash3_eq, evFA3_eq (P := Tryz.prog) gf143f0, evFA3_eq (P := Tryz.prog) gf143f2, evFA3_eq (P := Tryz.prog) gf143f4, evFA3_eq (P := Tryz.prog) gf143f5, evFA3_eq (P := Tryz.prog) gf143f6, evIA3_eq (P := Tryz.prog) Tryz.underlying141 gs238, evIA3_eq (P := Tryz.prog) Tryz.underlying91 gs3, evLoad3_eq (P := Tryz.prog) ga141, evLoad3_eq (P := Tryz.prog) ga238, evLoad3_eq (P := Tryz.prog) ga3, evLoad3_eq (P := Tryz.prog) ga91, evStore3_eq (P := Tryz.prog) gs3, evStore3_eq (P := Tryz.prog) gs4, insB_eq, q_add_eq (P := Tryz.prog) nf3, q_eql_eq (P := Tryz.prog) nf3, q_geq_eq (P := Tryz.prog) nf3, q_neq_eq (P := Tryz.prog) nf27, q_quo_eq (P := Tryz.prog) nf3, q_sub_eq (P := Tryz.prog) nf3]); kernel_rfl

/- picks_Reader_Done -/
noncomputable def F_picks_Reader_Done (lf d : Nat) (rec : FuncId → Array Value → M Value) (a0 : Value) : M Value :=
 optK (qP_neq Tryz.prog 139 a0 (Value.pointer none)) fun v4n1 =>
 ifV v4n1 (
 optK (nil2 a0) fun v7n2 =>
 optK (evFA3 Tryz.prog 170 1 v7n2 1) fun v8n3 =>
 insB (evLoad3 Tryz.prog 3 v8n3) fun v9n4 =>
 optK (q_gtr Tryz.prog 3 v9n4 (Value.int .i64 0)) fun v10n5 =>
 ifV v10n5 (
 optK (nil2 a0) fun v14n6 =>
 optK (evFA3 Tryz.prog 170 8 v14n6 3) fun v15n7 =>
 insB (evLoad3 Tryz.prog 91 v15n7) fun v16n8 =>
 optK (len2 Tryz.prog #[91] [v16n8]) fun v17n9 =>
 optK (nil2 a0) fun v19n10 =>
 optK (evFA3 Tryz.prog 170 1 v19n10 1) fun v20n11 =>
 insB (evLoad3 Tryz.prog 3 v20n11) fun v21n12 =>
 optK (q_eql Tryz.prog 3 v17n9 v21n12) fun v22n13 =>
 outK [v22n13]) (
 outK [(Value.bool false)])) (
 outK [(Value.bool false)])
theorem fsh_picks_Reader_Done (lf d : Nat) (a0 : Value) : inside (F_picks_Reader_Done lf d (evC lf d) a0) = evC lf (d + 1) 190 #[a0] := by
  unfold F_picks_Reader_Done; (try simp only [clash3_eq, evFA3_eq (P := Tryz.prog) gf170f1, evFA3_eq (P := Tryz.prog) gf170f3, evLoad3_eq (P := Tryz.prog) ga3, evLoad3_eq (P := Tryz.prog) ga91, insB_eq, qP_neq_eq (P := Tryz.prog) Tryz.underlying139, q_eql_eq (P := Tryz.prog) nf3, q_gtr_eq (P := Tryz.prog) nf3]); kernel_rfl

/- code_Reader_pick -/
noncomputable def F_code_Reader_pick (lf d : Nat) (rec : FuncId → Array Value → M Value) (a0 : Value) (a1 : Value) : M Value :=
 optK (nil2 a0) fun v8n1 =>
 optK (evFA3 Tryz.prog 143 1 v8n1 1) fun v9n2 =>
 insB (evLoad3 Tryz.prog 139 v9n2) fun v10n3 =>
 (inside (rec 202 #[v10n3, a1])).bind fun v12n4 =>
 optK (nil2 a0) fun v14n5 =>
 optK (evFA3 Tryz.prog 143 1 v14n5 1) fun v15n6 =>
 insB (evLoad3 Tryz.prog 139 v15n6) fun v16n7 =>
 (inside (rec 190 #[v16n7])).bind fun v17n8 =>
 ifV v17n8 (
 optK (nil2 a0) fun v20n9 =>
 optK (evFA3 Tryz.prog 143 1 v20n9 1) fun v21n10 =>
 insB (evLoad3 Tryz.prog 139 v21n10) fun v22n11 =>
 (inside (rec 105 #[v22n11])).bind fun v23n12 =>
 optK (nil2 a0) fun v24n13 =>
 optK (evFA3 Tryz.prog 143 2 v24n13 2) fun v25n14 =>
 insB (evStore3 Tryz.prog 91 v25n14 v23n12) fun u15 =>
 outK [(Value.int .i64 (-1)), v12n4]) (
 outK [(Value.int .i64 (-1)), v12n4])
theorem fsh_code_Reader_pick (lf d : Nat) (a0 : Value) (a1 : Value) : inside (F_code_Reader_pick lf d (evC lf d) a0 a1) = evC lf (d + 1) 191 #[a0, a1] := by
  unfold F_code_Reader_pick; (try simp only [clash3_eq, evFA3_eq (P := Tryz.prog) gf143f1, evFA3_eq (P := Tryz.prog) gf143f2, evLoad3_eq (P := Tryz.prog) ga139, evStore3_eq (P := Tryz.prog) gs91, insB_eq]); kernel_rfl

/- picks_Reader_Tables -/
noncomputable def F_picks_Reader_Tables (lf d : Nat) (rec : FuncId → Array Value → M Value) (a0 : Value) : M Value :=
 optK (qP_eql Tryz.prog 139 a0 (Value.pointer none)) fun v4n1 =>
 ifV v4n1 (
 outK [(Value.int .i64 0)]) (
 optK (nil2 a0) fun v6n2 =>
 optK (evFA3 Tryz.prog 170 0 v6n2 0) fun v7n3 =>
 insB (evLoad3 Tryz.prog 3 v7n3) fun v8n4 =>
 outK [v8n4])
theorem fsh_picks_Reader_Tables (lf d : Nat) (a0 : Value) : inside (F_picks_Reader_Tables lf d (evC lf d) a0) = evC lf (d + 1) 192 #[a0] := by
  unfold F_picks_Reader_Tables; (try simp only [clash3_eq, evFA3_eq (P := Tryz.prog) gf170f0, evLoad3_eq (P := Tryz.prog) ga3, insB_eq, qP_eql_eq (P := Tryz.prog) Tryz.underlying139]); kernel_rfl

/- code_Reader_table -/
noncomputable def F_code_Reader_table (lf d : Nat) (rec : FuncId → Array Value → M Value) (a0 : Value) (a1 : Value) : M Value :=
 optK (nil2 a0) fun v12n1 =>
 optK (evFA3 Tryz.prog 143 3 v12n1 3) fun v13n2 =>
 insB (evLoad3 Tryz.prog 140 v13n2) fun v14n3 =>
 (inside (rec 203 #[v14n3, a1])).bind fun v16n4 =>
 optK (q_neq Tryz.prog 27 v16n4 (Value.int .i64 0)) fun v18n5 =>
 ifV v18n5 (
 outK [(Value.int .i64 (-1)), v16n4]) (
 optK (nil2 a0) fun v21n6 =>
 optK (evFA3 Tryz.prog 143 3 v21n6 3) fun v22n7 =>
 insB (evLoad3 Tryz.prog 140 v22n7) fun v23n8 =>
 (inside (rec 204 #[v23n8])).bind fun v24n9 =>
 optK (un3 Tryz.prog .not v24n9) fun v25n10 =>
 ifV v25n10 (
 outK [(Value.int .i64 (-1)), v16n4]) (
 optK (nil2 a0) fun v30n11 =>
 optK (evFA3 Tryz.prog 143 3 v30n11 3) fun v31n12 =>
 insB (evLoad3 Tryz.prog 140 v31n12) fun v32n13 =>
 (inside (rec 206 #[v32n13])).bind fun v33n14 =>
 (inside (rec 205 #[v33n14])).bind fun v34n15 =>
 optK (evExtract v34n15 0) fun v35n16 =>
 optK (evExtract v34n15 1) fun v36n17 =>
 optK (q_neq Tryz.prog 27 v36n17 (Value.int .i64 0)) fun v38n18 =>
 ifV v38n18 (
 outK [(Value.int .i64 (-1)), v36n17]) (
 optK (nil2 a0) fun v42n19 =>
 optK (evFA3 Tryz.prog 143 4 v42n19 4) fun v43n20 =>
 insB (evLoad3 Tryz.prog 141 v43n20) fun v44n21 =>
 insB (evBS3 Tryz.prog 141 1 [(0, v35n16)]) fun v46n22 =>
 insB (evAppend3 Tryz.prog 141 v44n21 v46n22) fun v47n23 =>
 optK (nil2 a0) fun v48n24 =>
 optK (evFA3 Tryz.prog 143 4 v48n24 4) fun v49n25 =>
 insB (evStore3 Tryz.prog 141 v49n25 v47n23) fun u26 =>
 optK (nil2 a0) fun v52n27 =>
 optK (evFA3 Tryz.prog 143 0 v52n27 0) fun v53n28 =>
 insB (evLoad3 Tryz.prog 3 v53n28) fun v54n29 =>
 (inside (rec 197 #[v54n29])).bind fun v55n30 =>
 optK (evExtract v55n30 0) fun v56n31 =>
 optK (evExtract v55n30 1) fun v57n32 =>
 optK (nil2 a0) fun v60n33 =>
 optK (evFA3 Tryz.prog 143 3 v60n33 3) fun v61n34 =>
 insB (evStore3 Tryz.prog 140 v61n34 v56n31) fun u35 =>
 outK [(Value.int .i64 (-1)), (Value.int .i64 0)])))
theorem fsh_code_Reader_table (lf d : Nat) (a0 : Value) (a1 : Value) : inside (F_code_Reader_table lf d (evC lf d) a0 a1) = evC lf (d + 1) 193 #[a0, a1] := by
  unfold F_code_Reader_table; (try simp only [clash3_eq, evAppend3_eq, evBS3_eq, evFA3_eq (P := Tryz.prog) gf143f0, evFA3_eq (P := Tryz.prog) gf143f3, evFA3_eq (P := Tryz.prog) gf143f4, evLoad3_eq (P := Tryz.prog) ga140, evLoad3_eq (P := Tryz.prog) ga141, evLoad3_eq (P := Tryz.prog) ga3, evStore3_eq (P := Tryz.prog) gs140, evStore3_eq (P := Tryz.prog) gs141, insB_eq, q_neq_eq (P := Tryz.prog) nf27, un3_eq]); kernel_rfl

/- zeros_Reader_Put -/
noncomputable def F_zeros_Reader_Put (lf d : Nat) (rec : FuncId → Array Value → M Value) (a0 : Value) (a1 : Value) : M Value :=
 optK (qP_eql Tryz.prog 120 a0 (Value.pointer none)) fun v10n1 =>
 ifV v10n1 (
 outK [(Value.int .i64 0), (Value.int .i64 0), (Value.int .i64 7)]) (
 optK (nil2 a0) fun v13n2 =>
 optK (evFA3 Tryz.prog 237 5 v13n2 5) fun v14n3 =>
 insB (evLoad3 Tryz.prog 4 v14n3) fun v15n4 =>
 ifV v15n4 (
 outK [(Value.int .i64 0), (Value.int .i64 0), (Value.int .i64 7)]) (
 optK (q_lss Tryz.prog 3 a1 (Value.int .i64 0)) fun v19n5 =>
 ifV v19n5 (
 outK [(Value.int .i64 0), (Value.int .i64 0), (Value.int .i64 25)]) (
 optK (nil2 a0) fun v23n6 =>
 optK (evFA3 Tryz.prog 237 0 v23n6 0) fun v24n7 =>
 insB (evLoad3 Tryz.prog 3 v24n7) fun v25n8 =>
 optK (q_add Tryz.prog 3 v25n8 (Value.int .i64 1)) fun v26n9 =>
 optK (q_gtr Tryz.prog 3 a1 v26n9) fun v27n10 =>
 ifV v27n10 (
 outK [(Value.int .i64 0), (Value.int .i64 0), (Value.int .i64 25)]) (
 optK (q_leq Tryz.prog 3 a1 (Value.int .i64 1)) fun v31n11 =>
 ifV v31n11 (
 (inside (rec 207 #[a0, a1])).bind fun v34n12 =>
 optK (q_neq Tryz.prog 27 v34n12 (Value.int .i64 0)) fun v36n13 =>
 ifV v36n13 (
 outK [(Value.int .i64 0), (Value.int .i64 0), v34n12]) (
 outK [(Value.int .i64 0), (Value.int .i64 (-1)), (Value.int .i64 0)])) (
 optK (q_sub Tryz.prog 3 a1 (Value.int .i64 1)) fun v39n14 =>
 optK (nil2 a0) fun v42n15 =>
 optK (evFA3 Tryz.prog 237 0 v42n15 0) fun v43n16 =>
 insB (evLoad3 Tryz.prog 3 v43n16) fun v44n17 =>
 optK (q_add Tryz.prog 3 v44n17 (Value.int .i64 1)) fun v45n18 =>
 optK (q_eql Tryz.prog 3 a1 v45n18) fun v46n19 =>
 ifV v46n19 (
 optK (nil2 a0) fun v48n20 =>
 optK (evFA3 Tryz.prog 237 5 v48n20 5) fun v49n21 =>
 insB (evStore3 Tryz.prog 4 v49n21 (Value.bool true)) fun u22 =>
 optK (nil2 a0) fun v65n23 =>
 optK (evFA3 Tryz.prog 237 3 v65n23 3) fun v66n24 =>
 insB (evLoad3 Tryz.prog 3 v66n24) fun v67n25 =>
 optK (nil2 a0) fun v69n26 =>
 optK (evFA3 Tryz.prog 237 2 v69n26 2) fun v70n27 =>
 insB (evLoad3 Tryz.prog 3 v70n27) fun v71n28 =>
 optK (q_add Tryz.prog 3 v71n28 v67n25) fun v73n29 =>
 optK (nil2 a0) fun v74n30 =>
 optK (evFA3 Tryz.prog 237 2 v74n30 2) fun v75n31 =>
 insB (evStore3 Tryz.prog 3 v75n31 v73n29) fun u32 =>
 optK (nil2 a0) fun v77n33 =>
 optK (evFA3 Tryz.prog 237 3 v77n33 3) fun v78n34 =>
 insB (evStore3 Tryz.prog 3 v78n34 (Value.int .i64 0)) fun u35 =>
 optK (nil2 a0) fun v80n36 =>
 optK (evFA3 Tryz.prog 237 4 v80n36 4) fun v81n37 =>
 insB (evStore3 Tryz.prog 3 v81n37 (Value.int .i64 1)) fun u38 =>
 outK [v67n25, (Value.int .i64 (-1)), (Value.int .i64 0)]) (
 (timed (
 (inside (rec 208 #[a0])).bind fun v51n40 => M.ret v51n40)).bind fun vtn39 =>
 optK (nil2 a0) fun v53n41 =>
 optK (evFA3 Tryz.prog 237 1 v53n41 1) fun v54n42 =>
 (timed (
 insB (evLoad3 Tryz.prog 3 v54n42) fun v55n44 => M.ret v55n44)).bind fun vtn43 =>
 optK (q_eql Tryz.prog 3 vtn39.1 vtn43.1) fun v56n45 =>
 chkT ((!(clash3 vtn39.2 vtn43.2) && true) && true) (
 ifV v56n45 (
 outK [(Value.int .i64 0), (Value.int .i64 0), (Value.int .i64 2)]) (
 optK (nil2 a0) fun v58n46 =>
 optK (evFA3 Tryz.prog 237 2 v58n46 2) fun v59n47 =>
 insB (evLoad3 Tryz.prog 3 v59n47) fun v60n48 =>
 optK (q_add Tryz.prog 3 v60n48 (Value.int .i64 1)) fun v61n49 =>
 optK (nil2 a0) fun v62n50 =>
 optK (evFA3 Tryz.prog 237 2 v62n50 2) fun v63n51 =>
 insB (evStore3 Tryz.prog 3 v63n51 v61n49) fun u52 =>
 optK (nil2 a0) fun v65n53 =>
 optK (evFA3 Tryz.prog 237 3 v65n53 3) fun v66n54 =>
 insB (evLoad3 Tryz.prog 3 v66n54) fun v67n55 =>
 optK (nil2 a0) fun v69n56 =>
 optK (evFA3 Tryz.prog 237 2 v69n56 2) fun v70n57 =>
 insB (evLoad3 Tryz.prog 3 v70n57) fun v71n58 =>
 optK (q_add Tryz.prog 3 v71n58 v67n55) fun v73n59 =>
 optK (nil2 a0) fun v74n60 =>
 optK (evFA3 Tryz.prog 237 2 v74n60 2) fun v75n61 =>
 insB (evStore3 Tryz.prog 3 v75n61 v73n59) fun u62 =>
 optK (nil2 a0) fun v77n63 =>
 optK (evFA3 Tryz.prog 237 3 v77n63 3) fun v78n64 =>
 insB (evStore3 Tryz.prog 3 v78n64 (Value.int .i64 0)) fun u65 =>
 optK (nil2 a0) fun v80n66 =>
 optK (evFA3 Tryz.prog 237 4 v80n66 4) fun v81n67 =>
 insB (evStore3 Tryz.prog 3 v81n67 (Value.int .i64 1)) fun u68 =>
 outK [v67n55, v39n14, (Value.int .i64 0)]))))))))
theorem fsh_zeros_Reader_Put (lf d : Nat) (a0 : Value) (a1 : Value) : inside (F_zeros_Reader_Put lf d (evC lf d) a0 a1) = evC lf (d + 1) 194 #[a0, a1] := by
  unfold F_zeros_Reader_Put; (try simp only [clash3_eq, evFA3_eq (P := Tryz.prog) gf237f0, evFA3_eq (P := Tryz.prog) gf237f1, evFA3_eq (P := Tryz.prog) gf237f2, evFA3_eq (P := Tryz.prog) gf237f3, evFA3_eq (P := Tryz.prog) gf237f4, evFA3_eq (P := Tryz.prog) gf237f5, evLoad3_eq (P := Tryz.prog) ga3, evLoad3_eq (P := Tryz.prog) ga4, evStore3_eq (P := Tryz.prog) gs3, evStore3_eq (P := Tryz.prog) gs4, insB_eq, qP_eql_eq (P := Tryz.prog) Tryz.underlying120, q_add_eq (P := Tryz.prog) nf3, q_eql_eq (P := Tryz.prog) nf3, q_gtr_eq (P := Tryz.prog) nf3, q_leq_eq (P := Tryz.prog) nf3, q_lss_eq (P := Tryz.prog) nf3, q_neq_eq (P := Tryz.prog) nf27, q_sub_eq (P := Tryz.prog) nf3]); kernel_rfl

/- used_marks -/
noncomputable def lpA_used_marks (lf d fu : Nat) (k : Ex → Fr → M Value) (x0 : Value) (x2 : Value) (x3 : Value) (x5 : Value) : M Value := loopK (fun s1 k1 => codeK Tryz.prog (evC lf d) (gtA 195) lf (codeAt (bodyOf Tryz.prog 195) [true, true, false, true, false, false]) s1 k1) [0, 2, 3, 5] fu [(0, x0), (2, x2), (3, x3), (5, x5)] k
noncomputable def kcA_used_marks (lf d : Nat) : Ex → Fr → M Value := contAt Tryz.prog (evC lf d) (gtA 195) lf (bodyOf Tryz.prog 195) [true, true, false, true, false] (endK Tryz.prog (resOf Tryz.prog 195))
noncomputable def LA_used_marks (lf d : Nat) (rec : FuncId → Array Value → M Value) (k : Ex → Fr → M Value) : Nat → Value → Value → Value → Value → M Value
 | 0, _, _, _, _ => M.fail
 | fu + 1, x0, x2, x3, x5 =>
 optK (q_lss Tryz.prog 3 x5 (Value.int .i64 16)) fun v6n1 =>
 ifV v6n1 (
 optK (q_sub Tryz.prog 3 (Value.int .i64 15) x5) fun v10n2 =>
 optK (q_shr Tryz.prog 62 x0 v10n2) fun v11n3 =>
 optK (q_and Tryz.prog 62 v11n3 (Value.int .u32 1)) fun v12n4 =>
 optK (q_eql Tryz.prog 62 v12n4 (Value.int .u32 1)) fun v13n5 =>
 ifV v13n5 (
 insB (evBS3 Tryz.prog 91 1 [(0, x5)]) fun v16n6 =>
 insB (evAppend3 Tryz.prog 91 x3 v16n6) fun v17n7 =>
 optK (q_add Tryz.prog 3 x5 (Value.int .i64 1)) fun v18n8 =>
 LA_used_marks lf d rec k fu x0 x2 v17n7 v18n8) (
 optK (q_add Tryz.prog 3 x5 (Value.int .i64 1)) fun v18n9 =>
 LA_used_marks lf d rec k fu x0 x2 x3 v18n9)) (
 k (Ex.exit 0) [(0, x0), (2, x2), (3, x3), (5, x5), (6, v6n1)])
noncomputable def KA_used_marks (lf d : Nat) (rec : FuncId → Array Value → M Value) (dflt : Ex → Fr → M Value) : Ex → Fr → M Value := (kEx 0 (runCur [0, 2, 3, 5, 6] (fun y0 y2 y3 y5 y6 =>
 outK [y3]) (dflt (Ex.exit 0))) dflt)
noncomputable def F_used_marks (lf d : Nat) (rec : FuncId → Array Value → M Value) (a0 : Value) : M Value :=
 LA_used_marks lf d rec (KA_used_marks lf d rec (kcA_used_marks lf d)) lf a0 (Value.slice none 0 0) (Value.slice none 0 0) (Value.int .i64 0)
theorem LQA_used_marks (lf d : Nat) (k : Ex → Fr → M Value) : ∀ fu : Nat, LA_used_marks lf d (evC lf d) k fu = lpA_used_marks lf d fu k
  | 0 => by funext x0 x2 x3 x5; kernel_rfl
  | fu + 1 => by
    have ih := LQA_used_marks lf d k fu
    funext x0 x2 x3 x5; simp only [LA_used_marks, ih, clash3_eq, evAppend3_eq, evBS3_eq, insB_eq, q_add_eq (P := Tryz.prog) nf3, q_and_eq (P := Tryz.prog) nf62, q_eql_eq (P := Tryz.prog) nf62, q_lss_eq (P := Tryz.prog) nf3, q_shr_eq (P := Tryz.prog) nf62, q_sub_eq (P := Tryz.prog) nf3]; kernel_rfl
set_option maxRecDepth 20000 in
theorem KQA_used_marks (lf d : Nat) : KA_used_marks lf d (evC lf d) (kcA_used_marks lf d) = kcA_used_marks lf d := by
  unfold KA_used_marks
  refine Eq.trans (kEx_eq ?_) ?_
  · exact (runCur_eq _ _ _ (by intro y0 y2 y3 y5 y6; show _ = _; (try simp only [clash3_eq, insB_eq]); kernel_rfl))
  rfl
theorem fsh_used_marks (lf d : Nat) (a0 : Value) : inside (F_used_marks lf d (evC lf d) a0) = evC lf (d + 1) 195 #[a0] := by
  unfold F_used_marks; (try simp only [KQA_used_marks lf d, LQA_used_marks, clash3_eq, insB_eq]); kernel_rfl

/- used_listed -/
noncomputable def lpA_used_listed (lf d fu : Nat) (k : Ex → Fr → M Value) (x0 : Value) (x1 : Value) (x2 : Value) (x3 : Value) (x6 : Value) (x7 : Value) : M Value := loopK (fun s1 k1 => codeK Tryz.prog (evC lf d) (gtA 196) lf (codeAt (bodyOf Tryz.prog 196) [true, true, false, true, false, false]) s1 k1) [0, 1, 2, 3, 6, 7] fu [(0, x0), (1, x1), (2, x2), (3, x3), (6, x6), (7, x7)] k
noncomputable def kcA_used_listed (lf d : Nat) : Ex → Fr → M Value := contAt Tryz.prog (evC lf d) (gtA 196) lf (bodyOf Tryz.prog 196) [true, true, false, true, false] (endK Tryz.prog (resOf Tryz.prog 196))
noncomputable def LA_used_listed (lf d : Nat) (rec : FuncId → Array Value → M Value) (k : Ex → Fr → M Value) : Nat → Value → Value → Value → Value → Value → Value → M Value
 | 0, _, _, _, _, _, _ => M.fail
 | fu + 1, x0, x1, x2, x3, x6, x7 =>
 optK (q_lss Tryz.prog 3 x7 (Value.int .i64 256)) fun v8n3 =>
 ifV v8n3 (
 optK (index2 Tryz.prog 230 x6 x7) fun v10n4 =>
 ifV v10n4 (
 conv3 Tryz.prog 3 5 .i64 .u8 x7 fun v14n5 =>
 insB (evBS3 Tryz.prog 58 1 [(0, v14n5)]) fun v15n6 =>
 insB (evAppend3 Tryz.prog 58 x3 v15n6) fun v16n7 =>
 optK (q_add Tryz.prog 3 x7 (Value.int .i64 1)) fun v17n8 =>
 LA_used_listed lf d rec k fu x0 x1 x2 v16n7 x6 v17n8) (
 optK (q_add Tryz.prog 3 x7 (Value.int .i64 1)) fun v17n9 =>
 LA_used_listed lf d rec k fu x0 x1 x2 x3 x6 v17n9)) (
 k (Ex.exit 0) [(0, x0), (1, x1), (2, x2), (3, x3), (6, x6), (7, x7), (8, v8n3)])
noncomputable def KA_used_listed (lf d : Nat) (rec : FuncId → Array Value → M Value) (dflt : Ex → Fr → M Value) : Ex → Fr → M Value := (kEx 0 (runCur [0, 1, 2, 3, 6, 7, 8] (fun y0 y1 y2 y3 y6 y7 y8 =>
 insB (evToStr3 y3) fun v19n10 =>
 outK [v19n10]) (dflt (Ex.exit 0))) dflt)
noncomputable def F_used_listed (lf d : Nat) (rec : FuncId → Array Value → M Value) (a0 : Value) : M Value :=
 insB (evBox3 Tryz.prog 230 a0) fun v1n1 =>
 insB (evLoadA3 Tryz.prog 230 256 v1n1) fun v6n2 =>
 LA_used_listed lf d rec (KA_used_listed lf d rec (kcA_used_listed lf d)) lf a0 v1n1 (Value.string { data := #[] }) (Value.slice none 0 0) v6n2 (Value.int .i64 0)
theorem LQA_used_listed (lf d : Nat) (k : Ex → Fr → M Value) : ∀ fu : Nat, LA_used_listed lf d (evC lf d) k fu = lpA_used_listed lf d fu k
  | 0 => by funext x0 x1 x2 x3 x6 x7; kernel_rfl
  | fu + 1 => by
    have ih := LQA_used_listed lf d k fu
    funext x0 x1 x2 x3 x6 x7; simp only [LA_used_listed, ih, clash3_eq, conv3_eq cw3x5, evAppend3_eq, evBS3_eq, insB_eq, q_add_eq (P := Tryz.prog) nf3, q_lss_eq (P := Tryz.prog) nf3]; kernel_rfl
set_option maxRecDepth 20000 in
theorem KQA_used_listed (lf d : Nat) : KA_used_listed lf d (evC lf d) (kcA_used_listed lf d) = kcA_used_listed lf d := by
  unfold KA_used_listed
  refine Eq.trans (kEx_eq ?_) ?_
  · exact (runCur_eq _ _ _ (by intro y0 y1 y2 y3 y6 y7 y8; show _ = _; (try simp only [clash3_eq, evToStr3_eq, insB_eq]); kernel_rfl))
  rfl
theorem fsh_used_listed (lf d : Nat) (a0 : Value) : inside (F_used_listed lf d (evC lf d) a0) = evC lf (d + 1) 196 #[a0] := by
  unfold F_used_listed; (try simp only [KQA_used_listed lf d, LQA_used_listed, clash3_eq, evBox3_eq, evLoadA3_eq (P := Tryz.prog) ga230 gs230, insB_eq]); kernel_rfl

/- delta_NewReader -/
noncomputable def F_delta_NewReader (lf d : Nat) (rec : FuncId → Array Value → M Value) (a0 : Value) : M Value :=
 (inside (rec 209 #[a0])).bind fun v5n1 =>
 optK (un3 Tryz.prog .not v5n1) fun v6n2 =>
 ifV v6n2 (
 outK [(Value.pointer none), (Value.int .i64 1)]) (
 insB (evBuildZ Tryz.prog 242 [Value.int .i64 0, Value.int .i64 0, Value.slice none 0 0, Value.bool false] [(0, a0)]) fun v8n3 =>
 insB (evBox3 Tryz.prog 242 v8n3) fun v9n4 =>
 outK [v9n4, (Value.int .i64 0)])
theorem fsh_delta_NewReader (lf d : Nat) (a0 : Value) : inside (F_delta_NewReader lf d (evC lf d) a0) = evC lf (d + 1) 197 #[a0] := by
  unfold F_delta_NewReader; (try simp only [bz242, clash3_eq, evBox3_eq, insB_eq, un3_eq]); kernel_rfl

/- picks_NewReader -/
noncomputable def F_picks_NewReader (lf d : Nat) (rec : FuncId → Array Value → M Value) : M Value :=
 (inside (rec 210 #[])).bind fun v1n1 =>
 insB (evBuildZ Tryz.prog 170 (appV [Value.int .i64 0] (appV [Value.int .i64 0] (appV (repV (Value.int .i64 0) 6) (appV [Value.slice none 0 0] [Value.bool false])))) [(2, v1n1)]) fun v2n2 =>
 insB (evBox3 Tryz.prog 170 v2n2) fun v3n3 =>
 outK [v3n3]
theorem fsh_picks_NewReader (lf d : Nat) : inside (F_picks_NewReader lf d (evC lf d)) = evC lf (d + 1) 198 #[] := by
  unfold F_picks_NewReader; (try simp only [bz170, clash3_eq, evBox3_eq, insB_eq]); kernel_rfl

/- zeros_may -/
noncomputable def F_zeros_may (lf d : Nat) (rec : FuncId → Array Value → M Value) (a0 : Value) : M Value :=
 optK (q_geq Tryz.prog 3 a0 (Value.int .i64 1)) fun v4n1 =>
 ifV v4n1 (
 optK (q_leq Tryz.prog 3 a0 (Value.int .i64 256)) fun v7n2 =>
 outK [v7n2]) (
 outK [(Value.bool false)])
theorem fsh_zeros_may (lf d : Nat) (a0 : Value) : inside (F_zeros_may lf d (evC lf d) a0) = evC lf (d + 1) 199 #[a0] := by
  unfold F_zeros_may; (try simp only [clash3_eq, insB_eq, q_geq_eq (P := Tryz.prog) nf3, q_leq_eq (P := Tryz.prog) nf3]); kernel_rfl

/- used_Is -/
noncomputable def lpA_used_Is (lf d fu : Nat) (k : Ex → Fr → M Value) (x0 : Value) (x2 : Value) (x5 : Value) (x6 : Value) : M Value := loopK (fun s1 k1 => codeK Tryz.prog (evC lf d) (gtA 200) lf (codeAt (bodyOf Tryz.prog 200) [true, false, true, false, false]) s1 k1) [0, 2, 5, 6] fu [(0, x0), (2, x2), (5, x5), (6, x6)] k
noncomputable def kcA_used_Is (lf d : Nat) : Ex → Fr → M Value := contAt Tryz.prog (evC lf d) (gtA 200) lf (bodyOf Tryz.prog 200) [true, false, true, false] (endK Tryz.prog (resOf Tryz.prog 200))
noncomputable def LA_used_Is (lf d : Nat) (rec : FuncId → Array Value → M Value) (k : Ex → Fr → M Value) : Nat → Value → Value → Value → Value → M Value
 | 0, _, _, _, _ => M.fail
 | fu + 1, x0, x2, x5, x6 =>
 optK (q_lss Tryz.prog 3 x6 x5) fun v7n2 =>
 ifV v7n2 (
 optK (q_gtr Tryz.prog 3 x6 (Value.int .i64 0)) fun v10n3 =>
 ifV v10n3 (
 optK (index3 Tryz.prog 9 x0 x6) fun v14n4 =>
 optK (q_sub Tryz.prog 3 x6 (Value.int .i64 1)) fun v17n5 =>
 optK (index3 Tryz.prog 9 x0 v17n5) fun v18n6 =>
 optK (q_leq Tryz.prog 5 v14n4 v18n6) fun v19n7 =>
 ifV v19n7 (
 k Ex.ret [(0, x0), (2, (Value.bool false)), (3, x6), (5, x5), (6, x6), (7, v7n2), (20, v19n7)]) (
 optK (q_add Tryz.prog 3 x6 (Value.int .i64 1)) fun v21n8 =>
 LA_used_Is lf d rec k fu x0 x2 x5 v21n8)) (
 optK (q_add Tryz.prog 3 x6 (Value.int .i64 1)) fun v21n9 =>
 LA_used_Is lf d rec k fu x0 x2 x5 v21n9)) (
 k (Ex.exit 0) [(0, x0), (2, x2), (5, x5), (6, x6), (7, v7n2)])
noncomputable def KA_used_Is (lf d : Nat) (rec : FuncId → Array Value → M Value) (dflt : Ex → Fr → M Value) : Ex → Fr → M Value := (kEx 0 (runCur [0, 2, 5, 6, 7] (fun y0 y2 y5 y6 y7 =>
 optK (qS_neq Tryz.prog 9 y0 (Value.string { data := #[] })) fun v23n10 =>
 outK [v23n10]) (dflt (Ex.exit 0))) (kRt (runCur [0, 2, 3, 5, 6, 7, 20] (fun y0 y2 y3 y5 y6 y7 y20 =>
 outK [y2]) (dflt Ex.ret)) dflt))
noncomputable def F_used_Is (lf d : Nat) (rec : FuncId → Array Value → M Value) (a0 : Value) : M Value :=
 optK (len2 Tryz.prog #[9] [a0]) fun v5n1 =>
 LA_used_Is lf d rec (KA_used_Is lf d rec (kcA_used_Is lf d)) lf a0 (Value.bool false) v5n1 (Value.int .i64 0)
theorem LQA_used_Is (lf d : Nat) (k : Ex → Fr → M Value) : ∀ fu : Nat, LA_used_Is lf d (evC lf d) k fu = lpA_used_Is lf d fu k
  | 0 => by funext x0 x2 x5 x6; kernel_rfl
  | fu + 1 => by
    have ih := LQA_used_Is lf d k fu
    funext x0 x2 x5 x6; simp only [LA_used_Is, ih, clash3_eq, index3_eq (P := Tryz.prog) Tryz.underlying9, insB_eq, q_add_eq (P := Tryz.prog) nf3, q_gtr_eq (P := Tryz.prog) nf3, q_leq_eq (P := Tryz.prog) nf5, q_lss_eq (P := Tryz.prog) nf3, q_sub_eq (P := Tryz.prog) nf3]; kernel_rfl
set_option maxRecDepth 20000 in
theorem KQA_used_Is (lf d : Nat) : KA_used_Is lf d (evC lf d) (kcA_used_Is lf d) = kcA_used_Is lf d := by
  unfold KA_used_Is
  refine Eq.trans (kEx_eq ?_) ?_
  · exact (runCur_eq _ _ _ (by intro y0 y2 y5 y6 y7; show _ = _; (try simp only [clash3_eq, insB_eq, qS_neq_eq (P := Tryz.prog) nf9]); kernel_rfl))
  refine Eq.trans (kRt_eq ?_) ?_
  · exact (runCur_eq _ _ _ (by intro y0 y2 y3 y5 y6 y7 y20; show _ = _; (try simp only [clash3_eq, insB_eq, qS_neq_eq (P := Tryz.prog) nf9]); kernel_rfl))
  rfl
theorem fsh_used_Is (lf d : Nat) (a0 : Value) : inside (F_used_Is lf d (evC lf d) a0) = evC lf (d + 1) 200 #[a0] := by
  unfold F_used_Is; (try simp only [KQA_used_Is lf d, LQA_used_Is, clash3_eq, insB_eq]); kernel_rfl

/- canon_Code_Get -/
noncomputable def F_canon_Code_Get (lf d : Nat) (rec : FuncId → Array Value → M Value) (a0 : Value) (a1 : Value) : M Value :=
 optK (qP_eql Tryz.prog 238 a0 (Value.pointer none)) fun v10n1 =>
 ifV v10n1 (
 outK [(Value.int .i64 0), (Value.int .i64 7)]) (
 optK (qP_eql Tryz.prog 55 a1 (Value.pointer none)) fun v13n2 =>
 ifV v13n2 (
 outK [(Value.int .i64 0), (Value.int .i64 7)]) (
 (inside (rec 182 #[a1])).bind fun v16n3 =>
 (inside (rec 211 #[a0, a1])).bind fun v20n4 =>
 optK (evExtract v20n4 0) fun v21n5 =>
 optK (evExtract v20n4 1) fun v22n6 =>
 optK (q_neq Tryz.prog 27 v22n6 (Value.int .i64 0)) fun v24n7 =>
 ifV v24n7 (
 (inside (rec 184 #[a1, v16n3])).bind fun v27n8 =>
 outK [v21n5, v22n6]) (
 outK [v21n5, v22n6])))
theorem fsh_canon_Code_Get (lf d : Nat) (a0 : Value) (a1 : Value) : inside (F_canon_Code_Get lf d (evC lf d) a0 a1) = evC lf (d + 1) 201 #[a0, a1] := by
  unfold F_canon_Code_Get; (try simp only [clash3_eq, insB_eq, qP_eql_eq (P := Tryz.prog) Tryz.underlying238, qP_eql_eq (P := Tryz.prog) Tryz.underlying55, q_neq_eq (P := Tryz.prog) nf27]); kernel_rfl

/- picks_Reader_Step -/
noncomputable def F_picks_Reader_Step (lf d : Nat) (rec : FuncId → Array Value → M Value) (a0 : Value) (a1 : Value) : M Value :=
 optK (qP_eql Tryz.prog 139 a0 (Value.pointer none)) fun v10n1 =>
 ifV v10n1 (
 outK [(Value.int .i64 7)]) (
 optK (qP_eql Tryz.prog 55 a1 (Value.pointer none)) fun v13n2 =>
 ifV v13n2 (
 outK [(Value.int .i64 7)]) (
 (inside (rec 190 #[a0])).bind fun v17n3 =>
 ifV v17n3 (
 outK [(Value.int .i64 7)]) (
 optK (nil2 a0) fun v21n4 =>
 optK (evFA3 Tryz.prog 170 9 v21n4 4) fun v22n5 =>
 insB (evLoad3 Tryz.prog 4 v22n5) fun v23n6 =>
 ifV v23n6 (
 outK [(Value.int .i64 25)]) (
 (inside (rec 182 #[a1])).bind fun v25n7 =>
 optK (nil2 a0) fun v29n8 =>
 optK (evFA3 Tryz.prog 170 1 v29n8 1) fun v30n9 =>
 insB (evLoad3 Tryz.prog 3 v30n9) fun v31n10 =>
 optK (q_eql Tryz.prog 3 v31n10 (Value.int .i64 0)) fun v32n11 =>
 ifV v32n11 (
 callV Tryz.prog rec (Value.func (Go.Fn.func 213) #[a0] #[]) [a1] fun v37n12 =>
 optK (q_eql Tryz.prog 27 v37n12 (Value.int .i64 3)) fun v39n13 =>
 ifV v39n13 (
 (inside (rec 184 #[a1, v25n7])).bind fun v42n14 =>
 outK [v37n12]) (
 outK [v37n12])) (
 callV Tryz.prog rec (Value.func (Go.Fn.func 212) #[a0] #[]) [a1] fun v37n15 =>
 optK (q_eql Tryz.prog 27 v37n15 (Value.int .i64 3)) fun v39n16 =>
 ifV v39n16 (
 (inside (rec 184 #[a1, v25n7])).bind fun v42n17 =>
 outK [v37n15]) (
 outK [v37n15]))))))
theorem fsh_picks_Reader_Step (lf d : Nat) (a0 : Value) (a1 : Value) : inside (F_picks_Reader_Step lf d (evC lf d) a0 a1) = evC lf (d + 1) 202 #[a0, a1] := by
  unfold F_picks_Reader_Step; (try simp only [clash3_eq, evFA3_eq (P := Tryz.prog) gf170f1, evFA3_eq (P := Tryz.prog) gf170f4, evLoad3_eq (P := Tryz.prog) ga3, evLoad3_eq (P := Tryz.prog) ga4, insB_eq, qP_eql_eq (P := Tryz.prog) Tryz.underlying139, qP_eql_eq (P := Tryz.prog) Tryz.underlying55, q_eql_eq (P := Tryz.prog) nf27, q_eql_eq (P := Tryz.prog) nf3]); kernel_rfl

/- delta_Reader_Step -/
noncomputable def F_delta_Reader_Step (lf d : Nat) (rec : FuncId → Array Value → M Value) (a0 : Value) (a1 : Value) : M Value :=
 optK (qP_eql Tryz.prog 140 a0 (Value.pointer none)) fun v9n1 =>
 ifV v9n1 (
 outK [(Value.int .i64 7)]) (
 optK (qP_eql Tryz.prog 55 a1 (Value.pointer none)) fun v12n2 =>
 ifV v12n2 (
 outK [(Value.int .i64 7)]) (
 (inside (rec 204 #[a0])).bind fun v16n3 =>
 ifV v16n3 (
 outK [(Value.int .i64 7)]) (
 optK (nil2 a0) fun v20n4 =>
 optK (evFA3 Tryz.prog 242 3 v20n4 3) fun v21n5 =>
 insB (evLoad3 Tryz.prog 4 v21n5) fun v22n6 =>
 ifV v22n6 (
 outK [(Value.int .i64 22)]) (
 (inside (rec 182 #[a1])).bind fun v24n7 =>
 (inside (rec 214 #[a0, a1])).bind fun v27n8 =>
 optK (q_eql Tryz.prog 27 v27n8 (Value.int .i64 3)) fun v29n9 =>
 ifV v29n9 (
 (inside (rec 184 #[a1, v24n7])).bind fun v32n10 =>
 outK [v27n8]) (
 outK [v27n8])))))
theorem fsh_delta_Reader_Step (lf d : Nat) (a0 : Value) (a1 : Value) : inside (F_delta_Reader_Step lf d (evC lf d) a0 a1) = evC lf (d + 1) 203 #[a0, a1] := by
  unfold F_delta_Reader_Step; (try simp only [clash3_eq, evFA3_eq (P := Tryz.prog) gf242f3, evLoad3_eq (P := Tryz.prog) ga4, insB_eq, qP_eql_eq (P := Tryz.prog) Tryz.underlying140, qP_eql_eq (P := Tryz.prog) Tryz.underlying55, q_eql_eq (P := Tryz.prog) nf27]); kernel_rfl

/- delta_Reader_Done -/
noncomputable def F_delta_Reader_Done (lf d : Nat) (rec : FuncId → Array Value → M Value) (a0 : Value) : M Value :=
 optK (qP_neq Tryz.prog 140 a0 (Value.pointer none)) fun v4n1 =>
 ifV v4n1 (
 optK (nil2 a0) fun v7n2 =>
 optK (evFA3 Tryz.prog 242 2 v7n2 2) fun v8n3 =>
 insB (evLoad3 Tryz.prog 91 v8n3) fun v9n4 =>
 optK (len2 Tryz.prog #[91] [v9n4]) fun v10n5 =>
 optK (nil2 a0) fun v12n6 =>
 optK (evFA3 Tryz.prog 242 0 v12n6 0) fun v13n7 =>
 insB (evLoad3 Tryz.prog 3 v13n7) fun v14n8 =>
 optK (q_eql Tryz.prog 3 v10n5 v14n8) fun v15n9 =>
 outK [v15n9]) (
 outK [(Value.bool false)])
theorem fsh_delta_Reader_Done (lf d : Nat) (a0 : Value) : inside (F_delta_Reader_Done lf d (evC lf d) a0) = evC lf (d + 1) 204 #[a0] := by
  unfold F_delta_Reader_Done; (try simp only [clash3_eq, evFA3_eq (P := Tryz.prog) gf242f0, evFA3_eq (P := Tryz.prog) gf242f2, evLoad3_eq (P := Tryz.prog) ga3, evLoad3_eq (P := Tryz.prog) ga91, insB_eq, qP_neq_eq (P := Tryz.prog) Tryz.underlying140, q_eql_eq (P := Tryz.prog) nf3]); kernel_rfl

/- canon_New -/
noncomputable def lpA_canon_New (lf d fu : Nat) (k : Ex → Fr → M Value) (x0 : Value) (x2 : Value) (x3 : Value) (x4 : Value) (x5 : Value) (x6 : Value) (x9 : Value) (x18 : Value) : M Value := loopK (fun s1 k1 => codeK Tryz.prog (evC lf d) (gtA 205) lf (codeAt (bodyOf Tryz.prog 205) [true, true, true, true, false, true, false, false]) s1 k1) [0, 2, 3, 4, 5, 6, 9, 18] fu [(0, x0), (2, x2), (3, x3), (4, x4), (5, x5), (6, x6), (9, x9), (18, x18)] k
noncomputable def kcA_canon_New (lf d : Nat) : Ex → Fr → M Value := contAt Tryz.prog (evC lf d) (gtA 205) lf (bodyOf Tryz.prog 205) [true, true, true, true, false, true, false] (endK Tryz.prog (resOf Tryz.prog 205))
noncomputable def lpB_canon_New (lf d fu : Nat) (k : Ex → Fr → M Value) (x0 : Value) (x2 : Value) (x3 : Value) (x4 : Value) (x5 : Value) (x6 : Value) (x9 : Value) (x18 : Value) (x30 : Value) (x51 : Value) (x52 : Value) (x53 : Value) : M Value := loopK (fun s1 k1 => codeK Tryz.prog (evC lf d) (gtA 205) lf (codeAt (bodyOf Tryz.prog 205) [true, true, true, true, false, true, false, false, true, false, false, true, true, true, true, false, false]) s1 k1) [0, 2, 3, 4, 5, 6, 9, 18, 30, 51, 52, 53] fu [(0, x0), (2, x2), (3, x3), (4, x4), (5, x5), (6, x6), (9, x9), (18, x18), (30, x30), (51, x51), (52, x52), (53, x53)] k
noncomputable def kcB_canon_New (lf d fu : Nat) (k : Ex → Fr → M Value) : Ex → Fr → M Value := contAt Tryz.prog (evC lf d) (gtA 205) lf (codeAt (bodyOf Tryz.prog 205) [true, true, true, true, false, true, false, false]) [true, false, false, true, true, true, true, false] (againK (fun s1 => loopK (fun s1 k1 => codeK Tryz.prog (evC lf d) (gtA 205) lf (codeAt (bodyOf Tryz.prog 205) [true, true, true, true, false, true, false, false]) s1 k1) [0, 2, 3, 4, 5, 6, 9, 18] fu (s1.keep [0, 2, 3, 4, 5, 6, 9, 18]) k) k)
noncomputable def KA_canon_New (lf d : Nat) (rec : FuncId → Array Value → M Value) (dflt : Ex → Fr → M Value) : Ex → Fr → M Value := (kEx 1 (runCur [0, 2, 3, 4, 5, 6, 9, 18, 30] (fun y0 y2 y3 y4 y5 y6 y9 y18 y30 =>
 optK (nil2 y4) fun v84n30 =>
 optK (evFA3 Tryz.prog 248 2 v84n30 2) fun v85n31 =>
 insB (evLoad3 Tryz.prog 91 v85n31) fun v86n32 =>
 optK (len2 Tryz.prog #[91] [v86n32]) fun v87n33 =>
 optK (nil2 y4) fun v88n34 =>
 optK (evFA3 Tryz.prog 248 24 v88n34 4) fun v89n35 =>
 optK (evIAP3 Tryz.prog 246 22 1 v89n35 (Value.int .i64 21)) fun v90n36 =>
 insB (evStore3 Tryz.prog 3 v90n36 v87n33) fun u37 =>
 outK [y4, (Value.int .i64 0)]) (dflt (Ex.exit 1))) dflt)
noncomputable def LB_canon_New (lf d : Nat) (rec : FuncId → Array Value → M Value) (k : Ex → Fr → M Value) : Nat → Value → Value → Value → Value → Value → Value → Value → Value → Value → Value → Value → Value → M Value
 | 0, _, _, _, _, _, _, _, _, _, _, _, _ => M.fail
 | fu + 1, x0, x2, x3, x4, x5, x6, x9, x18, x30, x51, x52, x53 =>
 optK (q_lss Tryz.prog 3 x53 x52) fun v54n38 =>
 ifV v54n38 (
 optK (evIA3 Tryz.prog 91 1 x51 x53) fun v56n39 =>
 insB (evLoad3 Tryz.prog 3 v56n39) fun v57n40 =>
 optK (q_eql Tryz.prog 3 v57n40 x6) fun v60n41 =>
 ifV v60n41 (
 optK (nil2 x4) fun v62n42 =>
 optK (evFA3 Tryz.prog 248 1 v62n42 1) fun v63n43 =>
 insB (evLoad3 Tryz.prog 75 v63n43) fun v64n44 =>
 conv3 Tryz.prog 3 62 .i64 .u32 x5 fun v67n45 =>
 optK (evIA3 Tryz.prog 75 1 v64n44 x53) fun v68n46 =>
 insB (evStore3 Tryz.prog 62 v68n46 v67n45) fun u47 =>
 optK (nil2 x4) fun v71n48 =>
 optK (evFA3 Tryz.prog 248 2 v71n48 2) fun v72n49 =>
 insB (evLoad3 Tryz.prog 91 v72n49) fun v73n50 =>
 insB (evBS3 Tryz.prog 91 1 [(0, x53)]) fun v75n51 =>
 insB (evAppend3 Tryz.prog 91 v73n50 v75n51) fun v76n52 =>
 optK (nil2 x4) fun v77n53 =>
 optK (evFA3 Tryz.prog 248 2 v77n53 2) fun v78n54 =>
 insB (evStore3 Tryz.prog 91 v78n54 v76n52) fun u55 =>
 optK (q_add Tryz.prog 3 x5 (Value.int .i64 1)) fun v80n56 =>
 optK (q_add Tryz.prog 3 x53 (Value.int .i64 1)) fun v81n57 =>
 LB_canon_New lf d rec k fu x0 x2 x3 x4 v80n56 x6 x9 x18 x30 x51 x52 v81n57) (
 optK (q_add Tryz.prog 3 x53 (Value.int .i64 1)) fun v81n58 =>
 LB_canon_New lf d rec k fu x0 x2 x3 x4 x5 x6 x9 x18 x30 x51 x52 v81n58)) (
 k (Ex.exit 3) [(0, x0), (2, x2), (3, x3), (4, x4), (5, x5), (6, x6), (9, x9), (18, x18), (30, x30), (51, x51), (52, x52), (53, x53), (54, v54n38)])
noncomputable def KB_canon_New (lf d : Nat) (rec : FuncId → Array Value → M Value) (fu : Nat) (k : Ex → Fr → M Value) (again : Value → Value → Value → Value → Value → Value → Value → Value → M Value) (dflt : Ex → Fr → M Value) : Ex → Fr → M Value := (kEx 3 (runCur [0, 2, 3, 4, 5, 6, 9, 18, 30, 51, 52, 53, 54] (fun y0 y2 y3 y4 y5 y6 y9 y18 y30 y51 y52 y53 y54 =>
 optK (q_add Tryz.prog 3 y6 (Value.int .i64 1)) fun v32n59 =>
 again y0 y2 y3 y4 y5 v32n59 y9 y18) (dflt (Ex.exit 3))) dflt)
noncomputable def LA_canon_New (lf d : Nat) (rec : FuncId → Array Value → M Value) (k : Ex → Fr → M Value) : Nat → Value → Value → Value → Value → Value → Value → Value → Value → M Value
 | 0, _, _, _, _, _, _, _, _ => M.fail
 | fu + 1, x0, x2, x3, x4, x5, x6, x9, x18 =>
 optK (q_leq Tryz.prog 3 x6 (Value.int .i64 20)) fun v30n15 =>
 ifV v30n15 (
 optK (q_mul Tryz.prog 3 x5 (Value.int .i64 2)) fun v34n16 =>
 optK (nil2 x4) fun v38n17 =>
 optK (evFA3 Tryz.prog 248 3 v38n17 3) fun v39n18 =>
 optK (evIAP3 Tryz.prog 245 21 1 v39n18 x6) fun v40n19 =>
 insB (evStore3 Tryz.prog 3 v40n19 v34n16) fun u20 =>
 optK (nil2 x4) fun v44n21 =>
 optK (evFA3 Tryz.prog 248 2 v44n21 2) fun v45n22 =>
 insB (evLoad3 Tryz.prog 91 v45n22) fun v46n23 =>
 optK (len2 Tryz.prog #[91] [v46n23]) fun v47n24 =>
 optK (nil2 x4) fun v48n25 =>
 optK (evFA3 Tryz.prog 248 24 v48n25 4) fun v49n26 =>
 optK (evIAP3 Tryz.prog 246 22 1 v49n26 x6) fun v50n27 =>
 insB (evStore3 Tryz.prog 3 v50n27 v47n24) fun u28 =>
 optK (len2 Tryz.prog #[91] [x0]) fun v52n29 =>
 LB_canon_New lf d rec (KB_canon_New lf d rec fu k (LA_canon_New lf d rec k fu) (kcB_canon_New lf d fu k)) lf x0 x2 x3 x4 v34n16 x6 x9 x18 v30n15 x0 v52n29 (Value.int .i64 0)) (
 k (Ex.exit 1) [(0, x0), (2, x2), (3, x3), (4, x4), (5, x5), (6, x6), (9, x9), (18, x18), (30, v30n15)])
noncomputable def F_canon_New (lf d : Nat) (rec : FuncId → Array Value → M Value) (a0 : Value) : M Value :=
 optK (len2 Tryz.prog #[91] [a0]) fun v11n1 =>
 optK (q_lss Tryz.prog 3 v11n1 (Value.int .i64 3)) fun v12n2 =>
 ifV v12n2 (
 outK [(Value.pointer none), (Value.int .i64 1)]) (
 optK (len2 Tryz.prog #[91] [a0]) fun v15n3 =>
 optK (q_gtr Tryz.prog 3 v15n3 (Value.int .i64 258)) fun v16n4 =>
 ifV v16n4 (
 outK [(Value.pointer none), (Value.int .i64 1)]) (
 (inside (rec 215 #[a0])).bind fun v20n5 =>
 optK (un3 Tryz.prog .not v20n5) fun v21n6 =>
 ifV v21n6 (
 outK [(Value.pointer none), (Value.int .i64 22)]) (
 (timed (
 (inside (rec 129 #[a0])).bind fun v23n8 => M.ret v23n8)).bind fun vtn7 =>
 optK (len2 Tryz.prog #[91] [a0]) fun v25n9 =>
 (timed (
 insB (evMake3 Tryz.prog 75 v25n9 v25n9) fun v26n11 => M.ret v26n11)).bind fun vtn10 =>
 insB (evBuildZ Tryz.prog 248 (appV [Value.slice none 0 0] (appV [Value.slice none 0 0] (appV [Value.slice none 0 0] (appV (repV (Value.int .i64 0) 21) (repV (Value.int .i64 0) 22))))) [(0, vtn7.1), (1, vtn10.1)]) fun v27n12 =>
 (timed (
 insB (evBox3 Tryz.prog 248 v27n12) fun v28n14 => M.ret v28n14)).bind fun vtn13 =>
 chkT ((!(clash3 vtn7.2 vtn10.2) && true) && true) (
 LA_canon_New lf d rec (KA_canon_New lf d rec (kcA_canon_New lf d)) lf a0 (Value.pointer none) (Value.int .i64 0) vtn13.1 (Value.int .i64 0) (Value.int .i64 1) v16n4 v21n6))))
set_option maxRecDepth 20000 in
theorem KQA_canon_New (lf d : Nat) : KA_canon_New lf d (evC lf d) (kcA_canon_New lf d) = kcA_canon_New lf d := by
  unfold KA_canon_New
  refine Eq.trans (kEx_eq ?_) ?_
  · exact (runCur_eq _ _ _ (by intro y0 y2 y3 y4 y5 y6 y9 y18 y30; show _ = _; (try simp only [clash3_eq, evFA3_eq (P := Tryz.prog) gf248f2, evFA3_eq (P := Tryz.prog) gf248f4, evIAP3_eq (P := Tryz.prog) Tryz.underlying246 gs3, evLoad3_eq (P := Tryz.prog) ga91, evStore3_eq (P := Tryz.prog) gs3, insB_eq]); kernel_rfl))
  rfl
theorem LQB_canon_New (lf d : Nat) (k : Ex → Fr → M Value) : ∀ fu : Nat, LB_canon_New lf d (evC lf d) k fu = lpB_canon_New lf d fu k
  | 0 => by funext x0 x2 x3 x4 x5 x6 x9 x18 x30 x51 x52 x53; kernel_rfl
  | fu + 1 => by
    have ih := LQB_canon_New lf d k fu
    funext x0 x2 x3 x4 x5 x6 x9 x18 x30 x51 x52 x53; simp only [LB_canon_New, ih, clash3_eq, conv3_eq cw3x62, evAppend3_eq, evBS3_eq, evFA3_eq (P := Tryz.prog) gf248f1, evFA3_eq (P := Tryz.prog) gf248f2, evIA3_eq (P := Tryz.prog) Tryz.underlying75 gs62, evIA3_eq (P := Tryz.prog) Tryz.underlying91 gs3, evLoad3_eq (P := Tryz.prog) ga3, evLoad3_eq (P := Tryz.prog) ga75, evLoad3_eq (P := Tryz.prog) ga91, evStore3_eq (P := Tryz.prog) gs62, evStore3_eq (P := Tryz.prog) gs91, insB_eq, q_add_eq (P := Tryz.prog) nf3, q_eql_eq (P := Tryz.prog) nf3, q_lss_eq (P := Tryz.prog) nf3]; kernel_rfl
set_option maxRecDepth 20000 in
theorem KQB_canon_New (lf d fu : Nat) (k : Ex → Fr → M Value) (again : Value → Value → Value → Value → Value → Value → Value → Value → M Value) (ha : again = lpA_canon_New lf d fu k) : KB_canon_New lf d (evC lf d) fu k again (kcB_canon_New lf d fu k) = kcB_canon_New lf d fu k := by
  subst ha
  unfold KB_canon_New
  refine Eq.trans (kEx_eq ?_) ?_
  · exact (runCur_eq _ _ _ (by intro y0 y2 y3 y4 y5 y6 y9 y18 y30 y51 y52 y53 y54; show _ = _; (try simp only [clash3_eq, insB_eq, q_add_eq (P := Tryz.prog) nf3]); kernel_rfl))
  rfl
theorem LQA_canon_New (lf d : Nat) (k : Ex → Fr → M Value) : ∀ fu : Nat, LA_canon_New lf d (evC lf d) k fu = lpA_canon_New lf d fu k
  | 0 => by funext x0 x2 x3 x4 x5 x6 x9 x18; kernel_rfl
  | fu + 1 => by
    have ih := LQA_canon_New lf d k fu
    funext x0 x2 x3 x4 x5 x6 x9 x18; simp only [LA_canon_New, ih, KQB_canon_New lf d fu k _ rfl, LQB_canon_New, clash3_eq, evFA3_eq (P := Tryz.prog) gf248f2, evFA3_eq (P := Tryz.prog) gf248f3, evFA3_eq (P := Tryz.prog) gf248f4, evIAP3_eq (P := Tryz.prog) Tryz.underlying245 gs3, evIAP3_eq (P := Tryz.prog) Tryz.underlying246 gs3, evLoad3_eq (P := Tryz.prog) ga91, evStore3_eq (P := Tryz.prog) gs3, insB_eq, q_leq_eq (P := Tryz.prog) nf3, q_mul_eq (P := Tryz.prog) nf3]; kernel_rfl
theorem fsh_canon_New (lf d : Nat) (a0 : Value) : inside (F_canon_New lf d (evC lf d) a0) = evC lf (d + 1) 205 #[a0] := by
  unfold F_canon_New; (try simp only [KQA_canon_New lf d, LQA_canon_New, bz248, clash3_eq, evBox3_eq, evMake3_eq, insB_eq, q_gtr_eq (P := Tryz.prog) nf3, q_lss_eq (P := Tryz.prog) nf3, un3_eq]); kernel_rfl

/- delta_Reader_Lens -/
noncomputable def F_delta_Reader_Lens (lf d : Nat) (rec : FuncId → Array Value → M Value) (a0 : Value) : M Value :=
 optK (qP_eql Tryz.prog 140 a0 (Value.pointer none)) fun v4n1 =>
 ifV v4n1 (
 outK [(Value.slice none 0 0)]) (
 optK (nil2 a0) fun v6n2 =>
 optK (evFA3 Tryz.prog 242 2 v6n2 2) fun v7n3 =>
 insB (evLoad3 Tryz.prog 91 v7n3) fun v8n4 =>
 (inside (rec 129 #[v8n4])).bind fun v9n5 =>
 outK [v9n5])
theorem fsh_delta_Reader_Lens (lf d : Nat) (a0 : Value) : inside (F_delta_Reader_Lens lf d (evC lf d) a0) = evC lf (d + 1) 206 #[a0] := by
  unfold F_delta_Reader_Lens; (try simp only [clash3_eq, evFA3_eq (P := Tryz.prog) gf242f2, evLoad3_eq (P := Tryz.prog) ga91, insB_eq, qP_eql_eq (P := Tryz.prog) Tryz.underlying140]); kernel_rfl

/- zeros_Reader_more -/
noncomputable def F_zeros_Reader_more (lf d : Nat) (rec : FuncId → Array Value → M Value) (a0 : Value) (a1 : Value) : M Value :=
 optK (nil2 a0) fun v7n1 =>
 optK (evFA3 Tryz.prog 237 4 v7n1 4) fun v8n2 =>
 insB (evLoad3 Tryz.prog 3 v8n2) fun v9n3 =>
 optK (q_shl Tryz.prog 3 v9n3 a1) fun v11n4 =>
 optK (nil2 a0) fun v14n5 =>
 optK (evFA3 Tryz.prog 237 1 v14n5 1) fun v15n6 =>
 (timed (
 insB (evLoad3 Tryz.prog 3 v15n6) fun v16n8 => M.ret v16n8)).bind fun vtn7 =>
 (timed (
 (inside (rec 208 #[a0])).bind fun v18n10 => M.ret v18n10)).bind fun vtn9 =>
 optK (q_sub Tryz.prog 3 vtn7.1 vtn9.1) fun v19n11 =>
 optK (q_gtr Tryz.prog 3 v11n4 v19n11) fun v20n12 =>
 chkT ((!(clash3 vtn7.2 vtn9.2) && true) && true) (
 ifV v20n12 (
 outK [(Value.int .i64 2)]) (
 optK (nil2 a0) fun v22n13 =>
 optK (evFA3 Tryz.prog 237 3 v22n13 3) fun v23n14 =>
 insB (evLoad3 Tryz.prog 3 v23n14) fun v24n15 =>
 optK (q_add Tryz.prog 3 v24n15 v11n4) fun v26n16 =>
 optK (nil2 a0) fun v27n17 =>
 optK (evFA3 Tryz.prog 237 3 v27n17 3) fun v28n18 =>
 insB (evStore3 Tryz.prog 3 v28n18 v26n16) fun u19 =>
 optK (nil2 a0) fun v30n20 =>
 optK (evFA3 Tryz.prog 237 4 v30n20 4) fun v31n21 =>
 insB (evLoad3 Tryz.prog 3 v31n21) fun v32n22 =>
 optK (q_mul Tryz.prog 3 v32n22 (Value.int .i64 2)) fun v33n23 =>
 optK (nil2 a0) fun v34n24 =>
 optK (evFA3 Tryz.prog 237 4 v34n24 4) fun v35n25 =>
 insB (evStore3 Tryz.prog 3 v35n25 v33n23) fun u26 =>
 outK [(Value.int .i64 0)]))
theorem fsh_zeros_Reader_more (lf d : Nat) (a0 : Value) (a1 : Value) : inside (F_zeros_Reader_more lf d (evC lf d) a0 a1) = evC lf (d + 1) 207 #[a0, a1] := by
  unfold F_zeros_Reader_more; (try simp only [clash3_eq, evFA3_eq (P := Tryz.prog) gf237f1, evFA3_eq (P := Tryz.prog) gf237f3, evFA3_eq (P := Tryz.prog) gf237f4, evLoad3_eq (P := Tryz.prog) ga3, evStore3_eq (P := Tryz.prog) gs3, insB_eq, q_add_eq (P := Tryz.prog) nf3, q_gtr_eq (P := Tryz.prog) nf3, q_mul_eq (P := Tryz.prog) nf3, q_shl_eq (P := Tryz.prog) nf3, q_sub_eq (P := Tryz.prog) nf3]); kernel_rfl

/- zeros_Reader_Count -/
noncomputable def F_zeros_Reader_Count (lf d : Nat) (rec : FuncId → Array Value → M Value) (a0 : Value) : M Value :=
 optK (qP_eql Tryz.prog 120 a0 (Value.pointer none)) fun v4n1 =>
 ifV v4n1 (
 outK [(Value.int .i64 0)]) (
 optK (nil2 a0) fun v6n2 =>
 optK (evFA3 Tryz.prog 237 2 v6n2 2) fun v7n3 =>
 insB (evLoad3 Tryz.prog 3 v7n3) fun v8n4 =>
 optK (nil2 a0) fun v10n5 =>
 optK (evFA3 Tryz.prog 237 3 v10n5 3) fun v11n6 =>
 insB (evLoad3 Tryz.prog 3 v11n6) fun v12n7 =>
 optK (q_add Tryz.prog 3 v8n4 v12n7) fun v13n8 =>
 outK [v13n8])
theorem fsh_zeros_Reader_Count (lf d : Nat) (a0 : Value) : inside (F_zeros_Reader_Count lf d (evC lf d) a0) = evC lf (d + 1) 208 #[a0] := by
  unfold F_zeros_Reader_Count; (try simp only [clash3_eq, evFA3_eq (P := Tryz.prog) gf237f2, evFA3_eq (P := Tryz.prog) gf237f3, evLoad3_eq (P := Tryz.prog) ga3, insB_eq, qP_eql_eq (P := Tryz.prog) Tryz.underlying120, q_add_eq (P := Tryz.prog) nf3]); kernel_rfl

/- delta_sized -/
noncomputable def F_delta_sized (lf d : Nat) (rec : FuncId → Array Value → M Value) (a0 : Value) : M Value :=
 optK (q_geq Tryz.prog 3 a0 (Value.int .i64 3)) fun v4n1 =>
 ifV v4n1 (
 optK (q_leq Tryz.prog 3 a0 (Value.int .i64 258)) fun v7n2 =>
 outK [v7n2]) (
 outK [(Value.bool false)])
theorem fsh_delta_sized (lf d : Nat) (a0 : Value) : inside (F_delta_sized lf d (evC lf d) a0) = evC lf (d + 1) 209 #[a0] := by
  unfold F_delta_sized; (try simp only [clash3_eq, insB_eq, q_geq_eq (P := Tryz.prog) nf3, q_leq_eq (P := Tryz.prog) nf3]); kernel_rfl

end Go.Proofs.YthhhkplbjcknkaaGreat.Fa

/- The functions of the closed tests of layers 14 and 21 as text that the kernel runs. -/
import Derived.Test.YthhhkplbjcknkaaGreatDoorFd2
namespace Go.Proofs.YthhhkplbjcknkaaGreatDoor.Fa
set_option linter.unusedVariables false
set_option linter.unusedSimpArgs false
open Go Go.RowKit Ev

/- slices_symMergeCmpFunc_int -/
noncomputable def lpA_slices_symMergeCmpFunc_int (lf d fu : Nat) (k : Ex → Fr → M Value) (x0 : Value) (x1 : Value) (x2 : Value) (x3 : Value) (x4 : Value) (x10 : Value) (x11 : Value) (x28 : Value) : M Value := loopK (fun s1 k1 => codeK Tryz.prog (evC lf d) (gtA 271) lf (codeAt (bodyOf Tryz.prog 271) [false, true, false, true, true, false, false, false]) s1 k1) [0, 1, 2, 3, 4, 10, 11, 28] fu [(0, x0), (1, x1), (2, x2), (3, x3), (4, x4), (10, x10), (11, x11), (28, x28)] k
noncomputable def kcA_slices_symMergeCmpFunc_int (lf d : Nat) : Ex → Fr → M Value := contAt Tryz.prog (evC lf d) (gtA 271) lf (bodyOf Tryz.prog 271) [false, true, false, true, true, false, false] (endK Tryz.prog (resOf Tryz.prog 271))
noncomputable def lpB_slices_symMergeCmpFunc_int (lf d fu : Nat) (k : Ex → Fr → M Value) (x0 : Value) (x1 : Value) (x2 : Value) (x3 : Value) (x4 : Value) (x14 : Value) (x15 : Value) (x28 : Value) (x80 : Value) : M Value := loopK (fun s1 k1 => codeK Tryz.prog (evC lf d) (gtA 271) lf (codeAt (bodyOf Tryz.prog 271) [true, false, true, false, true, true, false, false, false]) s1 k1) [0, 1, 2, 3, 4, 14, 15, 28, 80] fu [(0, x0), (1, x1), (2, x2), (3, x3), (4, x4), (14, x14), (15, x15), (28, x28), (80, x80)] k
noncomputable def kcB_slices_symMergeCmpFunc_int (lf d : Nat) : Ex → Fr → M Value := contAt Tryz.prog (evC lf d) (gtA 271) lf (bodyOf Tryz.prog 271) [true, false, true, false, true, true, false, false] (endK Tryz.prog (resOf Tryz.prog 271))
noncomputable def lpC_slices_symMergeCmpFunc_int (lf d fu : Nat) (k : Ex → Fr → M Value) (x0 : Value) (x1 : Value) (x2 : Value) (x3 : Value) (x4 : Value) (x18 : Value) (x19 : Value) (x20 : Value) (x21 : Value) (x22 : Value) (x28 : Value) (x80 : Value) (x140 : Value) : M Value := loopK (fun s1 k1 => codeK Tryz.prog (evC lf d) (gtA 271) lf (codeAt (bodyOf Tryz.prog 271) [true, true, true, true, true, true, true, false, false, false]) s1 k1) [0, 1, 2, 3, 4, 18, 19, 20, 21, 22, 28, 80, 140] fu [(0, x0), (1, x1), (2, x2), (3, x3), (4, x4), (18, x18), (19, x19), (20, x20), (21, x21), (22, x22), (28, x28), (80, x80), (140, x140)] k
noncomputable def kcC_slices_symMergeCmpFunc_int (lf d : Nat) : Ex → Fr → M Value := contAt Tryz.prog (evC lf d) (gtA 271) lf (bodyOf Tryz.prog 271) [true, true, true, true, true, true, true, false, false] (endK Tryz.prog (resOf Tryz.prog 271))
noncomputable def lpD_slices_symMergeCmpFunc_int (lf d fu : Nat) (k : Ex → Fr → M Value) (x0 : Value) (x1 : Value) (x2 : Value) (x3 : Value) (x4 : Value) (x10 : Value) (x11 : Value) (x13 : Value) (x28 : Value) (x33 : Value) : M Value := loopK (fun s1 k1 => codeK Tryz.prog (evC lf d) (gtA 271) lf (codeAt (bodyOf Tryz.prog 271) [false, true, false, true, true, true, false, true, false, false]) s1 k1) [0, 1, 2, 3, 4, 10, 11, 13, 28, 33] fu [(0, x0), (1, x1), (2, x2), (3, x3), (4, x4), (10, x10), (11, x11), (13, x13), (28, x28), (33, x33)] k
noncomputable def kcD_slices_symMergeCmpFunc_int (lf d : Nat) : Ex → Fr → M Value := contAt Tryz.prog (evC lf d) (gtA 271) lf (bodyOf Tryz.prog 271) [false, true, false, true, true, true, false, true, false] (endK Tryz.prog (resOf Tryz.prog 271))
noncomputable def lpE_slices_symMergeCmpFunc_int (lf d fu : Nat) (k : Ex → Fr → M Value) (x0 : Value) (x1 : Value) (x2 : Value) (x3 : Value) (x4 : Value) (x14 : Value) (x15 : Value) (x17 : Value) (x28 : Value) (x80 : Value) (x85 : Value) : M Value := loopK (fun s1 k1 => codeK Tryz.prog (evC lf d) (gtA 271) lf (codeAt (bodyOf Tryz.prog 271) [true, false, true, false, true, true, true, false, true, false, false]) s1 k1) [0, 1, 2, 3, 4, 14, 15, 17, 28, 80, 85] fu [(0, x0), (1, x1), (2, x2), (3, x3), (4, x4), (14, x14), (15, x15), (17, x17), (28, x28), (80, x80), (85, x85)] k
noncomputable def kcE_slices_symMergeCmpFunc_int (lf d : Nat) : Ex → Fr → M Value := contAt Tryz.prog (evC lf d) (gtA 271) lf (bodyOf Tryz.prog 271) [true, false, true, false, true, true, true, false, true, false] (endK Tryz.prog (resOf Tryz.prog 271))
noncomputable def LA_slices_symMergeCmpFunc_int (lf d : Nat) (rec : FuncId → Array Value → M Value) (k : Ex → Fr → M Value) : Nat → Value → Value → Value → Value → Value → Value → Value → Value → M Value
 | 0, _, _, _, _, _, _, _, _ => M.fail
 | fu + 1, x0, x1, x2, x3, x4, x10, x11, x28 =>
 optK (q_lss Tryz.prog 3 x10 x11) fun v33n14 =>
 ifV v33n14 (
 optK (q_add Tryz.prog 3 x10 x11) fun v36n15 =>
 conv3 Tryz.prog 3 144 .i64 .u64 v36n15 fun v37n16 =>
 optK (q_shr Tryz.prog 144 v37n16 (Value.int .u64 1)) fun v38n17 =>
 conv3 Tryz.prog 144 3 .u64 .i64 v38n17 fun v39n18 =>
 optK (evIA3 Tryz.prog 22 1 x0 v39n18) fun v43n19 =>
 insB (evLoad3 Tryz.prog 3 v43n19) fun v44n20 =>
 optK (evIA3 Tryz.prog 22 1 x0 x1) fun v47n21 =>
 insB (evLoad3 Tryz.prog 3 v47n21) fun v48n22 =>
 callV Tryz.prog rec x4 [v44n20, v48n22] fun v49n23 =>
 optK (q_lss Tryz.prog 3 v49n23 (Value.int .i64 0)) fun v50n24 =>
 ifV v50n24 (
 optK (q_add Tryz.prog 3 v39n18 (Value.int .i64 1)) fun v52n25 =>
 LA_slices_symMergeCmpFunc_int lf d rec k fu x0 x1 x2 x3 x4 v52n25 x11 x28) (
 LA_slices_symMergeCmpFunc_int lf d rec k fu x0 x1 x2 x3 x4 x10 v39n18 x28)) (
 k (Ex.exit 0) [(0, x0), (1, x1), (2, x2), (3, x3), (4, x4), (10, x10), (11, x11), (28, x28), (33, v33n14)])
noncomputable def LB_slices_symMergeCmpFunc_int (lf d : Nat) (rec : FuncId → Array Value → M Value) (k : Ex → Fr → M Value) : Nat → Value → Value → Value → Value → Value → Value → Value → Value → Value → M Value
 | 0, _, _, _, _, _, _, _, _, _ => M.fail
 | fu + 1, x0, x1, x2, x3, x4, x14, x15, x28, x80 =>
 optK (q_lss Tryz.prog 3 x14 x15) fun v85n26 =>
 ifV v85n26 (
 optK (q_add Tryz.prog 3 x14 x15) fun v88n27 =>
 conv3 Tryz.prog 3 144 .i64 .u64 v88n27 fun v89n28 =>
 optK (q_shr Tryz.prog 144 v89n28 (Value.int .u64 1)) fun v90n29 =>
 conv3 Tryz.prog 144 3 .u64 .i64 v90n29 fun v91n30 =>
 optK (evIA3 Tryz.prog 22 1 x0 x2) fun v95n31 =>
 insB (evLoad3 Tryz.prog 3 v95n31) fun v96n32 =>
 optK (evIA3 Tryz.prog 22 1 x0 v91n30) fun v99n33 =>
 insB (evLoad3 Tryz.prog 3 v99n33) fun v100n34 =>
 callV Tryz.prog rec x4 [v96n32, v100n34] fun v101n35 =>
 optK (q_lss Tryz.prog 3 v101n35 (Value.int .i64 0)) fun v102n36 =>
 optK (un3 Tryz.prog .not v102n36) fun v103n37 =>
 ifV v103n37 (
 optK (q_add Tryz.prog 3 v91n30 (Value.int .i64 1)) fun v105n38 =>
 LB_slices_symMergeCmpFunc_int lf d rec k fu x0 x1 x2 x3 x4 v105n38 x15 x28 x80) (
 LB_slices_symMergeCmpFunc_int lf d rec k fu x0 x1 x2 x3 x4 x14 v91n30 x28 x80)) (
 k (Ex.exit 4) [(0, x0), (1, x1), (2, x2), (3, x3), (4, x4), (14, x14), (15, x15), (28, x28), (80, x80), (85, v85n26)])
noncomputable def LC_slices_symMergeCmpFunc_int (lf d : Nat) (rec : FuncId → Array Value → M Value) (k : Ex → Fr → M Value) : Nat → Value → Value → Value → Value → Value → Value → Value → Value → Value → Value → Value → Value → Value → M Value
 | 0, _, _, _, _, _, _, _, _, _, _, _, _, _ => M.fail
 | fu + 1, x0, x1, x2, x3, x4, x18, x19, x20, x21, x22, x28, x80, x140 =>
 optK (q_lss Tryz.prog 3 x20 x21) fun v151n39 =>
 ifV v151n39 (
 optK (q_add Tryz.prog 3 x20 x21) fun v154n40 =>
 conv3 Tryz.prog 3 144 .i64 .u64 v154n40 fun v155n41 =>
 optK (q_shr Tryz.prog 144 v155n41 (Value.int .u64 1)) fun v156n42 =>
 conv3 Tryz.prog 144 3 .u64 .i64 v156n42 fun v157n43 =>
 optK (q_sub Tryz.prog 3 x22 v157n43) fun v162n44 =>
 optK (evIA3 Tryz.prog 22 1 x0 v162n44) fun v163n45 =>
 insB (evLoad3 Tryz.prog 3 v163n45) fun v164n46 =>
 optK (evIA3 Tryz.prog 22 1 x0 v157n43) fun v167n47 =>
 insB (evLoad3 Tryz.prog 3 v167n47) fun v168n48 =>
 callV Tryz.prog rec x4 [v164n46, v168n48] fun v169n49 =>
 optK (q_lss Tryz.prog 3 v169n49 (Value.int .i64 0)) fun v170n50 =>
 optK (un3 Tryz.prog .not v170n50) fun v171n51 =>
 ifV v171n51 (
 optK (q_add Tryz.prog 3 v157n43 (Value.int .i64 1)) fun v173n52 =>
 LC_slices_symMergeCmpFunc_int lf d rec k fu x0 x1 x2 x3 x4 x18 x19 v173n52 x21 x22 x28 x80 x140) (
 LC_slices_symMergeCmpFunc_int lf d rec k fu x0 x1 x2 x3 x4 x18 x19 x20 v157n43 x22 x28 x80 x140)) (
 k (Ex.exit 8) [(0, x0), (1, x1), (2, x2), (3, x3), (4, x4), (18, x18), (19, x19), (20, x20), (21, x21), (22, x22), (28, x28), (80, x80), (140, x140), (151, v151n39)])
noncomputable def KC_slices_symMergeCmpFunc_int (lf d : Nat) (rec : FuncId → Array Value → M Value) (dflt : Ex → Fr → M Value) : Ex → Fr → M Value := (kEx 8 (runCur [0, 1, 2, 3, 4, 18, 19, 20, 21, 22, 28, 80, 140, 151] (fun y0 y1 y2 y3 y4 y18 y19 y20 y21 y22 y28 y80 y140 y151 =>
 optK (q_sub Tryz.prog 3 y19 y20) fun v177n53 =>
 optK (q_lss Tryz.prog 3 y20 y2) fun v180n54 =>
 ifV v180n54 (
 optK (q_lss Tryz.prog 3 y2 v177n53) fun v184n55 =>
 ifV v184n55 (
 (inside (rec 278 #[y0, y20, y2, v177n53, y4])).bind fun v191n56 =>
 optK (q_lss Tryz.prog 3 y1 y20) fun v194n57 =>
 ifV v194n57 (
 optK (q_lss Tryz.prog 3 y20 y18) fun v198n58 =>
 ifV v198n58 (
 (inside (rec 271 #[y0, y1, y20, y18, y4])).bind fun v205n59 =>
 optK (q_lss Tryz.prog 3 y18 v177n53) fun v208n60 =>
 ifV v208n60 (
 optK (q_lss Tryz.prog 3 v177n53 y3) fun v212n61 =>
 ifV v212n61 (
 (inside (rec 271 #[y0, y18, v177n53, y3, y4])).bind fun v219n62 =>
 outK []) (
 outK [])) (
 outK [])) (
 optK (q_lss Tryz.prog 3 y18 v177n53) fun v208n63 =>
 ifV v208n63 (
 optK (q_lss Tryz.prog 3 v177n53 y3) fun v212n64 =>
 ifV v212n64 (
 (inside (rec 271 #[y0, y18, v177n53, y3, y4])).bind fun v219n65 =>
 outK []) (
 outK [])) (
 outK []))) (
 optK (q_lss Tryz.prog 3 y18 v177n53) fun v208n66 =>
 ifV v208n66 (
 optK (q_lss Tryz.prog 3 v177n53 y3) fun v212n67 =>
 ifV v212n67 (
 (inside (rec 271 #[y0, y18, v177n53, y3, y4])).bind fun v219n68 =>
 outK []) (
 outK [])) (
 outK []))) (
 optK (q_lss Tryz.prog 3 y1 y20) fun v194n69 =>
 ifV v194n69 (
 optK (q_lss Tryz.prog 3 y20 y18) fun v198n70 =>
 ifV v198n70 (
 (inside (rec 271 #[y0, y1, y20, y18, y4])).bind fun v205n71 =>
 optK (q_lss Tryz.prog 3 y18 v177n53) fun v208n72 =>
 ifV v208n72 (
 optK (q_lss Tryz.prog 3 v177n53 y3) fun v212n73 =>
 ifV v212n73 (
 (inside (rec 271 #[y0, y18, v177n53, y3, y4])).bind fun v219n74 =>
 outK []) (
 outK [])) (
 outK [])) (
 optK (q_lss Tryz.prog 3 y18 v177n53) fun v208n75 =>
 ifV v208n75 (
 optK (q_lss Tryz.prog 3 v177n53 y3) fun v212n76 =>
 ifV v212n76 (
 (inside (rec 271 #[y0, y18, v177n53, y3, y4])).bind fun v219n77 =>
 outK []) (
 outK [])) (
 outK []))) (
 optK (q_lss Tryz.prog 3 y18 v177n53) fun v208n78 =>
 ifV v208n78 (
 optK (q_lss Tryz.prog 3 v177n53 y3) fun v212n79 =>
 ifV v212n79 (
 (inside (rec 271 #[y0, y18, v177n53, y3, y4])).bind fun v219n80 =>
 outK []) (
 outK [])) (
 outK [])))) (
 optK (q_lss Tryz.prog 3 y1 y20) fun v194n81 =>
 ifV v194n81 (
 optK (q_lss Tryz.prog 3 y20 y18) fun v198n82 =>
 ifV v198n82 (
 (inside (rec 271 #[y0, y1, y20, y18, y4])).bind fun v205n83 =>
 optK (q_lss Tryz.prog 3 y18 v177n53) fun v208n84 =>
 ifV v208n84 (
 optK (q_lss Tryz.prog 3 v177n53 y3) fun v212n85 =>
 ifV v212n85 (
 (inside (rec 271 #[y0, y18, v177n53, y3, y4])).bind fun v219n86 =>
 outK []) (
 outK [])) (
 outK [])) (
 optK (q_lss Tryz.prog 3 y18 v177n53) fun v208n87 =>
 ifV v208n87 (
 optK (q_lss Tryz.prog 3 v177n53 y3) fun v212n88 =>
 ifV v212n88 (
 (inside (rec 271 #[y0, y18, v177n53, y3, y4])).bind fun v219n89 =>
 outK []) (
 outK [])) (
 outK []))) (
 optK (q_lss Tryz.prog 3 y18 v177n53) fun v208n90 =>
 ifV v208n90 (
 optK (q_lss Tryz.prog 3 v177n53 y3) fun v212n91 =>
 ifV v212n91 (
 (inside (rec 271 #[y0, y18, v177n53, y3, y4])).bind fun v219n92 =>
 outK []) (
 outK [])) (
 outK [])))) (dflt (Ex.exit 8))) dflt)
noncomputable def LD_slices_symMergeCmpFunc_int (lf d : Nat) (rec : FuncId → Array Value → M Value) (k : Ex → Fr → M Value) : Nat → Value → Value → Value → Value → Value → Value → Value → Value → Value → Value → M Value
 | 0, _, _, _, _, _, _, _, _, _, _ => M.fail
 | fu + 1, x0, x1, x2, x3, x4, x10, x11, x13, x28, x33 =>
 optK (q_sub Tryz.prog 3 x10 (Value.int .i64 1)) fun v57n93 =>
 optK (q_lss Tryz.prog 3 x13 v57n93) fun v58n94 =>
 ifV v58n94 (
 optK (q_add Tryz.prog 3 x13 (Value.int .i64 1)) fun v65n95 =>
 optK (q_add Tryz.prog 3 x13 (Value.int .i64 1)) fun v68n96 =>
 optK (evIA3 Tryz.prog 22 1 x0 v68n96) fun v69n97 =>
 insB (evLoad3 Tryz.prog 3 v69n97) fun v70n98 =>
 optK (evIA3 Tryz.prog 22 1 x0 x13) fun v73n99 =>
 insB (evLoad3 Tryz.prog 3 v73n99) fun v74n100 =>
 optK (evIA3 Tryz.prog 22 1 x0 x13) fun v75n101 =>
 insB (evStore3 Tryz.prog 3 v75n101 v70n98) fun u102 =>
 optK (evIA3 Tryz.prog 22 1 x0 v65n95) fun v76n103 =>
 insB (evStore3 Tryz.prog 3 v76n103 v74n100) fun u104 =>
 optK (q_add Tryz.prog 3 x13 (Value.int .i64 1)) fun v60n105 =>
 LD_slices_symMergeCmpFunc_int lf d rec k fu x0 x1 x2 x3 x4 x10 x11 v60n105 x28 x33) (
 k (Ex.exit 2) [(0, x0), (1, x1), (2, x2), (3, x3), (4, x4), (10, x10), (11, x11), (13, x13), (28, x28), (33, x33), (58, v58n94)])
noncomputable def KD_slices_symMergeCmpFunc_int (lf d : Nat) (rec : FuncId → Array Value → M Value) (dflt : Ex → Fr → M Value) : Ex → Fr → M Value := (kEx 2 (runCur [0, 1, 2, 3, 4, 10, 11, 13, 28, 33, 58] (fun y0 y1 y2 y3 y4 y10 y11 y13 y28 y33 y58 =>
 outK []) (dflt (Ex.exit 2))) dflt)
noncomputable def LE_slices_symMergeCmpFunc_int (lf d : Nat) (rec : FuncId → Array Value → M Value) (k : Ex → Fr → M Value) : Nat → Value → Value → Value → Value → Value → Value → Value → Value → Value → Value → Value → M Value
 | 0, _, _, _, _, _, _, _, _, _, _, _ => M.fail
 | fu + 1, x0, x1, x2, x3, x4, x14, x15, x17, x28, x80, x85 =>
 optK (q_gtr Tryz.prog 3 x17 x14) fun v110n106 =>
 ifV v110n106 (
 optK (q_sub Tryz.prog 3 x17 (Value.int .i64 1)) fun v117n107 =>
 optK (q_sub Tryz.prog 3 x17 (Value.int .i64 1)) fun v120n108 =>
 optK (evIA3 Tryz.prog 22 1 x0 v120n108) fun v121n109 =>
 insB (evLoad3 Tryz.prog 3 v121n109) fun v122n110 =>
 optK (evIA3 Tryz.prog 22 1 x0 x17) fun v125n111 =>
 insB (evLoad3 Tryz.prog 3 v125n111) fun v126n112 =>
 optK (evIA3 Tryz.prog 22 1 x0 x17) fun v127n113 =>
 insB (evStore3 Tryz.prog 3 v127n113 v122n110) fun u114 =>
 optK (evIA3 Tryz.prog 22 1 x0 v117n107) fun v128n115 =>
 insB (evStore3 Tryz.prog 3 v128n115 v126n112) fun u116 =>
 optK (q_sub Tryz.prog 3 x17 (Value.int .i64 1)) fun v112n117 =>
 LE_slices_symMergeCmpFunc_int lf d rec k fu x0 x1 x2 x3 x4 x14 x15 v112n117 x28 x80 x85) (
 k (Ex.exit 6) [(0, x0), (1, x1), (2, x2), (3, x3), (4, x4), (14, x14), (15, x15), (17, x17), (28, x28), (80, x80), (85, x85), (110, v110n106)])
noncomputable def KE_slices_symMergeCmpFunc_int (lf d : Nat) (rec : FuncId → Array Value → M Value) (dflt : Ex → Fr → M Value) : Ex → Fr → M Value := (kEx 6 (runCur [0, 1, 2, 3, 4, 14, 15, 17, 28, 80, 85, 110] (fun y0 y1 y2 y3 y4 y14 y15 y17 y28 y80 y85 y110 =>
 outK []) (dflt (Ex.exit 6))) dflt)
noncomputable def KA_slices_symMergeCmpFunc_int (lf d : Nat) (rec : FuncId → Array Value → M Value) (dflt : Ex → Fr → M Value) : Ex → Fr → M Value := (kEx 0 (runCur [0, 1, 2, 3, 4, 10, 11, 28, 33] (fun y0 y1 y2 y3 y4 y10 y11 y28 y33 =>
 LD_slices_symMergeCmpFunc_int lf d rec (KD_slices_symMergeCmpFunc_int lf d rec (kcD_slices_symMergeCmpFunc_int lf d)) lf y0 y1 y2 y3 y4 y10 y11 y1 y28 y33) (dflt (Ex.exit 0))) dflt)
noncomputable def KB_slices_symMergeCmpFunc_int (lf d : Nat) (rec : FuncId → Array Value → M Value) (dflt : Ex → Fr → M Value) : Ex → Fr → M Value := (kEx 4 (runCur [0, 1, 2, 3, 4, 14, 15, 28, 80, 85] (fun y0 y1 y2 y3 y4 y14 y15 y28 y80 y85 =>
 LE_slices_symMergeCmpFunc_int lf d rec (KE_slices_symMergeCmpFunc_int lf d rec (kcE_slices_symMergeCmpFunc_int lf d)) lf y0 y1 y2 y3 y4 y14 y15 y2 y28 y80 y85) (dflt (Ex.exit 4))) dflt)
noncomputable def F_slices_symMergeCmpFunc_int (lf d : Nat) (rec : FuncId → Array Value → M Value) (a0 : Value) (a1 : Value) (a2 : Value) (a3 : Value) (a4 : Value) : M Value :=
 optK (q_sub Tryz.prog 3 a2 a1) fun v27n1 =>
 optK (q_eql Tryz.prog 3 v27n1 (Value.int .i64 1)) fun v28n2 =>
 ifV v28n2 (
 LA_slices_symMergeCmpFunc_int lf d rec (KA_slices_symMergeCmpFunc_int lf d rec (kcA_slices_symMergeCmpFunc_int lf d)) lf a0 a1 a2 a3 a4 a2 a3 v28n2) (
 optK (q_sub Tryz.prog 3 a3 a2) fun v79n3 =>
 optK (q_eql Tryz.prog 3 v79n3 (Value.int .i64 1)) fun v80n4 =>
 ifV v80n4 (
 LB_slices_symMergeCmpFunc_int lf d rec (KB_slices_symMergeCmpFunc_int lf d rec (kcB_slices_symMergeCmpFunc_int lf d)) lf a0 a1 a2 a3 a4 a1 a2 v28n2 v80n4) (
 optK (q_add Tryz.prog 3 a1 a3) fun v131n5 =>
 conv3 Tryz.prog 3 144 .i64 .u64 v131n5 fun v132n6 =>
 optK (q_shr Tryz.prog 144 v132n6 (Value.int .u64 1)) fun v133n7 =>
 conv3 Tryz.prog 144 3 .u64 .i64 v133n7 fun v134n8 =>
 optK (q_add Tryz.prog 3 v134n8 a2) fun v137n9 =>
 optK (q_gtr Tryz.prog 3 a2 v134n8) fun v140n10 =>
 ifV v140n10 (
 optK (q_sub Tryz.prog 3 v137n9 a3) fun v143n11 =>
 optK (q_sub Tryz.prog 3 v137n9 (Value.int .i64 1)) fun v148n12 =>
 LC_slices_symMergeCmpFunc_int lf d rec (KC_slices_symMergeCmpFunc_int lf d rec (kcC_slices_symMergeCmpFunc_int lf d)) lf a0 a1 a2 a3 a4 v134n8 v137n9 v143n11 v134n8 v148n12 v28n2 v80n4 v140n10) (
 optK (q_sub Tryz.prog 3 v137n9 (Value.int .i64 1)) fun v148n13 =>
 LC_slices_symMergeCmpFunc_int lf d rec (KC_slices_symMergeCmpFunc_int lf d rec (kcC_slices_symMergeCmpFunc_int lf d)) lf a0 a1 a2 a3 a4 v134n8 v137n9 a1 a2 v148n13 v28n2 v80n4 v140n10)))
theorem LQA_slices_symMergeCmpFunc_int (lf d : Nat) (k : Ex → Fr → M Value) : ∀ fu : Nat, LA_slices_symMergeCmpFunc_int lf d (evC lf d) k fu = lpA_slices_symMergeCmpFunc_int lf d fu k
  | 0 => by funext x0 x1 x2 x3 x4 x10 x11 x28; kernel_rfl
  | fu + 1 => by
    have ih := LQA_slices_symMergeCmpFunc_int lf d k fu
    funext x0 x1 x2 x3 x4 x10 x11 x28; simp only [LA_slices_symMergeCmpFunc_int, ih, clash3_eq, conv3_eq cw144x3, conv3_eq cw3x144, evIA3_eq (P := Tryz.prog) Tryz.underlying22 gs3, evLoad3_eq (P := Tryz.prog) ga3, insB_eq, q_add_eq (P := Tryz.prog) nf3, q_lss_eq (P := Tryz.prog) nf3, q_shr_eq (P := Tryz.prog) nf144]; kernel_rfl
theorem LQB_slices_symMergeCmpFunc_int (lf d : Nat) (k : Ex → Fr → M Value) : ∀ fu : Nat, LB_slices_symMergeCmpFunc_int lf d (evC lf d) k fu = lpB_slices_symMergeCmpFunc_int lf d fu k
  | 0 => by funext x0 x1 x2 x3 x4 x14 x15 x28 x80; kernel_rfl
  | fu + 1 => by
    have ih := LQB_slices_symMergeCmpFunc_int lf d k fu
    funext x0 x1 x2 x3 x4 x14 x15 x28 x80; simp only [LB_slices_symMergeCmpFunc_int, ih, clash3_eq, conv3_eq cw144x3, conv3_eq cw3x144, evIA3_eq (P := Tryz.prog) Tryz.underlying22 gs3, evLoad3_eq (P := Tryz.prog) ga3, insB_eq, q_add_eq (P := Tryz.prog) nf3, q_lss_eq (P := Tryz.prog) nf3, q_shr_eq (P := Tryz.prog) nf144, un3_eq]; kernel_rfl
theorem LQC_slices_symMergeCmpFunc_int (lf d : Nat) (k : Ex → Fr → M Value) : ∀ fu : Nat, LC_slices_symMergeCmpFunc_int lf d (evC lf d) k fu = lpC_slices_symMergeCmpFunc_int lf d fu k
  | 0 => by funext x0 x1 x2 x3 x4 x18 x19 x20 x21 x22 x28 x80 x140; kernel_rfl
  | fu + 1 => by
    have ih := LQC_slices_symMergeCmpFunc_int lf d k fu
    funext x0 x1 x2 x3 x4 x18 x19 x20 x21 x22 x28 x80 x140; simp only [LC_slices_symMergeCmpFunc_int, ih, clash3_eq, conv3_eq cw144x3, conv3_eq cw3x144, evIA3_eq (P := Tryz.prog) Tryz.underlying22 gs3, evLoad3_eq (P := Tryz.prog) ga3, insB_eq, q_add_eq (P := Tryz.prog) nf3, q_lss_eq (P := Tryz.prog) nf3, q_shr_eq (P := Tryz.prog) nf144, q_sub_eq (P := Tryz.prog) nf3, un3_eq]; kernel_rfl
set_option maxRecDepth 20000 in
theorem KQC_slices_symMergeCmpFunc_int (lf d : Nat) : KC_slices_symMergeCmpFunc_int lf d (evC lf d) (kcC_slices_symMergeCmpFunc_int lf d) = kcC_slices_symMergeCmpFunc_int lf d := by
  unfold KC_slices_symMergeCmpFunc_int
  refine Eq.trans (kEx_eq ?_) ?_
  · exact (runCur_eq _ _ _ (by intro y0 y1 y2 y3 y4 y18 y19 y20 y21 y22 y28 y80 y140 y151; show _ = _; (try simp only [clash3_eq, insB_eq, q_lss_eq (P := Tryz.prog) nf3, q_sub_eq (P := Tryz.prog) nf3]); kernel_rfl))
  rfl
theorem LQD_slices_symMergeCmpFunc_int (lf d : Nat) (k : Ex → Fr → M Value) : ∀ fu : Nat, LD_slices_symMergeCmpFunc_int lf d (evC lf d) k fu = lpD_slices_symMergeCmpFunc_int lf d fu k
  | 0 => by funext x0 x1 x2 x3 x4 x10 x11 x13 x28 x33; kernel_rfl
  | fu + 1 => by
    have ih := LQD_slices_symMergeCmpFunc_int lf d k fu
    funext x0 x1 x2 x3 x4 x10 x11 x13 x28 x33; simp only [LD_slices_symMergeCmpFunc_int, ih, clash3_eq, evIA3_eq (P := Tryz.prog) Tryz.underlying22 gs3, evLoad3_eq (P := Tryz.prog) ga3, evStore3_eq (P := Tryz.prog) gs3, insB_eq, q_add_eq (P := Tryz.prog) nf3, q_lss_eq (P := Tryz.prog) nf3, q_sub_eq (P := Tryz.prog) nf3]; kernel_rfl
set_option maxRecDepth 20000 in
theorem KQD_slices_symMergeCmpFunc_int (lf d : Nat) : KD_slices_symMergeCmpFunc_int lf d (evC lf d) (kcD_slices_symMergeCmpFunc_int lf d) = kcD_slices_symMergeCmpFunc_int lf d := by
  unfold KD_slices_symMergeCmpFunc_int
  refine Eq.trans (kEx_eq ?_) ?_
  · exact (runCur_eq _ _ _ (by intro y0 y1 y2 y3 y4 y10 y11 y13 y28 y33 y58; show _ = _; (try simp only [clash3_eq, insB_eq]); kernel_rfl))
  rfl
theorem LQE_slices_symMergeCmpFunc_int (lf d : Nat) (k : Ex → Fr → M Value) : ∀ fu : Nat, LE_slices_symMergeCmpFunc_int lf d (evC lf d) k fu = lpE_slices_symMergeCmpFunc_int lf d fu k
  | 0 => by funext x0 x1 x2 x3 x4 x14 x15 x17 x28 x80 x85; kernel_rfl
  | fu + 1 => by
    have ih := LQE_slices_symMergeCmpFunc_int lf d k fu
    funext x0 x1 x2 x3 x4 x14 x15 x17 x28 x80 x85; simp only [LE_slices_symMergeCmpFunc_int, ih, clash3_eq, evIA3_eq (P := Tryz.prog) Tryz.underlying22 gs3, evLoad3_eq (P := Tryz.prog) ga3, evStore3_eq (P := Tryz.prog) gs3, insB_eq, q_gtr_eq (P := Tryz.prog) nf3, q_sub_eq (P := Tryz.prog) nf3]; kernel_rfl
set_option maxRecDepth 20000 in
theorem KQE_slices_symMergeCmpFunc_int (lf d : Nat) : KE_slices_symMergeCmpFunc_int lf d (evC lf d) (kcE_slices_symMergeCmpFunc_int lf d) = kcE_slices_symMergeCmpFunc_int lf d := by
  unfold KE_slices_symMergeCmpFunc_int
  refine Eq.trans (kEx_eq ?_) ?_
  · exact (runCur_eq _ _ _ (by intro y0 y1 y2 y3 y4 y14 y15 y17 y28 y80 y85 y110; show _ = _; (try simp only [clash3_eq, insB_eq]); kernel_rfl))
  rfl
set_option maxRecDepth 20000 in
theorem KQA_slices_symMergeCmpFunc_int (lf d : Nat) : KA_slices_symMergeCmpFunc_int lf d (evC lf d) (kcA_slices_symMergeCmpFunc_int lf d) = kcA_slices_symMergeCmpFunc_int lf d := by
  unfold KA_slices_symMergeCmpFunc_int
  refine Eq.trans (kEx_eq ?_) ?_
  · exact (runCur_eq _ _ _ (by intro y0 y1 y2 y3 y4 y10 y11 y28 y33; show _ = _; (try simp only [KQD_slices_symMergeCmpFunc_int lf d, LQD_slices_symMergeCmpFunc_int, clash3_eq, insB_eq]); kernel_rfl))
  rfl
set_option maxRecDepth 20000 in
theorem KQB_slices_symMergeCmpFunc_int (lf d : Nat) : KB_slices_symMergeCmpFunc_int lf d (evC lf d) (kcB_slices_symMergeCmpFunc_int lf d) = kcB_slices_symMergeCmpFunc_int lf d := by
  unfold KB_slices_symMergeCmpFunc_int
  refine Eq.trans (kEx_eq ?_) ?_
  · exact (runCur_eq _ _ _ (by intro y0 y1 y2 y3 y4 y14 y15 y28 y80 y85; show _ = _; (try simp only [KQE_slices_symMergeCmpFunc_int lf d, LQE_slices_symMergeCmpFunc_int, clash3_eq, insB_eq]); kernel_rfl))
  rfl
theorem fsh_slices_symMergeCmpFunc_int (lf d : Nat) (a0 : Value) (a1 : Value) (a2 : Value) (a3 : Value) (a4 : Value) : inside (F_slices_symMergeCmpFunc_int lf d (evC lf d) a0 a1 a2 a3 a4) = evC lf (d + 1) 271 #[a0, a1, a2, a3, a4] := by
  unfold F_slices_symMergeCmpFunc_int; (try simp only [KQA_slices_symMergeCmpFunc_int lf d, LQA_slices_symMergeCmpFunc_int, KQB_slices_symMergeCmpFunc_int lf d, LQB_slices_symMergeCmpFunc_int, KQC_slices_symMergeCmpFunc_int lf d, LQC_slices_symMergeCmpFunc_int, clash3_eq, conv3_eq cw144x3, conv3_eq cw3x144, insB_eq, q_add_eq (P := Tryz.prog) nf3, q_eql_eq (P := Tryz.prog) nf3, q_gtr_eq (P := Tryz.prog) nf3, q_shr_eq (P := Tryz.prog) nf144, q_sub_eq (P := Tryz.prog) nf3]); kernel_rfl

/- internal_stringslite_HasPrefix -/
noncomputable def F_internal_stringslite_HasPrefix (lf d : Nat) (rec : FuncId → Array Value → M Value) (a0 : Value) (a1 : Value) : M Value :=
 optK (len2 Tryz.prog #[9] [a0]) fun v6n1 =>
 optK (len2 Tryz.prog #[9] [a1]) fun v8n2 =>
 optK (q_geq Tryz.prog 3 v6n1 v8n2) fun v9n3 =>
 ifV v9n3 (
 optK (len2 Tryz.prog #[9] [a1]) fun v13n4 =>
 slice3 Tryz.prog 9 a0 none (some v13n4) none fun v14n5 =>
 optK (qS_eql Tryz.prog 9 v14n5 a1) fun v16n6 =>
 outK [v16n6]) (
 outK [(Value.bool false)])
theorem fsh_internal_stringslite_HasPrefix (lf d : Nat) (a0 : Value) (a1 : Value) : inside (F_internal_stringslite_HasPrefix lf d (evC lf d) a0 a1) = evC lf (d + 1) 275 #[a0, a1] := by
  unfold F_internal_stringslite_HasPrefix; (try simp only [clash3_eq, insB_eq, qS_eql_eq (P := Tryz.prog) nf9, q_geq_eq (P := Tryz.prog) nf3, slice3_eq (P := Tryz.prog) Tryz.underlying9]); kernel_rfl

/- slices_rotateCmpFunc_int -/
noncomputable def lpA_slices_rotateCmpFunc_int (lf d fu : Nat) (k : Ex → Fr → M Value) (x0 : Value) (x1 : Value) (x2 : Value) (x3 : Value) (x4 : Value) (x10 : Value) (x11 : Value) : M Value := loopK (fun s1 k1 => codeK Tryz.prog (evC lf d) (gtA 278) lf (codeAt (bodyOf Tryz.prog 278) [true, true, false, false, false]) s1 k1) [0, 1, 2, 3, 4, 10, 11] fu [(0, x0), (1, x1), (2, x2), (3, x3), (4, x4), (10, x10), (11, x11)] k
noncomputable def kcA_slices_rotateCmpFunc_int (lf d : Nat) : Ex → Fr → M Value := contAt Tryz.prog (evC lf d) (gtA 278) lf (bodyOf Tryz.prog 278) [true, true, false, false] (endK Tryz.prog (resOf Tryz.prog 278))
noncomputable def LA_slices_rotateCmpFunc_int (lf d : Nat) (rec : FuncId → Array Value → M Value) (k : Ex → Fr → M Value) : Nat → Value → Value → Value → Value → Value → Value → Value → M Value
 | 0, _, _, _, _, _, _, _ => M.fail
 | fu + 1, x0, x1, x2, x3, x4, x10, x11 =>
 optK (q_neq Tryz.prog 3 x10 x11) fun v20n3 =>
 ifV v20n3 (
 optK (q_gtr Tryz.prog 3 x10 x11) fun v23n4 =>
 ifV v23n4 (
 optK (q_sub Tryz.prog 3 x2 x10) fun v27n5 =>
 (inside (rec 281 #[x0, v27n5, x2, x11, x4])).bind fun v31n6 =>
 optK (q_sub Tryz.prog 3 x10 x11) fun v34n7 =>
 LA_slices_rotateCmpFunc_int lf d rec k fu x0 x1 x2 x3 x4 v34n7 x11) (
 optK (q_sub Tryz.prog 3 x2 x10) fun v38n8 =>
 optK (q_add Tryz.prog 3 x2 x11) fun v41n9 =>
 optK (q_sub Tryz.prog 3 v41n9 x10) fun v43n10 =>
 (inside (rec 281 #[x0, v38n8, v43n10, x10, x4])).bind fun v46n11 =>
 optK (q_sub Tryz.prog 3 x11 x10) fun v49n12 =>
 LA_slices_rotateCmpFunc_int lf d rec k fu x0 x1 x2 x3 x4 x10 v49n12)) (
 k (Ex.exit 0) [(0, x0), (1, x1), (2, x2), (3, x3), (4, x4), (10, x10), (11, x11), (20, v20n3)])
noncomputable def KA_slices_rotateCmpFunc_int (lf d : Nat) (rec : FuncId → Array Value → M Value) (dflt : Ex → Fr → M Value) : Ex → Fr → M Value := (kEx 0 (runCur [0, 1, 2, 3, 4, 10, 11, 20] (fun y0 y1 y2 y3 y4 y10 y11 y20 =>
 optK (q_sub Tryz.prog 3 y2 y10) fun v53n13 =>
 (inside (rec 281 #[y0, v53n13, y2, y10, y4])).bind fun v57n14 =>
 outK []) (dflt (Ex.exit 0))) dflt)
noncomputable def F_slices_rotateCmpFunc_int (lf d : Nat) (rec : FuncId → Array Value → M Value) (a0 : Value) (a1 : Value) (a2 : Value) (a3 : Value) (a4 : Value) : M Value :=
 optK (q_sub Tryz.prog 3 a2 a1) fun v14n1 =>
 optK (q_sub Tryz.prog 3 a3 a2) fun v17n2 =>
 LA_slices_rotateCmpFunc_int lf d rec (KA_slices_rotateCmpFunc_int lf d rec (kcA_slices_rotateCmpFunc_int lf d)) lf a0 a1 a2 a3 a4 v14n1 v17n2
theorem LQA_slices_rotateCmpFunc_int (lf d : Nat) (k : Ex → Fr → M Value) : ∀ fu : Nat, LA_slices_rotateCmpFunc_int lf d (evC lf d) k fu = lpA_slices_rotateCmpFunc_int lf d fu k
  | 0 => by funext x0 x1 x2 x3 x4 x10 x11; kernel_rfl
  | fu + 1 => by
    have ih := LQA_slices_rotateCmpFunc_int lf d k fu
    funext x0 x1 x2 x3 x4 x10 x11; simp only [LA_slices_rotateCmpFunc_int, ih, clash3_eq, insB_eq, q_add_eq (P := Tryz.prog) nf3, q_gtr_eq (P := Tryz.prog) nf3, q_neq_eq (P := Tryz.prog) nf3, q_sub_eq (P := Tryz.prog) nf3]; kernel_rfl
set_option maxRecDepth 20000 in
theorem KQA_slices_rotateCmpFunc_int (lf d : Nat) : KA_slices_rotateCmpFunc_int lf d (evC lf d) (kcA_slices_rotateCmpFunc_int lf d) = kcA_slices_rotateCmpFunc_int lf d := by
  unfold KA_slices_rotateCmpFunc_int
  refine Eq.trans (kEx_eq ?_) ?_
  · exact (runCur_eq _ _ _ (by intro y0 y1 y2 y3 y4 y10 y11 y20; show _ = _; (try simp only [clash3_eq, insB_eq, q_sub_eq (P := Tryz.prog) nf3]); kernel_rfl))
  rfl
theorem fsh_slices_rotateCmpFunc_int (lf d : Nat) (a0 : Value) (a1 : Value) (a2 : Value) (a3 : Value) (a4 : Value) : inside (F_slices_rotateCmpFunc_int lf d (evC lf d) a0 a1 a2 a3 a4) = evC lf (d + 1) 278 #[a0, a1, a2, a3, a4] := by
  unfold F_slices_rotateCmpFunc_int; (try simp only [KQA_slices_rotateCmpFunc_int lf d, LQA_slices_rotateCmpFunc_int, clash3_eq, insB_eq, q_sub_eq (P := Tryz.prog) nf3]); kernel_rfl

/- slices_swapRangeCmpFunc_int -/
noncomputable def lpA_slices_swapRangeCmpFunc_int (lf d fu : Nat) (k : Ex → Fr → M Value) (x0 : Value) (x1 : Value) (x2 : Value) (x3 : Value) (x10 : Value) : M Value := loopK (fun s1 k1 => codeK Tryz.prog (evC lf d) (gtA 281) lf (codeAt (bodyOf Tryz.prog 281) [true, false, false]) s1 k1) [0, 1, 2, 3, 10] fu [(0, x0), (1, x1), (2, x2), (3, x3), (10, x10)] k
noncomputable def kcA_slices_swapRangeCmpFunc_int (lf d : Nat) : Ex → Fr → M Value := contAt Tryz.prog (evC lf d) (gtA 281) lf (bodyOf Tryz.prog 281) [true, false] (endK Tryz.prog (resOf Tryz.prog 281))
noncomputable def LA_slices_swapRangeCmpFunc_int (lf d : Nat) (rec : FuncId → Array Value → M Value) (k : Ex → Fr → M Value) : Nat → Value → Value → Value → Value → Value → M Value
 | 0, _, _, _, _, _ => M.fail
 | fu + 1, x0, x1, x2, x3, x10 =>
 optK (q_lss Tryz.prog 3 x10 x3) fun v13n1 =>
 ifV v13n1 (
 optK (q_add Tryz.prog 3 x1 x10) fun v19n2 =>
 optK (q_add Tryz.prog 3 x2 x10) fun v23n3 =>
 optK (q_add Tryz.prog 3 x2 x10) fun v27n4 =>
 optK (evIA3 Tryz.prog 22 1 x0 v27n4) fun v28n5 =>
 insB (evLoad3 Tryz.prog 3 v28n5) fun v29n6 =>
 optK (q_add Tryz.prog 3 x1 x10) fun v33n7 =>
 optK (evIA3 Tryz.prog 22 1 x0 v33n7) fun v34n8 =>
 insB (evLoad3 Tryz.prog 3 v34n8) fun v35n9 =>
 optK (evIA3 Tryz.prog 22 1 x0 v19n2) fun v36n10 =>
 insB (evStore3 Tryz.prog 3 v36n10 v29n6) fun u11 =>
 optK (evIA3 Tryz.prog 22 1 x0 v23n3) fun v37n12 =>
 insB (evStore3 Tryz.prog 3 v37n12 v35n9) fun u13 =>
 optK (q_add Tryz.prog 3 x10 (Value.int .i64 1)) fun v15n14 =>
 LA_slices_swapRangeCmpFunc_int lf d rec k fu x0 x1 x2 x3 v15n14) (
 k (Ex.exit 0) [(0, x0), (1, x1), (2, x2), (3, x3), (10, x10), (13, v13n1)])
noncomputable def KA_slices_swapRangeCmpFunc_int (lf d : Nat) (rec : FuncId → Array Value → M Value) (dflt : Ex → Fr → M Value) : Ex → Fr → M Value := (kEx 0 (runCur [0, 1, 2, 3, 10, 13] (fun y0 y1 y2 y3 y10 y13 =>
 outK []) (dflt (Ex.exit 0))) dflt)
noncomputable def F_slices_swapRangeCmpFunc_int (lf d : Nat) (rec : FuncId → Array Value → M Value) (a0 : Value) (a1 : Value) (a2 : Value) (a3 : Value) (a4 : Value) : M Value :=
 LA_slices_swapRangeCmpFunc_int lf d rec (KA_slices_swapRangeCmpFunc_int lf d rec (kcA_slices_swapRangeCmpFunc_int lf d)) lf a0 a1 a2 a3 (Value.int .i64 0)
theorem LQA_slices_swapRangeCmpFunc_int (lf d : Nat) (k : Ex → Fr → M Value) : ∀ fu : Nat, LA_slices_swapRangeCmpFunc_int lf d (evC lf d) k fu = lpA_slices_swapRangeCmpFunc_int lf d fu k
  | 0 => by funext x0 x1 x2 x3 x10; kernel_rfl
  | fu + 1 => by
    have ih := LQA_slices_swapRangeCmpFunc_int lf d k fu
    funext x0 x1 x2 x3 x10; simp only [LA_slices_swapRangeCmpFunc_int, ih, clash3_eq, evIA3_eq (P := Tryz.prog) Tryz.underlying22 gs3, evLoad3_eq (P := Tryz.prog) ga3, evStore3_eq (P := Tryz.prog) gs3, insB_eq, q_add_eq (P := Tryz.prog) nf3, q_lss_eq (P := Tryz.prog) nf3]; kernel_rfl
set_option maxRecDepth 20000 in
theorem KQA_slices_swapRangeCmpFunc_int (lf d : Nat) : KA_slices_swapRangeCmpFunc_int lf d (evC lf d) (kcA_slices_swapRangeCmpFunc_int lf d) = kcA_slices_swapRangeCmpFunc_int lf d := by
  unfold KA_slices_swapRangeCmpFunc_int
  refine Eq.trans (kEx_eq ?_) ?_
  · exact (runCur_eq _ _ _ (by intro y0 y1 y2 y3 y10 y13; show _ = _; (try simp only [clash3_eq, insB_eq]); kernel_rfl))
  rfl
theorem fsh_slices_swapRangeCmpFunc_int (lf d : Nat) (a0 : Value) (a1 : Value) (a2 : Value) (a3 : Value) (a4 : Value) : inside (F_slices_swapRangeCmpFunc_int lf d (evC lf d) a0 a1 a2 a3 a4) = evC lf (d + 1) 281 #[a0, a1, a2, a3, a4] := by
  unfold F_slices_swapRangeCmpFunc_int; (try simp only [KQA_slices_swapRangeCmpFunc_int lf d, LQA_slices_swapRangeCmpFunc_int, clash3_eq, insB_eq]); kernel_rfl

noncomputable def fTab (lf : Nat) : Tab := [
 (8, fun d rec => runAr 1 (fun a0 => inside (F_code_NewReader lf d rec a0)) (fun l => evC lf (d + 1) 8 l.toArray)),
 (9, fun d rec => runAr 3 (fun a0 a1 a2 => inside (F_code_Read lf d rec a0 a1 a2)) (fun l => evC lf (d + 1) 9 l.toArray)),
 (10, fun d rec => runAr 2 (fun a0 a1 => inside (F_code_Reader_Step lf d rec a0 a1)) (fun l => evC lf (d + 1) 10 l.toArray)),
 (11, fun d rec => runAr 1 (fun a0 => inside (F_bits_NewReader lf d rec a0)) (fun l => evC lf (d + 1) 11 l.toArray)),
 (12, fun d rec => runAr 3 (fun a0 a1 a2 => inside (F_code_Write lf d rec a0 a1 a2)) (fun l => evC lf (d + 1) 12 l.toArray)),
 (16, fun d rec => runAr 0 (inside (F_balerlaw14_two lf d rec)) (fun l => evC lf (d + 1) 16 l.toArray)),
 (17, fun d rec => runAr 0 (inside (F_balerlaw21_none lf d rec)) (fun l => evC lf (d + 1) 17 l.toArray)),
 (18, fun d rec => runAr 3 (fun a0 a1 a2 => inside (F_stream_Writer_Block lf d rec a0 a1 a2)) (fun l => evC lf (d + 1) 18 l.toArray)),
 (19, fun d rec => runAr 4 (fun a0 a1 a2 a3 => inside (F_stream_Writer_Turned lf d rec a0 a1 a2 a3)) (fun l => evC lf (d + 1) 19 l.toArray)),
 (20, fun d rec => runAr 1 (fun a0 => inside (F_stream_Writer_End lf d rec a0)) (fun l => evC lf (d + 1) 20 l.toArray)),
 (21, fun d rec => runAr 1 (fun a0 => inside (F_stream_Writer_Take lf d rec a0)) (fun l => evC lf (d + 1) 21 l.toArray)),
 (37, fun d rec => runAr 1 (fun a0 => inside (F_delta_NewReader lf d rec a0)) (fun l => evC lf (d + 1) 37 l.toArray)),
 (38, fun d rec => runAr 0 (inside (F_picks_NewReader lf d rec)) (fun l => evC lf (d + 1) 38 l.toArray)),
 (39, fun d rec => runAr 1 (fun a0 => inside (F_bits_Reader_At lf d rec a0)) (fun l => evC lf (d + 1) 39 l.toArray)),
 (40, fun d rec => runAr 3 (fun a0 a1 a2 => inside (F_code_Reader_rest lf d rec a0 a1 a2)) (fun l => evC lf (d + 1) 40 l.toArray)),
 (41, fun d rec => runAr 2 (fun a0 a1 => inside (F_bits_Reader_Seek lf d rec a0 a1)) (fun l => evC lf (d + 1) 41 l.toArray)),
 (42, fun d rec => runAr 2 (fun a0 a1 => inside (F_code_Reader_symbol lf d rec a0 a1)) (fun l => evC lf (d + 1) 42 l.toArray)),
 (43, fun d rec => runAr 1 (fun a0 => inside (F_picks_Reader_Done lf d rec a0)) (fun l => evC lf (d + 1) 43 l.toArray)),
 (44, fun d rec => runAr 2 (fun a0 a1 => inside (F_code_Reader_pick lf d rec a0 a1)) (fun l => evC lf (d + 1) 44 l.toArray)),
 (45, fun d rec => runAr 1 (fun a0 => inside (F_picks_Reader_Tables lf d rec a0)) (fun l => evC lf (d + 1) 45 l.toArray)),
 (46, fun d rec => runAr 2 (fun a0 a1 => inside (F_code_Reader_table lf d rec a0 a1)) (fun l => evC lf (d + 1) 46 l.toArray)),
 (47, fun d rec => runAr 2 (fun a0 a1 => inside (F_code_chosen lf d rec a0 a1)) (fun l => evC lf (d + 1) 47 l.toArray)),
 (48, fun d rec => runAr 3 (fun a0 a1 a2 => inside (F_picks_Write lf d rec a0 a1 a2)) (fun l => evC lf (d + 1) 48 l.toArray)),
 (49, fun d rec => runAr 2 (fun a0 a1 => inside (F_delta_Write lf d rec a0 a1)) (fun l => evC lf (d + 1) 49 l.toArray)),
 (50, fun d rec => runAr 1 (fun a0 => inside (F_canon_New lf d rec a0)) (fun l => evC lf (d + 1) 50 l.toArray)),
 (51, fun d rec => runAr 3 (fun a0 a1 a2 => inside (F_canon_Code_Put lf d rec a0 a1 a2)) (fun l => evC lf (d + 1) 51 l.toArray)),
 (52, fun d rec => runAr 1 (fun a0 => inside (F_picks_Reader_Picks lf d rec a0)) (fun l => evC lf (d + 1) 52 l.toArray)),
 (53, fun d rec => runAr 0 (inside (F_bits_NewWriter lf d rec)) (fun l => evC lf (d + 1) 53 l.toArray)),
 (54, fun d rec => runAr 2 (fun a0 a1 => inside (F_code_Bits lf d rec a0 a1)) (fun l => evC lf (d + 1) 54 l.toArray)),
 (55, fun d rec => runAr 1 (fun a0 => inside (F_bits_Writer_Len lf d rec a0)) (fun l => evC lf (d + 1) 55 l.toArray)),
 (56, fun d rec => runAr 1 (fun a0 => inside (F_bits_Writer_Pad lf d rec a0)) (fun l => evC lf (d + 1) 56 l.toArray)),
 (57, fun d rec => runAr 1 (fun a0 => inside (F_bits_Writer_Take lf d rec a0)) (fun l => evC lf (d + 1) 57 l.toArray)),
 (58, fun d rec => runAr 2 (fun a0 a1 => inside (F_balerplain_Ints lf d rec a0 a1)) (fun l => evC lf (d + 1) 58 l.toArray)),
 (59, fun d rec => runAr 2 (fun a0 a1 => inside (F_stream_Encode lf d rec a0 a1)) (fun l => evC lf (d + 1) 59 l.toArray)),
 (60, fun d rec => runAr 1 (fun a0 => inside (F_stream_Most lf d rec a0)) (fun l => evC lf (d + 1) 60 l.toArray)),
 (61, fun d rec => runAr 1 (fun a0 => inside (F_bwt_Of lf d rec a0)) (fun l => evC lf (d + 1) 61 l.toArray)),
 (62, fun d rec => runAr 2 (fun a0 a1 => inside (F_stream_Writer_magic lf d rec a0 a1)) (fun l => evC lf (d + 1) 62 l.toArray)),
 (63, fun d rec => runAr 2 (fun a0 a1 => inside (F_crc_Combine lf d rec a0 a1)) (fun l => evC lf (d + 1) 63 l.toArray)),
 (64, fun d rec => runAr 4 (fun a0 a1 a2 a3 => inside (F_block_Turned lf d rec a0 a1 a2 a3)) (fun l => evC lf (d + 1) 64 l.toArray)),
 (65, fun d rec => runAr 3 (fun a0 a1 a2 => inside (F_bits_Writer_Put lf d rec a0 a1 a2)) (fun l => evC lf (d + 1) 65 l.toArray)),
 (69, fun d rec => runAr 2 (fun a0 a1 => inside (F_split_Room lf d rec a0 a1)) (fun l => evC lf (d + 1) 69 l.toArray)),
 (71, fun d rec => runAr 1 (fun a0 => inside (F_split_New lf d rec a0)) (fun l => evC lf (d + 1) 71 l.toArray)),
 (72, fun d rec => runAr 1 (fun a0 => inside (F_stream_New lf d rec a0)) (fun l => evC lf (d + 1) 72 l.toArray)),
 (79, fun d rec => runAr 1 (fun a0 => inside (F_delta_sized lf d rec a0)) (fun l => evC lf (d + 1) 79 l.toArray)),
 (80, fun d rec => runAr 0 (inside (F_picks_fresh lf d rec)) (fun l => evC lf (d + 1) 80 l.toArray)),
 (81, fun d rec => runAr 1 (fun a0 => inside (F_bits_Reader_end lf d rec a0)) (fun l => evC lf (d + 1) 81 l.toArray)),
 (82, fun d rec => runAr 2 (fun a0 a1 => inside (F_canon_Code_Get lf d rec a0 a1)) (fun l => evC lf (d + 1) 82 l.toArray)),
 (83, fun d rec => runAr 2 (fun a0 a1 => inside (F_picks_Reader_Step lf d rec a0 a1)) (fun l => evC lf (d + 1) 83 l.toArray)),
 (84, fun d rec => runAr 2 (fun a0 a1 => inside (F_delta_Reader_Step lf d rec a0 a1)) (fun l => evC lf (d + 1) 84 l.toArray)),
 (85, fun d rec => runAr 1 (fun a0 => inside (F_delta_Reader_Done lf d rec a0)) (fun l => evC lf (d + 1) 85 l.toArray)),
 (86, fun d rec => runAr 1 (fun a0 => inside (F_delta_Reader_Lens lf d rec a0)) (fun l => evC lf (d + 1) 86 l.toArray)),
 (87, fun d rec => runAr 2 (fun a0 a1 => inside (F_slices_Index_int_int lf d rec a0 a1)) (fun l => evC lf (d + 1) 87 l.toArray)),
 (88, fun d rec => runAr 2 (fun a0 a1 => inside (F_tables_Of lf d rec a0 a1)) (fun l => evC lf (d + 1) 88 l.toArray)),
 (89, fun d rec => runAr 2 (fun a0 a1 => inside (F_picks_may lf d rec a0 a1)) (fun l => evC lf (d + 1) 89 l.toArray)),
 (90, fun d rec => runAr 1 (fun a0 => inside (F_picks_places lf d rec a0)) (fun l => evC lf (d + 1) 90 l.toArray)),
 (91, fun d rec => runAr 1 (fun a0 => inside (F_delta_may lf d rec a0)) (fun l => evC lf (d + 1) 91 l.toArray)),
 (92, fun d rec => runAr 2 (fun a0 a1 => inside (F_delta_steps lf d rec a0 a1)) (fun l => evC lf (d + 1) 92 l.toArray)),
 (93, fun d rec => runAr 3 (fun a0 a1 a2 => inside (F_delta_Write_1 lf d rec a0 a1 a2)) (fun l => evC lf (d + 1) 93 l.toArray)),
 (94, fun d rec => runAr 1 (fun a0 => inside (F_canon_whole lf d rec a0)) (fun l => evC lf (d + 1) 94 l.toArray)),
 (95, fun d rec => runAr 1 (fun a0 => inside (F_slices_Clone_int_int lf d rec a0)) (fun l => evC lf (d + 1) 95 l.toArray)),
 (96, fun d rec => runAr 2 (fun a0 a1 => inside (F_canon_Code_Of lf d rec a0 a1)) (fun l => evC lf (d + 1) 96 l.toArray)),
 (97, fun d rec => runAr 2 (fun a0 a1 => inside (F_picks_Bits lf d rec a0 a1)) (fun l => evC lf (d + 1) 97 l.toArray)),
 (98, fun d rec => runAr 1 (fun a0 => inside (F_delta_Bits lf d rec a0)) (fun l => evC lf (d + 1) 98 l.toArray)),
 (99, fun d rec => runAr 2 (fun a0 a1 => inside (F_tables_Cost lf d rec a0 a1)) (fun l => evC lf (d + 1) 99 l.toArray)),
 (100, fun d rec => runAr 2 (fun a0 a1 => inside (F_bits_Writer_bit lf d rec a0 a1)) (fun l => evC lf (d + 1) 100 l.toArray)),
 (101, fun d rec => runAr 3 (fun a0 a1 a2 => inside (F_stream_With lf d rec a0 a1 a2)) (fun l => evC lf (d + 1) 101 l.toArray)),
 (102, fun d rec => runAr 1 (fun a0 => inside (F_bwt_New lf d rec a0)) (fun l => evC lf (d + 1) 102 l.toArray)),
 (103, fun d rec => runAr 1 (fun a0 => inside (F_bwt_Turner_Done lf d rec a0)) (fun l => evC lf (d + 1) 103 l.toArray)),
 (104, fun d rec => runAr 2 (fun a0 a1 => inside (F_bwt_Turner_Step lf d rec a0 a1)) (fun l => evC lf (d + 1) 104 l.toArray)),
 (105, fun d rec => runAr 1 (fun a0 => inside (F_bwt_Turner_Result lf d rec a0)) (fun l => evC lf (d + 1) 105 l.toArray)),
 (106, fun d rec => runAr 1 (fun a0 => inside (F_used_Symbols lf d rec a0)) (fun l => evC lf (d + 1) 106 l.toArray)),
 (107, fun d rec => runAr 2 (fun a0 a1 => inside (F_mtf_Encode lf d rec a0 a1)) (fun l => evC lf (d + 1) 107 l.toArray)),
 (108, fun d rec => runAr 2 (fun a0 a1 => inside (F_zeros_Encode lf d rec a0 a1)) (fun l => evC lf (d + 1) 108 l.toArray)),
 (109, fun d rec => runAr 2 (fun a0 a1 => inside (F_used_Write lf d rec a0 a1)) (fun l => evC lf (d + 1) 109 l.toArray)),
 (110, fun d rec => runAr 2 (fun a0 a1 => inside (F_bits_fits lf d rec a0 a1)) (fun l => evC lf (d + 1) 110 l.toArray)),
 (119, fun d rec => runAr 0 (inside (F_crc_New lf d rec)) (fun l => evC lf (d + 1) 119 l.toArray)),
 (120, fun d rec => runAr 0 (inside (F_feed_NewPacker lf d rec)) (fun l => evC lf (d + 1) 120 l.toArray)),
 (121, fun d rec => runAr 1 (fun a0 => inside (F_feed_Packer_Row lf d rec a0)) (fun l => evC lf (d + 1) 121 l.toArray)),
 (123, fun d rec => runAr 1 (fun a0 => inside (F_split_Splitter_End lf d rec a0)) (fun l => evC lf (d + 1) 123 l.toArray)),
 (126, fun d rec => runAr 2 (fun a0 a1 => inside (F_canon_Code_get lf d rec a0 a1)) (fun l => evC lf (d + 1) 126 l.toArray)),
 (127, fun d rec => runAr 2 (fun a0 a1 => inside (F_picks_Reader_pick lf d rec a0 a1)) (fun l => evC lf (d + 1) 127 l.toArray)),
 (128, fun d rec => runAr 2 (fun a0 a1 => inside (F_picks_Reader_head lf d rec a0 a1)) (fun l => evC lf (d + 1) 128 l.toArray)),
 (129, fun d rec => runAr 2 (fun a0 a1 => inside (F_delta_Reader_step lf d rec a0 a1)) (fun l => evC lf (d + 1) 129 l.toArray)),
 (130, fun d rec => runAr 2 (fun a0 a1 => inside (F_freq_Counts lf d rec a0 a1)) (fun l => evC lf (d + 1) 130 l.toArray)),
 (131, fun d rec => runAr 1 (fun a0 => inside (F_freq_Groups lf d rec a0)) (fun l => evC lf (d + 1) 131 l.toArray)),
 (132, fun d rec => runAr 1 (fun a0 => inside (F_tables_groupsOf lf d rec a0)) (fun l => evC lf (d + 1) 132 l.toArray)),
 (133, fun d rec => runAr 2 (fun a0 a1 => inside (F_tables_first lf d rec a0 a1)) (fun l => evC lf (d + 1) 133 l.toArray)),
 (134, fun d rec => runAr 3 (fun a0 a1 a2 => inside (F_tables_round lf d rec a0 a1 a2)) (fun l => evC lf (d + 1) 134 l.toArray)),
 (135, fun d rec => runAr 1 (fun a0 => inside (F_picks_tabled lf d rec a0)) (fun l => evC lf (d + 1) 135 l.toArray)),
 (136, fun d rec => runAr 2 (fun a0 a1 => inside (F_slices_ContainsFunc_int_int lf d rec a0 a1)) (fun l => evC lf (d + 1) 136 l.toArray)),
 (137, fun d rec => runAr 2 (fun a0 a1 => inside (F_picks_may_1 lf d rec a0 a1)) (fun l => evC lf (d + 1) 137 l.toArray)),
 (138, fun d rec => runAr 2 (fun a0 a1 => inside (F_picks_order_find lf d rec a0 a1)) (fun l => evC lf (d + 1) 138 l.toArray)),
 (139, fun d rec => runAr 1 (fun a0 => inside (F_delta_may_1 lf d rec a0)) (fun l => evC lf (d + 1) 139 l.toArray)),
 (140, fun d rec => runAr 1 (fun a0 => inside (F_delta_length lf d rec a0)) (fun l => evC lf (d + 1) 140 l.toArray)),
 (141, fun d rec => runAr 1 (fun a0 => inside (F_lens_Share lf d rec a0)) (fun l => evC lf (d + 1) 141 l.toArray)),
 (142, fun d rec => runAr 2 (fun a0 a1 => inside (F_slices_Contains_int_int lf d rec a0 a1)) (fun l => evC lf (d + 1) 142 l.toArray)),
 (143, fun d rec => runAr 3 (fun a0 a1 a2 => inside (F_delta_Bits_1 lf d rec a0 a1 a2)) (fun l => evC lf (d + 1) 143 l.toArray)),
 (144, fun d rec => runAr 2 (fun a0 a1 => inside (F_freq_Group lf d rec a0 a1)) (fun l => evC lf (d + 1) 144 l.toArray)),
 (145, fun d rec => runAr 2 (fun a0 a1 => inside (F_freq_Cost lf d rec a0 a1)) (fun l => evC lf (d + 1) 145 l.toArray)),
 (146, fun d rec => runAr 2 (fun a0 a1 => inside (F_split_Of lf d rec a0 a1)) (fun l => evC lf (d + 1) 146 l.toArray)),
 (147, fun d rec => runAr 1 (fun a0 => inside (F_sorter_New lf d rec a0)) (fun l => evC lf (d + 1) 147 l.toArray)),
 (148, fun d rec => runAr 2 (fun a0 a1 => inside (F_sorter_Sorter_Step lf d rec a0 a1)) (fun l => evC lf (d + 1) 148 l.toArray)),
 (149, fun d rec => runAr 1 (fun a0 => inside (F_sorter_Sorter_Done lf d rec a0)) (fun l => evC lf (d + 1) 149 l.toArray)),
 (150, fun d rec => runAr 1 (fun a0 => inside (F_sorter_Sorter_Order lf d rec a0)) (fun l => evC lf (d + 1) 150 l.toArray)),
 (151, fun d rec => runAr 1 (fun a0 => inside (F_bwt_Turner_take lf d rec a0)) (fun l => evC lf (d + 1) 151 l.toArray)),
 (152, fun d rec => runAr 1 (fun a0 => inside (F_used_listed lf d rec a0)) (fun l => evC lf (d + 1) 152 l.toArray)),
 (153, fun d rec => runAr 1 (fun a0 => inside (F_mtf_New lf d rec a0)) (fun l => evC lf (d + 1) 153 l.toArray)),
 (154, fun d rec => runAr 2 (fun a0 a1 => inside (F_mtf_List_Find lf d rec a0 a1)) (fun l => evC lf (d + 1) 154 l.toArray)),
 (155, fun d rec => runAr 1 (fun a0 => inside (F_zeros_may lf d rec a0)) (fun l => evC lf (d + 1) 155 l.toArray)),
 (156, fun d rec => runAr 1 (fun a0 => inside (F_zeros_row lf d rec a0)) (fun l => evC lf (d + 1) 156 l.toArray)),
 (157, fun d rec => runAr 1 (fun a0 => inside (F_used_Is lf d rec a0)) (fun l => evC lf (d + 1) 157 l.toArray)),
 (158, fun d rec => runAr 1 (fun a0 => inside (F_used_rows lf d rec a0)) (fun l => evC lf (d + 1) 158 l.toArray)),
 (169, fun d rec => runAr 0 (inside (F_crc_Table lf d rec)) (fun l => evC lf (d + 1) 169 l.toArray)),
 (170, fun d rec => runAr 1 (fun a0 => inside (F_feed_Packer_End lf d rec a0)) (fun l => evC lf (d + 1) 170 l.toArray)),
 (171, fun d rec => runAr 3 (fun a0 a1 a2 => inside (F_split_Splitter_piece lf d rec a0 a1 a2)) (fun l => evC lf (d + 1) 171 l.toArray)),
 (172, fun d rec => runAr 1 (fun a0 => inside (F_split_begun_close lf d rec a0)) (fun l => evC lf (d + 1) 172 l.toArray)),
 (173, fun d rec => runAr 2 (fun a0 a1 => inside (F_split_Splitter_Put lf d rec a0 a1)) (fun l => evC lf (d + 1) 173 l.toArray)),
 (174, fun d rec => runAr 2 (fun a0 a1 => inside (F_bits_Reader_Get lf d rec a0 a1)) (fun l => evC lf (d + 1) 174 l.toArray)),
 (175, fun d rec => runAr 2 (fun a0 a1 => inside (F_picks_order_touch lf d rec a0 a1)) (fun l => evC lf (d + 1) 175 l.toArray)),
 (176, fun d rec => runAr 1 (fun a0 => inside (F_picks_Reader_fail lf d rec a0)) (fun l => evC lf (d + 1) 176 l.toArray)),
 (177, fun d rec => runAr 2 (fun a0 a1 => inside (F_delta_Reader_turned lf d rec a0 a1)) (fun l => evC lf (d + 1) 177 l.toArray)),
 (178, fun d rec => runAr 1 (fun a0 => inside (F_tables_Number lf d rec a0)) (fun l => evC lf (d + 1) 178 l.toArray)),
 (179, fun d rec => runAr 2 (fun a0 a1 => inside (F_tables_pick lf d rec a0 a1)) (fun l => evC lf (d + 1) 179 l.toArray)),
 (180, fun d rec => runAr 2 (fun a0 a1 => inside (F_freq_Add lf d rec a0 a1)) (fun l => evC lf (d + 1) 180 l.toArray)),
 (181, fun d rec => runAr 1 (fun a0 => inside (F_lens_Of lf d rec a0)) (fun l => evC lf (d + 1) 181 l.toArray)),
 (182, fun d rec => runAr 2 (fun a0 a1 => inside (F_slices_IndexFunc_int_int lf d rec a0 a1)) (fun l => evC lf (d + 1) 182 l.toArray)),
 (183, fun d rec => runAr 3 (fun a0 a1 a2 => inside (F_lens_between lf d rec a0 a1 a2)) (fun l => evC lf (d + 1) 183 l.toArray)),
 (184, fun d rec => runAr 3 (fun a0 a1 a2 => inside (F_freq_part_int lf d rec a0 a1 a2)) (fun l => evC lf (d + 1) 184 l.toArray)),
 (185, fun d rec => runAr 1 (fun a0 => inside (F_freq_all lf d rec a0)) (fun l => evC lf (d + 1) 185 l.toArray)),
 (186, fun d rec => runAr 2 (fun a0 a1 => inside (F_freq_together lf d rec a0 a1)) (fun l => evC lf (d + 1) 186 l.toArray)),
 (187, fun d rec => runAr 1 (fun a0 => inside (F_sorter_Sorter_step lf d rec a0)) (fun l => evC lf (d + 1) 187 l.toArray)),
 (188, fun d rec => runAr 2 (fun a0 a1 => inside (F_bwt_ahead lf d rec a0 a1)) (fun l => evC lf (d + 1) 188 l.toArray)),
 (190, fun d rec => runAr 2 (fun a0 a1 => inside (F_mtf_List_touch lf d rec a0 a1)) (fun l => evC lf (d + 1) 190 l.toArray)),
 (202, fun d rec => runAr 1 (fun a0 => inside (F_feed_Packer_close lf d rec a0)) (fun l => evC lf (d + 1) 202 l.toArray)),
 (203, fun d rec => runAr 2 (fun a0 a1 => inside (F_split_begun_take lf d rec a0 a1)) (fun l => evC lf (d + 1) 203 l.toArray)),
 (204, fun d rec => runAr 1 (fun a0 => inside (F_crc_Sum_Value lf d rec a0)) (fun l => evC lf (d + 1) 204 l.toArray)),
 (205, fun d rec => runAr 1 (fun a0 => inside (F_crc_Sum_Reset lf d rec a0)) (fun l => evC lf (d + 1) 205 l.toArray)),
 (206, fun d rec => runAr 2 (fun a0 a1 => inside (F_feed_Packer_Put lf d rec a0 a1)) (fun l => evC lf (d + 1) 206 l.toArray)),
 (207, fun d rec => runAr 1 (fun a0 => inside (F_bits_Reader_Left lf d rec a0)) (fun l => evC lf (d + 1) 207 l.toArray)),
 (208, fun d rec => runAr 2 (fun a0 a1 => inside (F_bits_Reader_bit lf d rec a0 a1)) (fun l => evC lf (d + 1) 208 l.toArray)),
 (209, fun d rec => runAr 1 (fun a0 => inside (F_lens_depths lf d rec a0)) (fun l => evC lf (d + 1) 209 l.toArray)),
 (210, fun d rec => runAr 1 (fun a0 => inside (F_lens_Longest lf d rec a0)) (fun l => evC lf (d + 1) 210 l.toArray)),
 (211, fun d rec => runAr 1 (fun a0 => inside (F_lens_Halved lf d rec a0)) (fun l => evC lf (d + 1) 211 l.toArray)),
 (212, fun d rec => runAr 3 (fun a0 a1 a2 => inside (F_lens_between_1 lf d rec a0 a1 a2)) (fun l => evC lf (d + 1) 212 l.toArray)),
 (213, fun d rec => runAr 1 (fun a0 => inside (F_freq_all_1 lf d rec a0)) (fun l => evC lf (d + 1) 213 l.toArray)),
 (214, fun d rec => runAr 1 (fun a0 => inside (F_freq_may lf d rec a0)) (fun l => evC lf (d + 1) 214 l.toArray)),
 (215, fun d rec => runAr 1 (fun a0 => inside (F_sorter_Sorter_join lf d rec a0)) (fun l => evC lf (d + 1) 215 l.toArray)),
 (216, fun d rec => runAr 1 (fun a0 => inside (F_sorter_Sorter_lay lf d rec a0)) (fun l => evC lf (d + 1) 216 l.toArray)),
 (217, fun d rec => runAr 1 (fun a0 => inside (F_sorter_Sorter_put lf d rec a0)) (fun l => evC lf (d + 1) 217 l.toArray)),
 (218, fun d rec => runAr 1 (fun a0 => inside (F_sorter_Sorter_begin lf d rec a0)) (fun l => evC lf (d + 1) 218 l.toArray)),
 (219, fun d rec => runAr 1 (fun a0 => inside (F_sorter_Sorter_rank lf d rec a0)) (fun l => evC lf (d + 1) 219 l.toArray)),
 (233, fun d rec => runAr 1 (fun a0 => inside (F_rle_Piece lf d rec a0)) (fun l => evC lf (d + 1) 233 l.toArray)),
 (234, fun d rec => runAr 2 (fun a0 a1 => inside (F_crc_Sum_Put lf d rec a0 a1)) (fun l => evC lf (d + 1) 234 l.toArray)),
 (235, fun d rec => runAr 1 (fun a0 => inside (F_lens_treesOf lf d rec a0)) (fun l => evC lf (d + 1) 235 l.toArray)),
 (236, fun d rec => runAr 1 (fun a0 => inside (F_lens_trees_least lf d rec a0)) (fun l => evC lf (d + 1) 236 l.toArray)),
 (237, fun d rec => runAr 3 (fun a0 a1 a2 => inside (F_lens_trees_join lf d rec a0 a1 a2)) (fun l => evC lf (d + 1) 237 l.toArray)),
 (238, fun d rec => runAr 3 (fun a0 a1 a2 => inside (F_sorter_Sorter_above lf d rec a0 a1 a2)) (fun l => evC lf (d + 1) 238 l.toArray)),
 (239, fun d rec => runAr 1 (fun a0 => inside (F_sorter_Sorter_pass lf d rec a0)) (fun l => evC lf (d + 1) 239 l.toArray)),
 (246, fun d rec => runAr 1 (fun a0 => inside (F_rle_text lf d rec a0)) (fun l => evC lf (d + 1) 246 l.toArray)),
 (247, fun d rec => runAr 3 (fun a0 a1 a2 => inside (F_crc_step lf d rec a0 a1 a2)) (fun l => evC lf (d + 1) 247 l.toArray)),
 (248, fun d rec => runAr 2 (fun a0 a1 => inside (F_slices_SortStableFunc_int_int lf d rec a0 a1)) (fun l => evC lf (d + 1) 248 l.toArray)),
 (249, fun d rec => runAr 3 (fun a0 a1 a2 => inside (F_lens_treesOf_1 lf d rec a0 a1 a2)) (fun l => evC lf (d + 1) 249 l.toArray)),
 (250, fun d rec => runAr 2 (fun a0 a1 => inside (F_cmp_Compare_int lf d rec a0 a1)) (fun l => evC lf (d + 1) 250 l.toArray)),
 (251, fun d rec => runAr 2 (fun a0 a1 => inside (F_sorter_Sorter_key lf d rec a0 a1)) (fun l => evC lf (d + 1) 251 l.toArray)),
 (259, fun d rec => runAr 3 (fun a0 a1 a2 => inside (F_slices_stableCmpFunc_int lf d rec a0 a1 a2)) (fun l => evC lf (d + 1) 259 l.toArray)),
 (260, fun d rec => runAr 1 (fun a0 => inside (F_cmp_isNaN_int lf d rec a0)) (fun l => evC lf (d + 1) 260 l.toArray)),
 (270, fun d rec => runAr 4 (fun a0 a1 a2 a3 => inside (F_slices_insertionSortCmpFunc_int lf d rec a0 a1 a2 a3)) (fun l => evC lf (d + 1) 270 l.toArray)),
 (271, fun d rec => runAr 5 (fun a0 a1 a2 a3 a4 => inside (F_slices_symMergeCmpFunc_int lf d rec a0 a1 a2 a3 a4)) (fun l => evC lf (d + 1) 271 l.toArray)),
 (275, fun d rec => runAr 2 (fun a0 a1 => inside (F_internal_stringslite_HasPrefix lf d rec a0 a1)) (fun l => evC lf (d + 1) 275 l.toArray)),
 (278, fun d rec => runAr 5 (fun a0 a1 a2 a3 a4 => inside (F_slices_rotateCmpFunc_int lf d rec a0 a1 a2 a3 a4)) (fun l => evC lf (d + 1) 278 l.toArray)),
 (281, fun d rec => runAr 5 (fun a0 a1 a2 a3 a4 => inside (F_slices_swapRangeCmpFunc_int lf d rec a0 a1 a2 a3 a4)) (fun l => evC lf (d + 1) 281 l.toArray))]
theorem fTab_ok (lf : Nat) : OkTab (evC lf) (fTab lf) :=
  ⟨fun d => runAr_eq _ _ _ (fun a0 => fsh_code_NewReader lf d a0),
  ⟨fun d => runAr_eq _ _ _ (fun a0 a1 a2 => fsh_code_Read lf d a0 a1 a2),
  ⟨fun d => runAr_eq _ _ _ (fun a0 a1 => fsh_code_Reader_Step lf d a0 a1),
  ⟨fun d => runAr_eq _ _ _ (fun a0 => fsh_bits_NewReader lf d a0),
  ⟨fun d => runAr_eq _ _ _ (fun a0 a1 a2 => fsh_code_Write lf d a0 a1 a2),
  ⟨fun d => runAr_eq _ _ _ (fsh_balerlaw14_two lf d),
  ⟨fun d => runAr_eq _ _ _ (fsh_balerlaw21_none lf d),
  ⟨fun d => runAr_eq _ _ _ (fun a0 a1 a2 => fsh_stream_Writer_Block lf d a0 a1 a2),
  ⟨fun d => runAr_eq _ _ _ (fun a0 a1 a2 a3 => fsh_stream_Writer_Turned lf d a0 a1 a2 a3),
  ⟨fun d => runAr_eq _ _ _ (fun a0 => fsh_stream_Writer_End lf d a0),
  ⟨fun d => runAr_eq _ _ _ (fun a0 => fsh_stream_Writer_Take lf d a0),
  ⟨fun d => runAr_eq _ _ _ (fun a0 => fsh_delta_NewReader lf d a0),
  ⟨fun d => runAr_eq _ _ _ (fsh_picks_NewReader lf d),
  ⟨fun d => runAr_eq _ _ _ (fun a0 => fsh_bits_Reader_At lf d a0),
  ⟨fun d => runAr_eq _ _ _ (fun a0 a1 a2 => fsh_code_Reader_rest lf d a0 a1 a2),
  ⟨fun d => runAr_eq _ _ _ (fun a0 a1 => fsh_bits_Reader_Seek lf d a0 a1),
  ⟨fun d => runAr_eq _ _ _ (fun a0 a1 => fsh_code_Reader_symbol lf d a0 a1),
  ⟨fun d => runAr_eq _ _ _ (fun a0 => fsh_picks_Reader_Done lf d a0),
  ⟨fun d => runAr_eq _ _ _ (fun a0 a1 => fsh_code_Reader_pick lf d a0 a1),
  ⟨fun d => runAr_eq _ _ _ (fun a0 => fsh_picks_Reader_Tables lf d a0),
  ⟨fun d => runAr_eq _ _ _ (fun a0 a1 => fsh_code_Reader_table lf d a0 a1),
  ⟨fun d => runAr_eq _ _ _ (fun a0 a1 => fsh_code_chosen lf d a0 a1),
  ⟨fun d => runAr_eq _ _ _ (fun a0 a1 a2 => fsh_picks_Write lf d a0 a1 a2),
  ⟨fun d => runAr_eq _ _ _ (fun a0 a1 => fsh_delta_Write lf d a0 a1),
  ⟨fun d => runAr_eq _ _ _ (fun a0 => fsh_canon_New lf d a0),
  ⟨fun d => runAr_eq _ _ _ (fun a0 a1 a2 => fsh_canon_Code_Put lf d a0 a1 a2),
  ⟨fun d => runAr_eq _ _ _ (fun a0 => fsh_picks_Reader_Picks lf d a0),
  ⟨fun d => runAr_eq _ _ _ (fsh_bits_NewWriter lf d),
  ⟨fun d => runAr_eq _ _ _ (fun a0 a1 => fsh_code_Bits lf d a0 a1),
  ⟨fun d => runAr_eq _ _ _ (fun a0 => fsh_bits_Writer_Len lf d a0),
  ⟨fun d => runAr_eq _ _ _ (fun a0 => fsh_bits_Writer_Pad lf d a0),
  ⟨fun d => runAr_eq _ _ _ (fun a0 => fsh_bits_Writer_Take lf d a0),
  ⟨fun d => runAr_eq _ _ _ (fun a0 a1 => fsh_balerplain_Ints lf d a0 a1),
  ⟨fun d => runAr_eq _ _ _ (fun a0 a1 => fsh_stream_Encode lf d a0 a1),
  ⟨fun d => runAr_eq _ _ _ (fun a0 => fsh_stream_Most lf d a0),
  ⟨fun d => runAr_eq _ _ _ (fun a0 => fsh_bwt_Of lf d a0),
  ⟨fun d => runAr_eq _ _ _ (fun a0 a1 => fsh_stream_Writer_magic lf d a0 a1),
  ⟨fun d => runAr_eq _ _ _ (fun a0 a1 => fsh_crc_Combine lf d a0 a1),
  ⟨fun d => runAr_eq _ _ _ (fun a0 a1 a2 a3 => fsh_block_Turned lf d a0 a1 a2 a3),
  ⟨fun d => runAr_eq _ _ _ (fun a0 a1 a2 => fsh_bits_Writer_Put lf d a0 a1 a2),
  ⟨fun d => runAr_eq _ _ _ (fun a0 a1 => fsh_split_Room lf d a0 a1),
  ⟨fun d => runAr_eq _ _ _ (fun a0 => fsh_split_New lf d a0),
  ⟨fun d => runAr_eq _ _ _ (fun a0 => fsh_stream_New lf d a0),
  ⟨fun d => runAr_eq _ _ _ (fun a0 => fsh_delta_sized lf d a0),
  ⟨fun d => runAr_eq _ _ _ (fsh_picks_fresh lf d),
  ⟨fun d => runAr_eq _ _ _ (fun a0 => fsh_bits_Reader_end lf d a0),
  ⟨fun d => runAr_eq _ _ _ (fun a0 a1 => fsh_canon_Code_Get lf d a0 a1),
  ⟨fun d => runAr_eq _ _ _ (fun a0 a1 => fsh_picks_Reader_Step lf d a0 a1),
  ⟨fun d => runAr_eq _ _ _ (fun a0 a1 => fsh_delta_Reader_Step lf d a0 a1),
  ⟨fun d => runAr_eq _ _ _ (fun a0 => fsh_delta_Reader_Done lf d a0),
  ⟨fun d => runAr_eq _ _ _ (fun a0 => fsh_delta_Reader_Lens lf d a0),
  ⟨fun d => runAr_eq _ _ _ (fun a0 a1 => fsh_slices_Index_int_int lf d a0 a1),
  ⟨fun d => runAr_eq _ _ _ (fun a0 a1 => fsh_tables_Of lf d a0 a1),
  ⟨fun d => runAr_eq _ _ _ (fun a0 a1 => fsh_picks_may lf d a0 a1),
  ⟨fun d => runAr_eq _ _ _ (fun a0 => fsh_picks_places lf d a0),
  ⟨fun d => runAr_eq _ _ _ (fun a0 => fsh_delta_may lf d a0),
  ⟨fun d => runAr_eq _ _ _ (fun a0 a1 => fsh_delta_steps lf d a0 a1),
  ⟨fun d => runAr_eq _ _ _ (fun a0 a1 a2 => fsh_delta_Write_1 lf d a0 a1 a2),
  ⟨fun d => runAr_eq _ _ _ (fun a0 => fsh_canon_whole lf d a0),
  ⟨fun d => runAr_eq _ _ _ (fun a0 => fsh_slices_Clone_int_int lf d a0),
  ⟨fun d => runAr_eq _ _ _ (fun a0 a1 => fsh_canon_Code_Of lf d a0 a1),
  ⟨fun d => runAr_eq _ _ _ (fun a0 a1 => fsh_picks_Bits lf d a0 a1),
  ⟨fun d => runAr_eq _ _ _ (fun a0 => fsh_delta_Bits lf d a0),
  ⟨fun d => runAr_eq _ _ _ (fun a0 a1 => fsh_tables_Cost lf d a0 a1),
  ⟨fun d => runAr_eq _ _ _ (fun a0 a1 => fsh_bits_Writer_bit lf d a0 a1),
  ⟨fun d => runAr_eq _ _ _ (fun a0 a1 a2 => fsh_stream_With lf d a0 a1 a2),
  ⟨fun d => runAr_eq _ _ _ (fun a0 => fsh_bwt_New lf d a0),
  ⟨fun d => runAr_eq _ _ _ (fun a0 => fsh_bwt_Turner_Done lf d a0),
  ⟨fun d => runAr_eq _ _ _ (fun a0 a1 => fsh_bwt_Turner_Step lf d a0 a1),
  ⟨fun d => runAr_eq _ _ _ (fun a0 => fsh_bwt_Turner_Result lf d a0),
  ⟨fun d => runAr_eq _ _ _ (fun a0 => fsh_used_Symbols lf d a0),
  ⟨fun d => runAr_eq _ _ _ (fun a0 a1 => fsh_mtf_Encode lf d a0 a1),
  ⟨fun d => runAr_eq _ _ _ (fun a0 a1 => fsh_zeros_Encode lf d a0 a1),
  ⟨fun d => runAr_eq _ _ _ (fun a0 a1 => fsh_used_Write lf d a0 a1),
  ⟨fun d => runAr_eq _ _ _ (fun a0 a1 => fsh_bits_fits lf d a0 a1),
  ⟨fun d => runAr_eq _ _ _ (fsh_crc_New lf d),
  ⟨fun d => runAr_eq _ _ _ (fsh_feed_NewPacker lf d),
  ⟨fun d => runAr_eq _ _ _ (fun a0 => fsh_feed_Packer_Row lf d a0),
  ⟨fun d => runAr_eq _ _ _ (fun a0 => fsh_split_Splitter_End lf d a0),
  ⟨fun d => runAr_eq _ _ _ (fun a0 a1 => fsh_canon_Code_get lf d a0 a1),
  ⟨fun d => runAr_eq _ _ _ (fun a0 a1 => fsh_picks_Reader_pick lf d a0 a1),
  ⟨fun d => runAr_eq _ _ _ (fun a0 a1 => fsh_picks_Reader_head lf d a0 a1),
  ⟨fun d => runAr_eq _ _ _ (fun a0 a1 => fsh_delta_Reader_step lf d a0 a1),
  ⟨fun d => runAr_eq _ _ _ (fun a0 a1 => fsh_freq_Counts lf d a0 a1),
  ⟨fun d => runAr_eq _ _ _ (fun a0 => fsh_freq_Groups lf d a0),
  ⟨fun d => runAr_eq _ _ _ (fun a0 => fsh_tables_groupsOf lf d a0),
  ⟨fun d => runAr_eq _ _ _ (fun a0 a1 => fsh_tables_first lf d a0 a1),
  ⟨fun d => runAr_eq _ _ _ (fun a0 a1 a2 => fsh_tables_round lf d a0 a1 a2),
  ⟨fun d => runAr_eq _ _ _ (fun a0 => fsh_picks_tabled lf d a0),
  ⟨fun d => runAr_eq _ _ _ (fun a0 a1 => fsh_slices_ContainsFunc_int_int lf d a0 a1),
  ⟨fun d => runAr_eq _ _ _ (fun a0 a1 => fsh_picks_may_1 lf d a0 a1),
  ⟨fun d => runAr_eq _ _ _ (fun a0 a1 => fsh_picks_order_find lf d a0 a1),
  ⟨fun d => runAr_eq _ _ _ (fun a0 => fsh_delta_may_1 lf d a0),
  ⟨fun d => runAr_eq _ _ _ (fun a0 => fsh_delta_length lf d a0),
  ⟨fun d => runAr_eq _ _ _ (fun a0 => fsh_lens_Share lf d a0),
  ⟨fun d => runAr_eq _ _ _ (fun a0 a1 => fsh_slices_Contains_int_int lf d a0 a1),
  ⟨fun d => runAr_eq _ _ _ (fun a0 a1 a2 => fsh_delta_Bits_1 lf d a0 a1 a2),
  ⟨fun d => runAr_eq _ _ _ (fun a0 a1 => fsh_freq_Group lf d a0 a1),
  ⟨fun d => runAr_eq _ _ _ (fun a0 a1 => fsh_freq_Cost lf d a0 a1),
  ⟨fun d => runAr_eq _ _ _ (fun a0 a1 => fsh_split_Of lf d a0 a1),
  ⟨fun d => runAr_eq _ _ _ (fun a0 => fsh_sorter_New lf d a0),
  ⟨fun d => runAr_eq _ _ _ (fun a0 a1 => fsh_sorter_Sorter_Step lf d a0 a1),
  ⟨fun d => runAr_eq _ _ _ (fun a0 => fsh_sorter_Sorter_Done lf d a0),
  ⟨fun d => runAr_eq _ _ _ (fun a0 => fsh_sorter_Sorter_Order lf d a0),
  ⟨fun d => runAr_eq _ _ _ (fun a0 => fsh_bwt_Turner_take lf d a0),
  ⟨fun d => runAr_eq _ _ _ (fun a0 => fsh_used_listed lf d a0),
  ⟨fun d => runAr_eq _ _ _ (fun a0 => fsh_mtf_New lf d a0),
  ⟨fun d => runAr_eq _ _ _ (fun a0 a1 => fsh_mtf_List_Find lf d a0 a1),
  ⟨fun d => runAr_eq _ _ _ (fun a0 => fsh_zeros_may lf d a0),
  ⟨fun d => runAr_eq _ _ _ (fun a0 => fsh_zeros_row lf d a0),
  ⟨fun d => runAr_eq _ _ _ (fun a0 => fsh_used_Is lf d a0),
  ⟨fun d => runAr_eq _ _ _ (fun a0 => fsh_used_rows lf d a0),
  ⟨fun d => runAr_eq _ _ _ (fsh_crc_Table lf d),
  ⟨fun d => runAr_eq _ _ _ (fun a0 => fsh_feed_Packer_End lf d a0),
  ⟨fun d => runAr_eq _ _ _ (fun a0 a1 a2 => fsh_split_Splitter_piece lf d a0 a1 a2),
  ⟨fun d => runAr_eq _ _ _ (fun a0 => fsh_split_begun_close lf d a0),
  ⟨fun d => runAr_eq _ _ _ (fun a0 a1 => fsh_split_Splitter_Put lf d a0 a1),
  ⟨fun d => runAr_eq _ _ _ (fun a0 a1 => fsh_bits_Reader_Get lf d a0 a1),
  ⟨fun d => runAr_eq _ _ _ (fun a0 a1 => fsh_picks_order_touch lf d a0 a1),
  ⟨fun d => runAr_eq _ _ _ (fun a0 => fsh_picks_Reader_fail lf d a0),
  ⟨fun d => runAr_eq _ _ _ (fun a0 a1 => fsh_delta_Reader_turned lf d a0 a1),
  ⟨fun d => runAr_eq _ _ _ (fun a0 => fsh_tables_Number lf d a0),
  ⟨fun d => runAr_eq _ _ _ (fun a0 a1 => fsh_tables_pick lf d a0 a1),
  ⟨fun d => runAr_eq _ _ _ (fun a0 a1 => fsh_freq_Add lf d a0 a1),
  ⟨fun d => runAr_eq _ _ _ (fun a0 => fsh_lens_Of lf d a0),
  ⟨fun d => runAr_eq _ _ _ (fun a0 a1 => fsh_slices_IndexFunc_int_int lf d a0 a1),
  ⟨fun d => runAr_eq _ _ _ (fun a0 a1 a2 => fsh_lens_between lf d a0 a1 a2),
  ⟨fun d => runAr_eq _ _ _ (fun a0 a1 a2 => fsh_freq_part_int lf d a0 a1 a2),
  ⟨fun d => runAr_eq _ _ _ (fun a0 => fsh_freq_all lf d a0),
  ⟨fun d => runAr_eq _ _ _ (fun a0 a1 => fsh_freq_together lf d a0 a1),
  ⟨fun d => runAr_eq _ _ _ (fun a0 => fsh_sorter_Sorter_step lf d a0),
  ⟨fun d => runAr_eq _ _ _ (fun a0 a1 => fsh_bwt_ahead lf d a0 a1),
  ⟨fun d => runAr_eq _ _ _ (fun a0 a1 => fsh_mtf_List_touch lf d a0 a1),
  ⟨fun d => runAr_eq _ _ _ (fun a0 => fsh_feed_Packer_close lf d a0),
  ⟨fun d => runAr_eq _ _ _ (fun a0 a1 => fsh_split_begun_take lf d a0 a1),
  ⟨fun d => runAr_eq _ _ _ (fun a0 => fsh_crc_Sum_Value lf d a0),
  ⟨fun d => runAr_eq _ _ _ (fun a0 => fsh_crc_Sum_Reset lf d a0),
  ⟨fun d => runAr_eq _ _ _ (fun a0 a1 => fsh_feed_Packer_Put lf d a0 a1),
  ⟨fun d => runAr_eq _ _ _ (fun a0 => fsh_bits_Reader_Left lf d a0),
  ⟨fun d => runAr_eq _ _ _ (fun a0 a1 => fsh_bits_Reader_bit lf d a0 a1),
  ⟨fun d => runAr_eq _ _ _ (fun a0 => fsh_lens_depths lf d a0),
  ⟨fun d => runAr_eq _ _ _ (fun a0 => fsh_lens_Longest lf d a0),
  ⟨fun d => runAr_eq _ _ _ (fun a0 => fsh_lens_Halved lf d a0),
  ⟨fun d => runAr_eq _ _ _ (fun a0 a1 a2 => fsh_lens_between_1 lf d a0 a1 a2),
  ⟨fun d => runAr_eq _ _ _ (fun a0 => fsh_freq_all_1 lf d a0),
  ⟨fun d => runAr_eq _ _ _ (fun a0 => fsh_freq_may lf d a0),
  ⟨fun d => runAr_eq _ _ _ (fun a0 => fsh_sorter_Sorter_join lf d a0),
  ⟨fun d => runAr_eq _ _ _ (fun a0 => fsh_sorter_Sorter_lay lf d a0),
  ⟨fun d => runAr_eq _ _ _ (fun a0 => fsh_sorter_Sorter_put lf d a0),
  ⟨fun d => runAr_eq _ _ _ (fun a0 => fsh_sorter_Sorter_begin lf d a0),
  ⟨fun d => runAr_eq _ _ _ (fun a0 => fsh_sorter_Sorter_rank lf d a0),
  ⟨fun d => runAr_eq _ _ _ (fun a0 => fsh_rle_Piece lf d a0),
  ⟨fun d => runAr_eq _ _ _ (fun a0 a1 => fsh_crc_Sum_Put lf d a0 a1),
  ⟨fun d => runAr_eq _ _ _ (fun a0 => fsh_lens_treesOf lf d a0),
  ⟨fun d => runAr_eq _ _ _ (fun a0 => fsh_lens_trees_least lf d a0),
  ⟨fun d => runAr_eq _ _ _ (fun a0 a1 a2 => fsh_lens_trees_join lf d a0 a1 a2),
  ⟨fun d => runAr_eq _ _ _ (fun a0 a1 a2 => fsh_sorter_Sorter_above lf d a0 a1 a2),
  ⟨fun d => runAr_eq _ _ _ (fun a0 => fsh_sorter_Sorter_pass lf d a0),
  ⟨fun d => runAr_eq _ _ _ (fun a0 => fsh_rle_text lf d a0),
  ⟨fun d => runAr_eq _ _ _ (fun a0 a1 a2 => fsh_crc_step lf d a0 a1 a2),
  ⟨fun d => runAr_eq _ _ _ (fun a0 a1 => fsh_slices_SortStableFunc_int_int lf d a0 a1),
  ⟨fun d => runAr_eq _ _ _ (fun a0 a1 a2 => fsh_lens_treesOf_1 lf d a0 a1 a2),
  ⟨fun d => runAr_eq _ _ _ (fun a0 a1 => fsh_cmp_Compare_int lf d a0 a1),
  ⟨fun d => runAr_eq _ _ _ (fun a0 a1 => fsh_sorter_Sorter_key lf d a0 a1),
  ⟨fun d => runAr_eq _ _ _ (fun a0 a1 a2 => fsh_slices_stableCmpFunc_int lf d a0 a1 a2),
  ⟨fun d => runAr_eq _ _ _ (fun a0 => fsh_cmp_isNaN_int lf d a0),
  ⟨fun d => runAr_eq _ _ _ (fun a0 a1 a2 a3 => fsh_slices_insertionSortCmpFunc_int lf d a0 a1 a2 a3),
  ⟨fun d => runAr_eq _ _ _ (fun a0 a1 a2 a3 a4 => fsh_slices_symMergeCmpFunc_int lf d a0 a1 a2 a3 a4),
  ⟨fun d => runAr_eq _ _ _ (fun a0 a1 => fsh_internal_stringslite_HasPrefix lf d a0 a1),
  ⟨fun d => runAr_eq _ _ _ (fun a0 a1 a2 a3 a4 => fsh_slices_rotateCmpFunc_int lf d a0 a1 a2 a3 a4),
  ⟨fun d => runAr_eq _ _ _ (fun a0 a1 a2 a3 a4 => fsh_slices_swapRangeCmpFunc_int lf d a0 a1 a2 a3 a4), trivial⟩⟩⟩⟩⟩⟩⟩⟩⟩⟩⟩⟩⟩⟩⟩⟩⟩⟩⟩⟩⟩⟩⟩⟩⟩⟩⟩⟩⟩⟩⟩⟩⟩⟩⟩⟩⟩⟩⟩⟩⟩⟩⟩⟩⟩⟩⟩⟩⟩⟩⟩⟩⟩⟩⟩⟩⟩⟩⟩⟩⟩⟩⟩⟩⟩⟩⟩⟩⟩⟩⟩⟩⟩⟩⟩⟩⟩⟩⟩⟩⟩⟩⟩⟩⟩⟩⟩⟩⟩⟩⟩⟩⟩⟩⟩⟩⟩⟩⟩⟩⟩⟩⟩⟩⟩⟩⟩⟩⟩⟩⟩⟩⟩⟩⟩⟩⟩⟩⟩⟩⟩⟩⟩⟩⟩⟩⟩⟩⟩⟩⟩⟩⟩⟩⟩⟩⟩⟩⟩⟩⟩⟩⟩⟩⟩⟩⟩⟩⟩⟩⟩⟩⟩⟩⟩⟩⟩⟩⟩⟩⟩⟩⟩⟩⟩⟩⟩⟩⟩⟩⟩
noncomputable def fast (lf : Nat) : Nat → FuncId → Array Value → M Value := fastT (evC lf) (fTab lf)
theorem fast_eq (lf d : Nat) : fast lf d = evC lf d := fastT_eq (fTab_ok lf) d

end Go.Proofs.YthhhkplbjcknkaaGreatDoor.Fa

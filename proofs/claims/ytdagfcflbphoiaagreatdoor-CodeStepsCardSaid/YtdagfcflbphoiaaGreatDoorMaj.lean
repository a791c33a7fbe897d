import Derived.Test.YtdagfcflbphoiaaGreatDoorMai
namespace Go.Proofs.YtdagfcflbphoiaaGreatDoor
set_option linter.unusedVariables false
set_option linter.unusedSimpArgs false
open Go.RowKit Ev

noncomputable def zacc (lf d fu : Nat) (k : Ex → Fr → M Value) (x0 x1 x2 x6 x7 x8 x9 x10 x11 x12 x37 x56 x60 x61 : Value) : M Value := loopK (fun s1 k1 => codeK Tryz.prog (zaac Tryz.prog gt lf d) (gt 6) lf (codeAt (bodyOf Tryz.prog 6) [true, true, true, true, true, true, true, true, false, true, false, false]) s1 k1) [0, 1, 2, 6, 7, 8, 9, 10, 11, 12, 37, 56, 60, 61] fu [(0, x0), (1, x1), (2, x2), (6, x6), (7, x7), (8, x8), (9, x9), (10, x10), (11, x11), (12, x12), (37, x37), (56, x56), (60, x60), (61, x61)] k
noncomputable def zadf (lf d : Nat) : Ex → Fr → M Value := contAt Tryz.prog (zaac Tryz.prog gt lf d) (gt 6) lf (bodyOf Tryz.prog 6) [true, true, true, true, true, true, true, true, false, true, false] (endK Tryz.prog (resOf Tryz.prog 6))
noncomputable def zanu (lf d : Nat) (a0 a1 a2 : Value) : M Value :=
 optK (len2 Tryz.prog #[9] [a0]) fun v21n1 =>
 optK (bin2 Tryz.prog .gtr 3 v21n1 (Value.int .i64 120)) fun v22n2 =>
 ifV v22n2 (
  (inside (zaac Tryz.prog gt lf d 8 #[])).bind fun v38n3 =>
  outK [v38n3]) (
  optK (bin2 Tryz.prog .lss 3 a1 (Value.int .i64 0)) fun v25n4 =>
  ifV v25n4 (
   (inside (zaac Tryz.prog gt lf d 8 #[])).bind fun v38n5 =>
   outK [v38n5]) (
   optK (len2 Tryz.prog #[9] [a0]) fun v30n6 =>
   optK (bin2 Tryz.prog .gtr 3 a1 v30n6) fun v31n7 =>
   ifV v31n7 (
    (inside (zaac Tryz.prog gt lf d 8 #[])).bind fun v38n8 =>
    outK [v38n8]) (
    (inside (zaac Tryz.prog gt lf d 23 #[a2])).bind fun v35n9 =>
    optK (un2 Tryz.prog .not v35n9) fun v36n10 =>
    ifV v36n10 (
     (inside (zaac Tryz.prog gt lf d 8 #[])).bind fun v38n11 =>
     outK [v38n11]) (
     (inside (zaac Tryz.prog gt lf d 28 #[a2])).bind fun v41n12 =>
     optK (evExtract v41n12 0) fun v42n13 =>
     optK (evExtract v41n12 1) fun v43n14 =>
     zabo Tryz.prog 9 a0 none (some a1) none fun v46n15 =>
     (inside (zaac Tryz.prog gt lf d 20 #[v46n15])).bind fun v47n16 =>
     (inside (zaac Tryz.prog gt lf d 26 #[a0])).bind fun v49n17 =>
     optK (len2 Tryz.prog #[9] [a0]) fun v52n18 =>
     optK (bin2 Tryz.prog .mul 3 (Value.int .i64 8) v52n18) fun v53n19 =>
     (inside (zaac Tryz.prog gt lf d 25 #[v49n17, a2, v53n19])).bind fun v54n20 =>
     (inside (evAlloc Tryz.prog 49)).bind fun v10n21 =>
     (inside (evStore Tryz.prog 49 v10n21 v54n20)).bind fun u22 =>
     optK (bin2 Tryz.prog .neq 29 v43n14 (Value.int .i64 0)) fun v56n23 =>
     ifV v56n23 (
      outK [(Value.bool false)]) (
      optK (len2 Tryz.prog #[9] [a0]) fun v58n24 =>
      optK (bin2 Tryz.prog .mul 3 (Value.int .i64 8) v58n24) fun v59n25 =>
      optK (bin2 Tryz.prog .add 3 v59n25 (Value.int .i64 40)) fun v60n26 =>
      zacc lf d lf (zadf lf d) a0 a1 a2 (Value.bool false) v42n13 v43n14 v47n16 v10n21 (Value.bool false) (Value.slice none 0 0) v36n10 v56n23 v60n26 (Value.int .i64 0))))))
theorem zazd (lf d : Nat) (a0 a1 a2 : Value) : zaac Tryz.prog gt lf (d + 1) 6 #[a0, a1, a2] = inside (zanu lf d a0 a1 a2) := by kernel_rfl
theorem zaux (lf d fu : Nat) (k : Ex → Fr → M Value) (x0 x1 x2 x6 x7 x8 x9 x10 x11 x12 x37 x56 x60 x61 : Value) : zacc lf d (fu + 1) k x0 x1 x2 x6 x7 x8 x9 x10 x11 x12 x37 x56 x60 x61 =
 optK (bin2 Tryz.prog .lss 3 x61 x60) fun v62n27 =>
 ifV v62n27 (
  (inside (zaac Tryz.prog gt lf d 29 #[x7])).bind fun v64n28 =>
  ifV v64n28 (
   (inside (zaac Tryz.prog gt lf d 30 #[x7, x9])).bind fun v68n29 =>
   optK (evExtract v68n29 0) fun v69n30 =>
   optK (evExtract v68n29 1) fun v70n31 =>
   optK (evFieldAddr Tryz.prog 49 x10 3) fun v71n32 =>
   (timed (
    (inside (evLoad Tryz.prog 3 v71n32)).bind fun v72n34 => M.ret v72n34)).bind fun vtn33 =>
   optK (bin2 Tryz.prog .eql 3 vtn33.1 (Value.int .i64 0)) fun v73n35 =>
   ifV v73n35 (
    optK (bin2 Tryz.prog .eql 29 v70n31 (Value.int .i64 7)) fun v76n36 =>
    ifV v76n36 (
     (timed (
      (inside (zaac Tryz.prog gt lf d 24 #[x9])).bind fun v80n38 => M.ret v80n38)).bind fun vtn37 =>
     optK (evFieldAddr Tryz.prog 49 x10 1) fun v81n39 =>
     (timed (
      (inside (evLoad Tryz.prog 3 v81n39)).bind fun v82n41 => M.ret v82n41)).bind fun vtn40 =>
     optK (bin2 Tryz.prog .eql 3 vtn37.1 vtn40.1) fun v83n42 =>
     ifV v83n42 (
      (timed (
       (inside (zaac Tryz.prog gt lf d 31 #[x7])).bind fun v87n44 => M.ret v87n44)).bind fun vtn43 =>
      optK (evFieldAddr Tryz.prog 49 x10 2) fun v88n45 =>
      (timed (
       (inside (evLoad Tryz.prog 3 v88n45)).bind fun v89n47 => M.ret v89n47)).bind fun vtn46 =>
      optK (bin2 Tryz.prog .eql 3 vtn43.1 vtn46.1) fun v90n48 =>
      ifV v90n48 (
       (timed (
        (inside (zaac Tryz.prog gt lf d 32 #[x7])).bind fun v94n50 => M.ret v94n50)).bind fun vtn49 =>
       optK (len2 Tryz.prog #[22] [x12]) fun v96n51 =>
       optK (bin2 Tryz.prog .eql 3 vtn49.1 v96n51) fun v97n52 =>
       ifV v97n52 (
        optK (evFieldAddr Tryz.prog 49 x10 0) fun v101n53 =>
        (timed (
         (inside (evLoad Tryz.prog 22 v101n53)).bind fun v102n55 => M.ret v102n55)).bind fun vtn54 =>
        (timed (
         (inside (zaac Tryz.prog gt lf d 27 #[x12, vtn54.1])).bind fun v103n57 => M.ret v103n57)).bind fun vtn56 =>
        ifV vtn56.1 (
         (timed (
          (inside (zaac Tryz.prog gt lf d 8 #[])).bind fun v106n59 => M.ret v106n59)).bind fun vtn58 =>
         chkT ((!(Tk.clash vtn37.2 vtn40.2) && true) && ((!(Tk.clash vtn43.2 vtn46.2) && true) && true)) (
          k Ex.ret [(0, x0), (1, x1), (2, x2), (6, vtn58.1), (7, x7), (8, x8), (9, x9), (10, x10), (11, x11), (12, x12), (14, v70n31), (37, x37), (56, x56), (60, x60), (61, x61), (62, v62n27), (64, v64n28)])) (
         (timed (M.ret undef)).bind fun vtn60 =>
         chkT ((!(Tk.clash vtn37.2 vtn40.2) && true) && ((!(Tk.clash vtn43.2 vtn46.2) && true) && true)) (
          k Ex.ret [(0, x0), (1, x1), (2, x2), (6, (Value.bool false)), (7, x7), (8, x8), (9, x9), (10, x10), (11, x11), (12, x12), (14, v70n31), (37, x37), (56, x56), (60, x60), (61, x61), (62, v62n27), (64, v64n28)]))) (
        (timed (M.ret undef)).bind fun vtn61 =>
        (timed (M.ret undef)).bind fun vtn62 =>
        (timed (M.ret undef)).bind fun vtn63 =>
        chkT ((!(Tk.clash vtn37.2 vtn40.2) && true) && ((!(Tk.clash vtn43.2 vtn46.2) && true) && true)) (
         k Ex.ret [(0, x0), (1, x1), (2, x2), (6, (Value.bool false)), (7, x7), (8, x8), (9, x9), (10, x10), (11, x11), (12, x12), (14, v70n31), (37, x37), (56, x56), (60, x60), (61, x61), (62, v62n27), (64, v64n28)]))) (
       (timed (M.ret undef)).bind fun vtn64 =>
       (timed (M.ret undef)).bind fun vtn65 =>
       (timed (M.ret undef)).bind fun vtn66 =>
       (timed (M.ret undef)).bind fun vtn67 =>
       chkT ((!(Tk.clash vtn37.2 vtn40.2) && true) && ((!(Tk.clash vtn43.2 vtn46.2) && true) && true)) (
        k Ex.ret [(0, x0), (1, x1), (2, x2), (6, (Value.bool false)), (7, x7), (8, x8), (9, x9), (10, x10), (11, x11), (12, x12), (14, v70n31), (37, x37), (56, x56), (60, x60), (61, x61), (62, v62n27), (64, v64n28)]))) (
      (timed (M.ret undef)).bind fun vtn68 =>
      (timed (M.ret undef)).bind fun vtn69 =>
      (timed (M.ret undef)).bind fun vtn70 =>
      (timed (M.ret undef)).bind fun vtn71 =>
      (timed (M.ret undef)).bind fun vtn72 =>
      (timed (M.ret undef)).bind fun vtn73 =>
      chkT ((!(Tk.clash vtn37.2 vtn40.2) && true) && ((!(Tk.clash vtn68.2 vtn69.2) && true) && true)) (
       k Ex.ret [(0, x0), (1, x1), (2, x2), (6, (Value.bool false)), (7, x7), (8, x8), (9, x9), (10, x10), (11, x11), (12, x12), (14, v70n31), (37, x37), (56, x56), (60, x60), (61, x61), (62, v62n27), (64, v64n28)]))) (
     (timed (M.ret undef)).bind fun vtn74 =>
     (timed (M.ret undef)).bind fun vtn75 =>
     (timed (M.ret undef)).bind fun vtn76 =>
     (timed (M.ret undef)).bind fun vtn77 =>
     (timed (M.ret undef)).bind fun vtn78 =>
     (timed (M.ret undef)).bind fun vtn79 =>
     (timed (M.ret undef)).bind fun vtn80 =>
     (timed (M.ret undef)).bind fun vtn81 =>
     chkT ((!(Tk.clash vtn74.2 vtn75.2) && true) && ((!(Tk.clash vtn76.2 vtn77.2) && true) && true)) (
      k Ex.ret [(0, x0), (1, x1), (2, x2), (6, (Value.bool false)), (7, x7), (8, x8), (9, x9), (10, x10), (11, x11), (12, x12), (14, v70n31), (37, x37), (56, x56), (60, x60), (61, x61), (62, v62n27), (64, v64n28)]))) (
    (timed (M.ret undef)).bind fun vtn82 =>
    (timed (M.ret undef)).bind fun vtn83 =>
    (timed (M.ret undef)).bind fun vtn84 =>
    (timed (M.ret undef)).bind fun vtn85 =>
    (timed (M.ret undef)).bind fun vtn86 =>
    (timed (M.ret undef)).bind fun vtn87 =>
    (timed (M.ret undef)).bind fun vtn88 =>
    (timed (M.ret undef)).bind fun vtn89 =>
    chkT ((!(Tk.clash vtn82.2 vtn83.2) && true) && ((!(Tk.clash vtn84.2 vtn85.2) && true) && true)) (
     k Ex.ret [(0, x0), (1, x1), (2, x2), (6, (Value.bool false)), (7, x7), (8, x8), (9, x9), (10, x10), (11, x11), (12, x12), (14, v70n31), (37, x37), (56, x56), (60, x60), (61, x61), (62, v62n27), (64, v64n28)]))) (
   (inside (zaac Tryz.prog gt lf d 24 #[x9])).bind fun v109n90 =>
   (inside (zaac Tryz.prog gt lf d 30 #[x7, x9])).bind fun v113n91 =>
   optK (evExtract v113n91 0) fun v114n92 =>
   optK (evExtract v113n91 1) fun v115n93 =>
   optK (bin2 Tryz.prog .eql 29 v115n93 (Value.int .i64 0)) fun v149n94 =>
   ifV v149n94 (
    optK (bin2 Tryz.prog .geq 3 v114n92 (Value.int .i64 0)) fun v151n95 =>
    ifV v151n95 (
     (inside (evBuildSlice Tryz.prog 22 1 [(0, v114n92)])).bind fun v154n96 =>
     (inside (evAppend Tryz.prog 22 x12 v154n96)).bind fun v155n97 =>
     optK (bin2 Tryz.prog .add 3 x61 (Value.int .i64 1)) fun v180n98 =>
     zacc lf d fu k x0 x1 x2 x6 x7 x8 x9 x10 x11 v155n97 x37 x56 x60 v180n98) (
     optK (bin2 Tryz.prog .neq 3 v114n92 (Value.int .i64 (-1))) fun v157n99 =>
     ifV v157n99 (
      k Ex.ret [(0, x0), (1, x1), (2, x2), (6, (Value.bool false)), (7, x7), (8, x8), (9, x9), (10, x10), (11, x11), (12, x12), (15, v109n90), (16, v114n92), (17, v115n93), (37, x37), (56, x56), (60, x60), (61, x61), (62, v62n27), (64, v64n28), (116, v115n93), (148, v149n94), (151, v151n95), (157, v157n99)]) (
      optK (bin2 Tryz.prog .add 3 x61 (Value.int .i64 1)) fun v180n100 =>
      zacc lf d fu k x0 x1 x2 x6 x7 x8 x9 x10 x11 x12 x37 x56 x60 v180n100))) (
    optK (bin2 Tryz.prog .eql 29 v115n93 (Value.int .i64 3)) fun v159n101 =>
    ifV v159n101 (
     (inside (zaac Tryz.prog gt lf d 24 #[x9])).bind fun v161n102 =>
     optK (bin2 Tryz.prog .neq 3 v161n102 v109n90) fun v163n103 =>
     ifV v163n103 (
      k Ex.ret [(0, x0), (1, x1), (2, x2), (6, (Value.bool false)), (7, x7), (8, x8), (9, x9), (10, x10), (11, x11), (12, x12), (15, v109n90), (16, v114n92), (17, v115n93), (37, x37), (56, x56), (60, x60), (61, x61), (62, v62n27), (64, v64n28), (116, v115n93), (148, v149n94), (158, v159n101), (167, (Value.bool true))]) (
      optK (bin2 Tryz.prog .neq 3 v114n92 (Value.int .i64 0)) fun v166n104 =>
      ifV v166n104 (
       k Ex.ret [(0, x0), (1, x1), (2, x2), (6, (Value.bool false)), (7, x7), (8, x8), (9, x9), (10, x10), (11, x11), (12, x12), (15, v109n90), (16, v114n92), (17, v115n93), (37, x37), (56, x56), (60, x60), (61, x61), (62, v62n27), (64, v64n28), (116, v115n93), (148, v149n94), (158, v159n101), (167, v166n104)]) (
       ifV x11 (
        optK (evFieldAddr Tryz.prog 49 x10 3) fun v169n105 =>
        (inside (evLoad Tryz.prog 3 v169n105)).bind fun v170n106 =>
        optK (bin2 Tryz.prog .eql 3 v170n106 (Value.int .i64 3)) fun v171n107 =>
        ifV v171n107 (
         (inside (zaac Tryz.prog gt lf d 8 #[])).bind fun v173n108 =>
         k Ex.ret [(0, x0), (1, x1), (2, x2), (6, v173n108), (7, x7), (8, x8), (9, x9), (10, x10), (11, x11), (12, x12), (15, v109n90), (16, v114n92), (17, v115n93), (37, x37), (56, x56), (60, x60), (61, x61), (62, v62n27), (64, v64n28), (116, v115n93), (148, v149n94), (158, v159n101), (167, v166n104), (168, x11)]) (
         k Ex.ret [(0, x0), (1, x1), (2, x2), (6, (Value.bool false)), (7, x7), (8, x8), (9, x9), (10, x10), (11, x11), (12, x12), (15, v109n90), (16, v114n92), (17, v115n93), (37, x37), (56, x56), (60, x60), (61, x61), (62, v62n27), (64, v64n28), (116, v115n93), (148, v149n94), (158, v159n101), (167, v166n104), (168, x11)])) (
        zabo Tryz.prog 9 x0 (some x1) none none fun v178n109 =>
        (inside (zaac Tryz.prog gt lf d 33 #[x9, v178n109])).bind fun v179n110 =>
        optK (bin2 Tryz.prog .add 3 x61 (Value.int .i64 1)) fun v180n111 =>
        zacc lf d fu k x0 x1 x2 x6 x7 x8 x9 x10 (Value.bool true) x12 x37 x56 x60 v180n111)))) (
     (inside (zaac Tryz.prog gt lf d 24 #[x9])).bind fun v118n112 =>
     (inside (zaac Tryz.prog gt lf d 30 #[x7, x9])).bind fun v122n113 =>
     optK (evExtract v122n113 0) fun v123n114 =>
     optK (evExtract v122n113 1) fun v124n115 =>
     optK (evFieldAddr Tryz.prog 49 x10 3) fun v126n116 =>
     (inside (evLoad Tryz.prog 3 v126n116)).bind fun v127n117 =>
     optK (bin2 Tryz.prog .eql 3 v115n93 v127n117) fun v128n118 =>
     ifV v128n118 (
      optK (bin2 Tryz.prog .eql 29 v124n115 v115n93) fun v132n119 =>
      ifV v132n119 (
       (inside (zaac Tryz.prog gt lf d 24 #[x9])).bind fun v136n120 =>
       optK (bin2 Tryz.prog .eql 3 v136n120 v118n112) fun v138n121 =>
       ifV v138n121 (
        (inside (zaac Tryz.prog gt lf d 29 #[x7])).bind fun v142n122 =>
        optK (un2 Tryz.prog .not v142n122) fun v143n123 =>
        ifV v143n123 (
         (inside (zaac Tryz.prog gt lf d 8 #[])).bind fun v146n124 =>
         k Ex.ret [(0, x0), (1, x1), (2, x2), (6, v146n124), (7, x7), (8, x8), (9, x9), (10, x10), (11, x11), (12, x12), (15, v118n112), (16, v114n92), (17, v115n93), (19, v124n115), (37, x37), (56, x56), (60, x60), (61, x61), (62, v62n27), (64, v64n28), (116, v115n93), (148, v149n94), (158, v159n101)]) (
         k Ex.ret [(0, x0), (1, x1), (2, x2), (6, (Value.bool false)), (7, x7), (8, x8), (9, x9), (10, x10), (11, x11), (12, x12), (15, v118n112), (16, v114n92), (17, v115n93), (19, v124n115), (37, x37), (56, x56), (60, x60), (61, x61), (62, v62n27), (64, v64n28), (116, v115n93), (148, v149n94), (158, v159n101)])) (
        k Ex.ret [(0, x0), (1, x1), (2, x2), (6, (Value.bool false)), (7, x7), (8, x8), (9, x9), (10, x10), (11, x11), (12, x12), (15, v118n112), (16, v114n92), (17, v115n93), (19, v124n115), (37, x37), (56, x56), (60, x60), (61, x61), (62, v62n27), (64, v64n28), (116, v115n93), (148, v149n94), (158, v159n101)])) (
       k Ex.ret [(0, x0), (1, x1), (2, x2), (6, (Value.bool false)), (7, x7), (8, x8), (9, x9), (10, x10), (11, x11), (12, x12), (15, v118n112), (16, v114n92), (17, v115n93), (19, v124n115), (37, x37), (56, x56), (60, x60), (61, x61), (62, v62n27), (64, v64n28), (116, v115n93), (148, v149n94), (158, v159n101)])) (
      k Ex.ret [(0, x0), (1, x1), (2, x2), (6, (Value.bool false)), (7, x7), (8, x8), (9, x9), (10, x10), (11, x11), (12, x12), (15, v118n112), (16, v114n92), (17, v115n93), (19, v124n115), (37, x37), (56, x56), (60, x60), (61, x61), (62, v62n27), (64, v64n28), (116, v115n93), (148, v149n94), (158, v159n101)]))))) (
  k (Ex.exit 0) [(0, x0), (1, x1), (2, x2), (6, x6), (7, x7), (8, x8), (9, x9), (10, x10), (11, x11), (12, x12), (37, x37), (56, x56), (60, x60), (61, x61), (62, v62n27)]) := by kernel_rfl
theorem zawn (lf d : Nat) (y0 y1 y2 y6 y7 y8 y9 y10 y11 y12 y14 y37 y56 y60 y61 y62 y64 : Value) : zadf lf d Ex.ret [(0, y0), (1, y1), (2, y2), (6, y6), (7, y7), (8, y8), (9, y9), (10, y10), (11, y11), (12, y12), (14, y14), (37, y37), (56, y56), (60, y60), (61, y61), (62, y62), (64, y64)] =
 outK [y6] := by kernel_rfl
theorem zaws (lf d : Nat) (y0 y1 y2 y6 y7 y8 y9 y10 y11 y12 y15 y16 y17 y37 y56 y60 y61 y62 y64 y116 y148 y158 y167 y168 : Value) : zadf lf d Ex.ret [(0, y0), (1, y1), (2, y2), (6, y6), (7, y7), (8, y8), (9, y9), (10, y10), (11, y11), (12, y12), (15, y15), (16, y16), (17, y17), (37, y37), (56, y56), (60, y60), (61, y61), (62, y62), (64, y64), (116, y116), (148, y148), (158, y158), (167, y167), (168, y168)] =
 outK [y6] := by kernel_rfl
theorem zawq (lf d : Nat) (y0 y1 y2 y6 y7 y8 y9 y10 y11 y12 y15 y16 y17 y19 y37 y56 y60 y61 y62 y64 y116 y148 y158 : Value) : zadf lf d Ex.ret [(0, y0), (1, y1), (2, y2), (6, y6), (7, y7), (8, y8), (9, y9), (10, y10), (11, y11), (12, y12), (15, y15), (16, y16), (17, y17), (19, y19), (37, y37), (56, y56), (60, y60), (61, y61), (62, y62), (64, y64), (116, y116), (148, y148), (158, y158)] =
 outK [y6] := by kernel_rfl
noncomputable def zarv (lf d fu : Nat) (k : Ex → Fr → M Value) (x0 x1 x2 x6 x8 x11 x16 x17 : Value) : M Value := loopK (fun s1 k1 => codeK Tryz.prog (zaac Tryz.prog gt lf d) (gt 10) lf (codeAt (bodyOf Tryz.prog 10) [true, true, false, true, false, false]) s1 k1) [0, 1, 2, 6, 8, 11, 16, 17] fu [(0, x0), (1, x1), (2, x2), (6, x6), (8, x8), (11, x11), (16, x16), (17, x17)] k
noncomputable def zahg (lf d : Nat) : Ex → Fr → M Value := contAt Tryz.prog (zaac Tryz.prog gt lf d) (gt 10) lf (bodyOf Tryz.prog 10) [true, true, false, true, false] (endK Tryz.prog (resOf Tryz.prog 10))
noncomputable def zbbt (lf d fu : Nat) (k : Ex → Fr → M Value) (x0 x1 x2 x6 x7 x8 x9 x17 x25 x35 x36 x37 : Value) : M Value := loopK (fun s1 k1 => codeK Tryz.prog (zaac Tryz.prog gt lf d) (gt 11) lf (codeAt (bodyOf Tryz.prog 11) [true, true, true, true, true, true, false, true, false, false]) s1 k1) [0, 1, 2, 6, 7, 8, 9, 17, 25, 35, 36, 37] fu [(0, x0), (1, x1), (2, x2), (6, x6), (7, x7), (8, x8), (9, x9), (17, x17), (25, x25), (35, x35), (36, x36), (37, x37)] k
noncomputable def zams (lf d : Nat) : Ex → Fr → M Value := contAt Tryz.prog (zaac Tryz.prog gt lf d) (gt 11) lf (bodyOf Tryz.prog 11) [true, true, true, true, true, true, false, true, false] (endK Tryz.prog (resOf Tryz.prog 11))
noncomputable def zbbr (lf d fu : Nat) (k : Ex → Fr → M Value) (x0 x1 x2 x6 x7 x8 x9 x17 x25 x35 x36 x37 x38 x54 x55 x56 : Value) : M Value := loopK (fun s1 k1 => codeK Tryz.prog (zaac Tryz.prog gt lf d) (gt 11) lf (codeAt (bodyOf Tryz.prog 11) [true, true, true, true, true, true, true, false, true, false, false]) s1 k1) [0, 1, 2, 6, 7, 8, 9, 17, 25, 35, 36, 37, 38, 54, 55, 56] fu [(0, x0), (1, x1), (2, x2), (6, x6), (7, x7), (8, x8), (9, x9), (17, x17), (25, x25), (35, x35), (36, x36), (37, x37), (38, x38), (54, x54), (55, x55), (56, x56)] k
noncomputable def zamq (lf d : Nat) : Ex → Fr → M Value := contAt Tryz.prog (zaac Tryz.prog gt lf d) (gt 11) lf (bodyOf Tryz.prog 11) [true, true, true, true, true, true, true, false, true, false] (endK Tryz.prog (resOf Tryz.prog 11))
noncomputable def zbfn (lf d fu : Nat) (k : Ex → Fr → M Value) (x0 x1 x4 x5 x6 x7 x8 x23 x35 x36 x37 : Value) : M Value := loopK (fun s1 k1 => codeK Tryz.prog (zaac Tryz.prog gt lf d) (gt 12) lf (codeAt (bodyOf Tryz.prog 12) [true, true, true, true, false, true, false, false]) s1 k1) [0, 1, 4, 5, 6, 7, 8, 23, 35, 36, 37] fu [(0, x0), (1, x1), (4, x4), (5, x5), (6, x6), (7, x7), (8, x8), (23, x23), (35, x35), (36, x36), (37, x37)] k
noncomputable def zaoh (lf d : Nat) : Ex → Fr → M Value := contAt Tryz.prog (zaac Tryz.prog gt lf d) (gt 12) lf (bodyOf Tryz.prog 12) [true, true, true, true, false, true, false] (endK Tryz.prog (resOf Tryz.prog 12))
noncomputable def zasg (lf d fu : Nat) (k : Ex → Fr → M Value) (x0 : Value) : M Value := loopK (fun s1 k1 => codeK Tryz.prog (zaac Tryz.prog gt lf d) (gt 16) lf (codeAt (bodyOf Tryz.prog 16) [false, false]) s1 k1) [0] fu [(0, x0)] k
noncomputable def zahd (lf d : Nat) : Ex → Fr → M Value := contAt Tryz.prog (zaac Tryz.prog gt lf d) (gt 16) lf (bodyOf Tryz.prog 16) [false] (endK Tryz.prog (resOf Tryz.prog 16))
noncomputable def zagl (lf d fu : Nat) (k : Ex → Fr → M Value) (x0 x1 x4 x5 x6 x7 : Value) : M Value := loopK (fun s1 k1 => codeK Tryz.prog (zaac Tryz.prog gt lf d) (gt 19) lf (codeAt (bodyOf Tryz.prog 19) [true, true, false, true, false, false]) s1 k1) [0, 1, 4, 5, 6, 7] fu [(0, x0), (1, x1), (4, x4), (5, x5), (6, x6), (7, x7)] k
noncomputable def zajf (lf d : Nat) : Ex → Fr → M Value := contAt Tryz.prog (zaac Tryz.prog gt lf d) (gt 19) lf (bodyOf Tryz.prog 19) [true, true, false, true, false] (endK Tryz.prog (resOf Tryz.prog 19))
noncomputable def zaun (lf d : Nat) (a0 a1 : Value) : M Value :=
 zagl lf d lf (zajf lf d) a0 a1 (Value.string { data := #[] }) (Value.string { data := #[] }) a1 (Value.int .i64 0)
theorem zbgw (lf d : Nat) (a0 a1 : Value) : zaac Tryz.prog gt lf (d + 1) 19 #[a0, a1] = inside (zaun lf d a0 a1) := by kernel_rfl
theorem zanw (lf d fu : Nat) (k : Ex → Fr → M Value) (x0 x1 x4 x5 x6 x7 : Value) : zagl lf d (fu + 1) k x0 x1 x4 x5 x6 x7 =
 optK (bin2 Tryz.prog .lss 3 x7 x6) fun v8n1 =>
 ifV v8n1 (
  optK (bin2 Tryz.prog .rem 23 x0 (Value.int .u32 2)) fun v10n2 =>
  optK (bin2 Tryz.prog .rem 23 x0 (Value.int .u32 2)) fun v12n3 =>
  optK (bin2 Tryz.prog .add 23 v12n3 (Value.int .u32 1)) fun v13n4 =>
  zabo Tryz.prog 9 (Value.string { data := #[48, 49] }) (some v10n2) (some v13n4) none fun v14n5 =>
  optK (bin2 Tryz.prog .add 9 v14n5 x5) fun v16n6 =>
  optK (bin2 Tryz.prog .quo 23 x0 (Value.int .u32 2)) fun v18n7 =>
  optK (bin2 Tryz.prog .add 3 x7 (Value.int .i64 1)) fun v19n8 =>
  zagl lf d fu k v18n7 x1 x4 v16n6 x6 v19n8) (
  k (Ex.exit 0) [(0, x0), (1, x1), (4, x4), (5, x5), (6, x6), (7, x7), (8, v8n1)]) := by kernel_rfl
theorem zbcd (lf d : Nat) (y0 y1 y4 y5 y6 y7 y8 : Value) : zajf lf d (Ex.exit 0) [(0, y0), (1, y1), (4, y4), (5, y5), (6, y6), (7, y7), (8, y8)] =
 outK [y5] := by kernel_rfl

noncomputable def zayw (lf d : Nat) (a0 : Value) : M Value :=
 (inside (evBuild Tryz.prog 85 [(0, a0)])).bind fun v4n1 =>
 (inside (evBox Tryz.prog 85 v4n1)).bind fun v5n2 =>
 outK [v5n2]
theorem zbjy (lf d : Nat) (a0 : Value) : zaac Tryz.prog gt lf (d + 1) 20 #[a0] = inside (zayw lf d a0) := by kernel_rfl

noncomputable def zaur (lf d : Nat) (a0 a1 : Value) : M Value :=
 optK (bin2 Tryz.prog .eql 42 a0 (Value.pointer none)) fun v7n1 =>
 ifV v7n1 (
  outK [(Value.int .i64 7)]) (
  optK (nil2 a0) fun v11n2 =>
  optK (evFieldAddr Tryz.prog 85 v11n2 1) fun v12n3 =>
  (inside (evLoad Tryz.prog 3 v12n3)).bind fun v13n4 =>
  optK (bin2 Tryz.prog .mul 3 (Value.int .i64 8) v13n4) fun v14n5 =>
  optK (bin2 Tryz.prog .lss 3 a1 v14n5) fun v15n6 =>
  ifV v15n6 (
   outK [(Value.int .i64 1)]) (
   (inside (zaac Tryz.prog gt lf d 51 #[a0])).bind fun v19n7 =>
   optK (bin2 Tryz.prog .gtr 3 a1 v19n7) fun v20n8 =>
   ifV v20n8 (
    outK [(Value.int .i64 1)]) (
    optK (nil2 a0) fun v24n9 =>
    optK (evFieldAddr Tryz.prog 85 v24n9 2) fun v25n10 =>
    (inside (evStore Tryz.prog 3 v25n10 a1)).bind fun u11 =>
    outK [(Value.int .i64 0)])))
theorem zbgk (lf d : Nat) (a0 a1 : Value) : zaac Tryz.prog gt lf (d + 1) 21 #[a0, a1] = inside (zaur lf d a0 a1) := by kernel_rfl

noncomputable def zayu (lf d : Nat) (a0 : Value) : M Value :=
 optK (bin2 Tryz.prog .eql 42 a0 (Value.pointer none)) fun v4n1 =>
 ifV v4n1 (
  outK [(Value.int .i64 0)]) (
  optK (nil2 a0) fun v6n2 =>
  optK (evFieldAddr Tryz.prog 85 v6n2 2) fun v7n3 =>
  (inside (evLoad Tryz.prog 3 v7n3)).bind fun v8n4 =>
  outK [v8n4])
theorem zbjo (lf d : Nat) (a0 : Value) : zaac Tryz.prog gt lf (d + 1) 24 #[a0] = inside (zayu lf d a0) := by kernel_rfl

noncomputable def zahi (lf d fu : Nat) (k : Ex → Fr → M Value) (x0 x1 x2 x6 x7 x8 x9 x10 x17 x31 : Value) : M Value := loopK (fun s1 k1 => codeK Tryz.prog (zaac Tryz.prog gt lf d) (gt 25) lf (codeAt (bodyOf Tryz.prog 25) [true, true, true, true, true, true, true, false, false]) s1 k1) [0, 1, 2, 6, 7, 8, 9, 10, 17, 31] fu [(0, x0), (1, x1), (2, x2), (6, x6), (7, x7), (8, x8), (9, x9), (10, x10), (17, x17), (31, x31)] k
noncomputable def zadw (lf d : Nat) : Ex → Fr → M Value := contAt Tryz.prog (zaac Tryz.prog gt lf d) (gt 25) lf (bodyOf Tryz.prog 25) [true, true, true, true, true, true, true, false] (endK Tryz.prog (resOf Tryz.prog 25))
noncomputable def zavy (lf d : Nat) (a0 a1 a2 : Value) : M Value :=
 (inside (evAlloc Tryz.prog 49)).bind fun v6n1 =>
 (inside (zaac Tryz.prog gt lf d 53 #[a0])).bind fun v14n2 =>
 (inside (evAlloc Tryz.prog 88)).bind fun v7n3 =>
 (inside (evStore Tryz.prog 88 v7n3 v14n2)).bind fun u4 =>
 optK (evFieldAddr Tryz.prog 88 v7n3 4) fun v15n5 =>
 (inside (evLoad Tryz.prog 3 v15n5)).bind fun v16n6 =>
 optK (bin2 Tryz.prog .neq 3 v16n6 (Value.int .i64 0)) fun v17n7 =>
 ifV v17n7 (
  optK (evFieldAddr Tryz.prog 88 v7n3 4) fun v18n8 =>
  (inside (evLoad Tryz.prog 3 v18n8)).bind fun v19n9 =>
  (inside (evBuild Tryz.prog 49 [(3, v19n9)])).bind fun v20n10 =>
  (inside (evStore Tryz.prog 49 v6n1 v20n10)).bind fun u11 =>
  (evLoad Tryz.prog 49 v6n1).bind fun vrn12 =>
  outK [vrn12]) (
  optK (evFieldAddr Tryz.prog 88 v7n3 2) fun v22n13 =>
  (timed (
   (inside (evLoad Tryz.prog 3 v22n13)).bind fun v23n15 => M.ret v23n15)).bind fun vtn14 =>
  (timed (
   zabo Tryz.prog 9 a0 (some vtn14.1) none none fun v24n17 => M.ret v24n17)).bind fun vtn16 =>
  optK (evFieldAddr Tryz.prog 88 v7n3 1) fun v25n18 =>
  (timed (
   (inside (evLoad Tryz.prog 3 v25n18)).bind fun v26n20 => M.ret v26n20)).bind fun vtn19 =>
  (timed (
   (inside (zaac Tryz.prog gt lf d 54 #[vtn16.1, vtn19.1, a1])).bind fun v28n22 => M.ret v28n22)).bind fun vtn21 =>
  (timed (
   (inside (evAlloc Tryz.prog 91)).bind fun v8n24 => M.ret v8n24)).bind fun vtn23 =>
  (timed (
   (inside (evStore Tryz.prog 91 vtn23.1 vtn21.1)).bind fun u26 => M.ret u26)).bind fun vtn25 =>
  chkT ((!(Tk.clash vtn21.2 vtn23.2) && true) && true) (
   optK (evFieldAddr Tryz.prog 91 vtn23.1 2) fun v29n27 =>
   (inside (evLoad Tryz.prog 3 v29n27)).bind fun v30n28 =>
   optK (bin2 Tryz.prog .neq 3 v30n28 (Value.int .i64 0)) fun v31n29 =>
   ifV v31n29 (
    optK (evFieldAddr Tryz.prog 91 vtn23.1 2) fun v32n30 =>
    (inside (evLoad Tryz.prog 3 v32n30)).bind fun v33n31 =>
    (inside (evBuild Tryz.prog 49 [(3, v33n31)])).bind fun v34n32 =>
    (inside (evStore Tryz.prog 49 v6n1 v34n32)).bind fun u33 =>
    (evLoad Tryz.prog 49 v6n1).bind fun vrn34 =>
    outK [vrn34]) (
    optK (evFieldAddr Tryz.prog 88 v7n3 2) fun v35n35 =>
    (inside (evLoad Tryz.prog 3 v35n35)).bind fun v36n36 =>
    optK (evFieldAddr Tryz.prog 91 vtn23.1 1) fun v37n37 =>
    (inside (evLoad Tryz.prog 3 v37n37)).bind fun v38n38 =>
    optK (bin2 Tryz.prog .add 3 v36n36 v38n38) fun v39n39 =>
    zahi lf d lf (zadw lf d) a0 a1 a2 v6n1 v7n3 vtn23.1 v39n39 (Value.slice none 0 0) v17n7 v31n29)))
theorem zbhb (lf d : Nat) (a0 a1 a2 : Value) : zaac Tryz.prog gt lf (d + 1) 25 #[a0, a1, a2] = inside (zavy lf d a0 a1 a2) := by kernel_rfl
theorem zbbp (lf d fu : Nat) (k : Ex → Fr → M Value) (x0 x1 x2 x6 x7 x8 x9 x10 x17 x31 : Value) : zahi lf d (fu + 1) k x0 x1 x2 x6 x7 x8 x9 x10 x17 x31 =
 optK (len2 Tryz.prog #[22] [x10]) fun v41n40 =>
 optK (bin2 Tryz.prog .quo 3 v41n40 (Value.int .i64 50)) fun v42n41 =>
 optK (evFieldAddr Tryz.prog 88 x7 0) fun v43n42 =>
 (inside (evLoad Tryz.prog 22 v43n42)).bind fun v44n43 =>
 optK (len2 Tryz.prog #[22] [v44n43]) fun v45n44 =>
 optK (bin2 Tryz.prog .geq 3 v42n41 v45n44) fun v46n45 =>
 ifV v46n45 (
  (inside (evBuild Tryz.prog 49 [(3, (Value.int .i64 25))])).bind fun v47n46 =>
  (inside (evStore Tryz.prog 49 x6 v47n46)).bind fun u47 =>
  k Ex.ret [(0, x0), (1, x1), (2, x2), (6, x6), (7, x7), (8, x8), (9, x9), (10, x10), (17, x17), (31, x31), (46, v46n45)]) (
  optK (evFieldAddr Tryz.prog 91 x8 0) fun v48n48 =>
  (inside (evLoad Tryz.prog 80 v48n48)).bind fun v49n49 =>
  optK (evFieldAddr Tryz.prog 88 x7 0) fun v50n50 =>
  (inside (evLoad Tryz.prog 22 v50n50)).bind fun v51n51 =>
  optK (len2 Tryz.prog #[22] [x10]) fun v53n52 =>
  optK (bin2 Tryz.prog .quo 3 v53n52 (Value.int .i64 50)) fun v54n53 =>
  optK (evIndexAddr Tryz.prog 22 v51n51 v54n53) fun v55n54 =>
  (inside (evLoad Tryz.prog 3 v55n54)).bind fun v56n55 =>
  optK (evIndexAddr Tryz.prog 80 v49n49 v56n55) fun v57n56 =>
  (inside (evLoad Tryz.prog 82 v57n56)).bind fun v58n57 =>
  zabo Tryz.prog 9 x0 (some x9) none none fun v62n58 =>
  (inside (zaac Tryz.prog gt lf d 55 #[v58n57, v62n58])).bind fun v63n59 =>
  optK (bin2 Tryz.prog .lss 3 v63n59 (Value.int .i64 0)) fun v65n60 =>
  ifV v65n60 (
   (inside (evBuild Tryz.prog 49 [(3, (Value.int .i64 3))])).bind fun v66n61 =>
   (inside (evStore Tryz.prog 49 x6 v66n61)).bind fun u62 =>
   k Ex.ret [(0, x0), (1, x1), (2, x2), (6, x6), (7, x7), (8, x8), (9, x9), (10, x10), (11, v58n57), (12, v63n59), (17, x17), (31, x31), (46, v46n45), (65, v65n60)]) (
   optK (len2 Tryz.prog #[22] [x10]) fun v68n63 =>
   optK (bin2 Tryz.prog .eql 3 v68n63 x2) fun v70n64 =>
   ifV v70n64 (
    (inside (evBuild Tryz.prog 49 [(3, (Value.int .i64 2))])).bind fun v71n65 =>
    (inside (evStore Tryz.prog 49 x6 v71n65)).bind fun u66 =>
    k Ex.ret [(0, x0), (1, x1), (2, x2), (6, x6), (7, x7), (8, x8), (9, x9), (10, x10), (11, v58n57), (12, v63n59), (17, x17), (31, x31), (46, v46n45), (65, v65n60), (70, v70n64)]) (
    optK (evIndexAddr Tryz.prog 82 v58n57 v63n59) fun v75n67 =>
    (inside (evLoad Tryz.prog 9 v75n67)).bind fun v76n68 =>
    optK (len2 Tryz.prog #[9] [v76n68]) fun v77n69 =>
    optK (bin2 Tryz.prog .add 3 x9 v77n69) fun v78n70 =>
    (inside (evBuildSlice Tryz.prog 22 1 [(0, v63n59)])).bind fun v81n71 =>
    (inside (evAppend Tryz.prog 22 x10 v81n71)).bind fun v82n72 =>
    optK (bin2 Tryz.prog .sub 3 x1 (Value.int .i64 1)) fun v85n73 =>
    optK (bin2 Tryz.prog .eql 3 v63n59 v85n73) fun v86n74 =>
    ifV v86n74 (
     optK (evFieldAddr Tryz.prog 88 x7 0) fun v89n75 =>
     (inside (evLoad Tryz.prog 22 v89n75)).bind fun v90n76 =>
     optK (len2 Tryz.prog #[22] [v90n76]) fun v91n77 =>
     optK (evFieldAddr Tryz.prog 88 x7 1) fun v92n78 =>
     (inside (evLoad Tryz.prog 3 v92n78)).bind fun v93n79 =>
     optK (bin2 Tryz.prog .mul 3 v93n79 x1) fun v95n80 =>
     optK (bin2 Tryz.prog .add 3 v91n77 v95n80) fun v96n81 =>
     (inside (evBuild Tryz.prog 49 [(0, v82n72), (1, v78n70), (2, v96n81)])).bind fun v97n82 =>
     (inside (evStore Tryz.prog 49 x6 v97n82)).bind fun u83 =>
     k Ex.ret [(0, x0), (1, x1), (2, x2), (6, x6), (7, x7), (8, x8), (9, v78n70), (10, v82n72), (11, v58n57), (12, v63n59), (17, x17), (31, x31), (46, v46n45), (65, v65n60), (70, v70n64), (86, v86n74)]) (
     zahi lf d fu k x0 x1 x2 x6 x7 x8 v78n70 v82n72 x17 x31)))) := by kernel_rfl
theorem zbcy (lf d : Nat) (y0 y1 y2 y6 y7 y8 y9 y10 y17 y31 y46 : Value) : zadw lf d Ex.ret [(0, y0), (1, y1), (2, y2), (6, y6), (7, y7), (8, y8), (9, y9), (10, y10), (17, y17), (31, y31), (46, y46)] =
 (evLoad Tryz.prog 49 y6).bind fun vrn84 =>
 outK [vrn84] := by kernel_rfl
theorem zbeo (lf d : Nat) (y0 y1 y2 y6 y7 y8 y9 y10 y11 y12 y17 y31 y46 y65 : Value) : zadw lf d Ex.ret [(0, y0), (1, y1), (2, y2), (6, y6), (7, y7), (8, y8), (9, y9), (10, y10), (11, y11), (12, y12), (17, y17), (31, y31), (46, y46), (65, y65)] =
 (evLoad Tryz.prog 49 y6).bind fun vrn85 =>
 outK [vrn85] := by kernel_rfl
theorem zbdm (lf d : Nat) (y0 y1 y2 y6 y7 y8 y9 y10 y11 y12 y17 y31 y46 y65 y70 : Value) : zadw lf d Ex.ret [(0, y0), (1, y1), (2, y2), (6, y6), (7, y7), (8, y8), (9, y9), (10, y10), (11, y11), (12, y12), (17, y17), (31, y31), (46, y46), (65, y65), (70, y70)] =
 (evLoad Tryz.prog 49 y6).bind fun vrn86 =>
 outK [vrn86] := by kernel_rfl
theorem zbdk (lf d : Nat) (y0 y1 y2 y6 y7 y8 y9 y10 y11 y12 y17 y31 y46 y65 y70 y86 : Value) : zadw lf d Ex.ret [(0, y0), (1, y1), (2, y2), (6, y6), (7, y7), (8, y8), (9, y9), (10, y10), (11, y11), (12, y12), (17, y17), (31, y31), (46, y46), (65, y65), (70, y70), (86, y86)] =
 (evLoad Tryz.prog 49 y6).bind fun vrn87 =>
 outK [vrn87] := by kernel_rfl

noncomputable def zahh (lf d fu : Nat) (k : Ex → Fr → M Value) (x0 x2 x3 x4 : Value) : M Value := loopK (fun s1 k1 => codeK Tryz.prog (zaac Tryz.prog gt lf d) (gt 26) lf (codeAt (bodyOf Tryz.prog 26) [true, true, false, true, false, false]) s1 k1) [0, 2, 3, 4] fu [(0, x0), (2, x2), (3, x3), (4, x4)] k
noncomputable def zakf (lf d : Nat) : Ex → Fr → M Value := contAt Tryz.prog (zaac Tryz.prog gt lf d) (gt 26) lf (bodyOf Tryz.prog 26) [true, true, false, true, false] (endK Tryz.prog (resOf Tryz.prog 26))
noncomputable def zawc (lf d : Nat) (a0 : Value) : M Value :=
 zahh lf d lf (zakf lf d) a0 (Value.string { data := #[] }) (Value.string { data := #[] }) (Value.int .i64 0)
theorem zbip (lf d : Nat) (a0 : Value) : zaac Tryz.prog gt lf (d + 1) 26 #[a0] = inside (zawc lf d a0) := by kernel_rfl
theorem zapg (lf d fu : Nat) (k : Ex → Fr → M Value) (x0 x2 x3 x4 : Value) : zahh lf d (fu + 1) k x0 x2 x3 x4 =
 optK (len2 Tryz.prog #[9] [x0]) fun v7n1 =>
 optK (bin2 Tryz.prog .lss 3 x4 v7n1) fun v8n2 =>
 ifV v8n2 (
  optK (zaee Tryz.prog 9 x0 x4) fun v14n3 =>
  conv2 Tryz.prog 5 23 v14n3 fun v15n4 =>
  (inside (zaac Tryz.prog gt lf d 19 #[v15n4, (Value.int .i64 8)])).bind fun v16n5 =>
  optK (bin2 Tryz.prog .add 9 x3 v16n5) fun v17n6 =>
  optK (bin2 Tryz.prog .add 3 x4 (Value.int .i64 1)) fun v10n7 =>
  zahh lf d fu k x0 x2 v17n6 v10n7) (
  k (Ex.exit 0) [(0, x0), (2, x2), (3, x3), (4, x4), (8, v8n2)]) := by kernel_rfl
theorem zbdj (lf d : Nat) (y0 y2 y3 y4 y8 : Value) : zakf lf d (Ex.exit 0) [(0, y0), (2, y2), (3, y3), (4, y4), (8, y8)] =
 outK [y3] := by kernel_rfl

noncomputable def zayx (lf d : Nat) (a0 : Value) : M Value :=
 (inside (zaac Tryz.prog gt lf d 56 #[a0])).bind fun v8n1 =>
 optK (evExtract v8n1 0) fun v9n2 =>
 optK (evExtract v8n1 1) fun v10n3 =>
 optK (bin2 Tryz.prog .neq 29 v10n3 (Value.int .i64 0)) fun v12n4 =>
 ifV v12n4 (
  outK [(Value.pointer none), v10n3]) (
  (inside (zaac Tryz.prog gt lf d 57 #[])).bind fun v15n5 =>
  (inside (evBuild Tryz.prog 100 [(0, a0), (1, v15n5), (3, v9n2)])).bind fun v17n6 =>
  (inside (evBox Tryz.prog 100 v17n6)).bind fun v18n7 =>
  outK [v18n7, (Value.int .i64 0)])
theorem zbjn (lf d : Nat) (a0 : Value) : zaac Tryz.prog gt lf (d + 1) 28 #[a0] = inside (zayx lf d a0) := by kernel_rfl

noncomputable def zaue (lf d : Nat) (a0 : Value) : M Value :=
 optK (bin2 Tryz.prog .neq 54 a0 (Value.pointer none)) fun v4n1 =>
 ifV v4n1 (
  optK (nil2 a0) fun v7n2 =>
  optK (evFieldAddr Tryz.prog 100 v7n2 6) fun v8n3 =>
  (inside (evLoad Tryz.prog 4 v8n3)).bind fun v9n4 =>
  outK [v9n4]) (
  outK [(Value.bool false)])
theorem zbgc (lf d : Nat) (a0 : Value) : zaac Tryz.prog gt lf (d + 1) 29 #[a0] = inside (zaue lf d a0) := by kernel_rfl

noncomputable def zamb (lf d : Nat) (a0 a1 : Value) : M Value :=
 optK (bin2 Tryz.prog .eql 54 a0 (Value.pointer none)) fun v11n1 =>
 ifV v11n1 (
  outK [(Value.int .i64 0), (Value.int .i64 7)]) (
  optK (bin2 Tryz.prog .eql 42 a1 (Value.pointer none)) fun v14n2 =>
  ifV v14n2 (
   outK [(Value.int .i64 0), (Value.int .i64 7)]) (
   optK (nil2 a0) fun v18n3 =>
   optK (evFieldAddr Tryz.prog 100 v18n3 6) fun v19n4 =>
   (inside (evLoad Tryz.prog 4 v19n4)).bind fun v20n5 =>
   ifV v20n5 (
    outK [(Value.int .i64 0), (Value.int .i64 7)]) (
    optK (nil2 a0) fun v24n6 =>
    optK (evFieldAddr Tryz.prog 100 v24n6 7) fun v25n7 =>
    (inside (evLoad Tryz.prog 29 v25n7)).bind fun v26n8 =>
    optK (bin2 Tryz.prog .neq 29 v26n8 (Value.int .i64 0)) fun v27n9 =>
    ifV v27n9 (
     optK (nil2 a0) fun v29n10 =>
     optK (evFieldAddr Tryz.prog 100 v29n10 7) fun v30n11 =>
     (inside (evLoad Tryz.prog 29 v30n11)).bind fun v31n12 =>
     outK [(Value.int .i64 0), v31n12]) (
     optK (nil2 a0) fun v36n13 =>
     optK (evFieldAddr Tryz.prog 100 v36n13 1) fun v37n14 =>
     (inside (evLoad Tryz.prog 97 v37n14)).bind fun v38n15 =>
     (inside (zaac Tryz.prog gt lf d 59 #[v38n15])).bind fun v39n16 =>
     optK (un2 Tryz.prog .not v39n16) fun v40n17 =>
     ifV v40n17 (
      callV Tryz.prog (zaac Tryz.prog gt lf d) (Value.func (Go.Fn.func 60) #[a0] #[]) [a1] fun v60n18 =>
      optK (evExtract v60n18 0) fun v61n19 =>
      optK (evExtract v60n18 1) fun v62n20 =>
      optK (bin2 Tryz.prog .eql 29 v62n20 (Value.int .i64 0)) fun v64n21 =>
      ifV v64n21 (
       outK [v61n19, v62n20]) (
       optK (bin2 Tryz.prog .neq 29 v62n20 (Value.int .i64 3)) fun v68n22 =>
       ifV v68n22 (
        optK (nil2 a0) fun v71n23 =>
        optK (evFieldAddr Tryz.prog 100 v71n23 7) fun v72n24 =>
        (inside (evStore Tryz.prog 29 v72n24 v62n20)).bind fun u25 =>
        outK [(Value.int .i64 0), v62n20]) (
        outK [(Value.int .i64 0), v62n20]))) (
      optK (nil2 a0) fun v45n26 =>
      optK (evFieldAddr Tryz.prog 100 v45n26 4) fun v46n27 =>
      (timed (
       (inside (evLoad Tryz.prog 70 v46n27)).bind fun v47n29 => M.ret v47n29)).bind fun vtn28 =>
      optK (len2 Tryz.prog #[70] [vtn28.1]) fun v48n30 =>
      optK (nil2 a0) fun v50n31 =>
      optK (evFieldAddr Tryz.prog 100 v50n31 1) fun v51n32 =>
      (timed (
       (inside (evLoad Tryz.prog 97 v51n32)).bind fun v52n34 => M.ret v52n34)).bind fun vtn33 =>
      (timed (
       (inside (zaac Tryz.prog gt lf d 61 #[vtn33.1])).bind fun v53n36 => M.ret v53n36)).bind fun vtn35 =>
      optK (bin2 Tryz.prog .lss 3 v48n30 vtn35.1) fun v54n37 =>
      chkT ((!(Tk.clash vtn28.2 vtn35.2) && true) && true) (
       ifV v54n37 (
        callV Tryz.prog (zaac Tryz.prog gt lf d) (Value.func (Go.Fn.func 62) #[a0] #[]) [a1] fun v60n38 =>
        optK (evExtract v60n38 0) fun v61n39 =>
        optK (evExtract v60n38 1) fun v62n40 =>
        optK (bin2 Tryz.prog .eql 29 v62n40 (Value.int .i64 0)) fun v64n41 =>
        ifV v64n41 (
         outK [v61n39, v62n40]) (
         optK (bin2 Tryz.prog .neq 29 v62n40 (Value.int .i64 3)) fun v68n42 =>
         ifV v68n42 (
          optK (nil2 a0) fun v71n43 =>
          optK (evFieldAddr Tryz.prog 100 v71n43 7) fun v72n44 =>
          (inside (evStore Tryz.prog 29 v72n44 v62n40)).bind fun u45 =>
          outK [(Value.int .i64 0), v62n40]) (
          outK [(Value.int .i64 0), v62n40]))) (
        callV Tryz.prog (zaac Tryz.prog gt lf d) (Value.func (Go.Fn.func 58) #[a0] #[]) [a1] fun v60n46 =>
        optK (evExtract v60n46 0) fun v61n47 =>
        optK (evExtract v60n46 1) fun v62n48 =>
        optK (bin2 Tryz.prog .eql 29 v62n48 (Value.int .i64 0)) fun v64n49 =>
        ifV v64n49 (
         outK [v61n47, v62n48]) (
         optK (bin2 Tryz.prog .neq 29 v62n48 (Value.int .i64 3)) fun v68n50 =>
         ifV v68n50 (
          optK (nil2 a0) fun v71n51 =>
          optK (evFieldAddr Tryz.prog 100 v71n51 7) fun v72n52 =>
          (inside (evStore Tryz.prog 29 v72n52 v62n48)).bind fun u53 =>
          outK [(Value.int .i64 0), v62n48]) (
          outK [(Value.int .i64 0), v62n48])))))))))
theorem zart (lf d : Nat) (a0 a1 : Value) : zaac Tryz.prog gt lf (d + 1) 30 #[a0, a1] = inside (zamb lf d a0 a1) := by kernel_rfl

noncomputable def zaut (lf d : Nat) (a0 : Value) : M Value :=
 optK (bin2 Tryz.prog .eql 54 a0 (Value.pointer none)) fun v4n1 =>
 ifV v4n1 (
  outK [(Value.int .i64 0)]) (
  optK (nil2 a0) fun v6n2 =>
  optK (evFieldAddr Tryz.prog 100 v6n2 1) fun v7n3 =>
  (timed (
   (inside (evLoad Tryz.prog 97 v7n3)).bind fun v8n5 => M.ret v8n5)).bind fun vtn4 =>
  (timed (
   (inside (zaac Tryz.prog gt lf d 63 #[vtn4.1])).bind fun v9n7 => M.ret v9n7)).bind fun vtn6 =>
  optK (len2 Tryz.prog #[22] [vtn6.1]) fun v10n8 =>
  optK (nil2 a0) fun v12n9 =>
  optK (evFieldAddr Tryz.prog 100 v12n9 0) fun v13n10 =>
  (timed (
   (inside (evLoad Tryz.prog 3 v13n10)).bind fun v14n12 => M.ret v14n12)).bind fun vtn11 =>
  optK (nil2 a0) fun v16n13 =>
  optK (evFieldAddr Tryz.prog 100 v16n13 4) fun v17n14 =>
  (timed (
   (inside (evLoad Tryz.prog 70 v17n14)).bind fun v18n16 => M.ret v18n16)).bind fun vtn15 =>
  optK (len2 Tryz.prog #[70] [vtn15.1]) fun v19n17 =>
  optK (bin2 Tryz.prog .mul 3 vtn11.1 v19n17) fun v20n18 =>
  optK (bin2 Tryz.prog .add 3 v10n8 v20n18) fun v21n19 =>
  chkT ((!(Tk.clash vtn6.2 vtn11.2) && (!(Tk.clash vtn6.2 vtn15.2) && true)) && true) (
   outK [v21n19]))
theorem zbfu (lf d : Nat) (a0 : Value) : zaac Tryz.prog gt lf (d + 1) 31 #[a0] = inside (zaut lf d a0) := by kernel_rfl

noncomputable def zasb (lf d : Nat) (a0 : Value) : M Value :=
 optK (bin2 Tryz.prog .eql 54 a0 (Value.pointer none)) fun v4n1 =>
 ifV v4n1 (
  outK [(Value.int .i64 0)]) (
  optK (nil2 a0) fun v6n2 =>
  optK (evFieldAddr Tryz.prog 100 v6n2 5) fun v7n3 =>
  (inside (evLoad Tryz.prog 3 v7n3)).bind fun v8n4 =>
  outK [v8n4])
theorem zbdl (lf d : Nat) (a0 : Value) : zaac Tryz.prog gt lf (d + 1) 32 #[a0] = inside (zasb lf d a0) := by kernel_rfl

noncomputable def zaug (lf d : Nat) (a0 a1 : Value) : M Value :=
 optK (bin2 Tryz.prog .eql 42 a0 (Value.pointer none)) fun v6n1 =>
 ifV v6n1 (
  outK [(Value.int .i64 7)]) (
  optK (nil2 a0) fun v8n2 =>
  optK (evFieldAddr Tryz.prog 85 v8n2 0) fun v9n3 =>
  (inside (evLoad Tryz.prog 9 v9n3)).bind fun v10n4 =>
  optK (bin2 Tryz.prog .add 9 v10n4 a1) fun v12n5 =>
  optK (nil2 a0) fun v13n6 =>
  optK (evFieldAddr Tryz.prog 85 v13n6 0) fun v14n7 =>
  (inside (evStore Tryz.prog 9 v14n7 v12n5)).bind fun u8 =>
  outK [(Value.int .i64 0)])
theorem zbgd (lf d : Nat) (a0 a1 : Value) : zaac Tryz.prog gt lf (d + 1) 33 #[a0, a1] = inside (zaug lf d a0 a1) := by kernel_rfl

noncomputable def zazp (lf d fu : Nat) (k : Ex → Fr → M Value) (x0 x1 x2 x6 x9 x12 x27 x28 x29 : Value) : M Value := loopK (fun s1 k1 => codeK Tryz.prog (zaac Tryz.prog gt lf d) (gt 37) lf (codeAt (bodyOf Tryz.prog 37) [true, true, true, true, false, true, false, false]) s1 k1) [0, 1, 2, 6, 9, 12, 27, 28, 29] fu [(0, x0), (1, x1), (2, x2), (6, x6), (9, x9), (12, x12), (27, x27), (28, x28), (29, x29)] k
noncomputable def zakw (lf d : Nat) : Ex → Fr → M Value := contAt Tryz.prog (zaac Tryz.prog gt lf d) (gt 37) lf (bodyOf Tryz.prog 37) [true, true, true, true, false, true, false] (endK Tryz.prog (resOf Tryz.prog 37))
noncomputable def zafu (lf d fu : Nat) (k : Ex → Fr → M Value) (x0 x2 x3 x4 x5 x6 x9 x18 : Value) : M Value := loopK (fun s1 k1 => codeK Tryz.prog (zaac Tryz.prog gt lf d) (gt 39) lf (codeAt (bodyOf Tryz.prog 39) [true, true, true, true, false, true, false, false]) s1 k1) [0, 2, 3, 4, 5, 6, 9, 18] fu [(0, x0), (2, x2), (3, x3), (4, x4), (5, x5), (6, x6), (9, x9), (18, x18)] k
noncomputable def zaej (lf d : Nat) : Ex → Fr → M Value := contAt Tryz.prog (zaac Tryz.prog gt lf d) (gt 39) lf (bodyOf Tryz.prog 39) [true, true, true, true, false, true, false] (endK Tryz.prog (resOf Tryz.prog 39))
noncomputable def zafy (lf d fu : Nat) (k : Ex → Fr → M Value) (x0 x2 x3 x4 x5 x6 x9 x18 x30 x51 x52 x53 : Value) : M Value := loopK (fun s1 k1 => codeK Tryz.prog (zaac Tryz.prog gt lf d) (gt 39) lf (codeAt (bodyOf Tryz.prog 39) [true, true, true, true, false, true, false, false, true, false, false, true, true, true, true, false, false]) s1 k1) [0, 2, 3, 4, 5, 6, 9, 18, 30, 51, 52, 53] fu [(0, x0), (2, x2), (3, x3), (4, x4), (5, x5), (6, x6), (9, x9), (18, x18), (30, x30), (51, x51), (52, x52), (53, x53)] k
noncomputable def zafr (lf d fu : Nat) (k : Ex → Fr → M Value) : Ex → Fr → M Value := contAt Tryz.prog (zaac Tryz.prog gt lf d) (gt 39) lf (codeAt (bodyOf Tryz.prog 39) [true, true, true, true, false, true, false, false]) [true, false, false, true, true, true, true, false] (againK (fun s1 => loopK (fun s1 k1 => codeK Tryz.prog (zaac Tryz.prog gt lf d) (gt 39) lf (codeAt (bodyOf Tryz.prog 39) [true, true, true, true, false, true, false, false]) s1 k1) [0, 2, 3, 4, 5, 6, 9, 18] fu (s1.keep [0, 2, 3, 4, 5, 6, 9, 18]) k) k)
noncomputable def zbam (lf d : Nat) (a0 : Value) : M Value :=
 optK (len2 Tryz.prog #[22] [a0]) fun v11n1 =>
 optK (bin2 Tryz.prog .lss 3 v11n1 (Value.int .i64 3)) fun v12n2 =>
 ifV v12n2 (
  outK [(Value.pointer none), (Value.int .i64 1)]) (
  optK (len2 Tryz.prog #[22] [a0]) fun v15n3 =>
  optK (bin2 Tryz.prog .gtr 3 v15n3 (Value.int .i64 258)) fun v16n4 =>
  ifV v16n4 (
   outK [(Value.pointer none), (Value.int .i64 1)]) (
   (inside (zaac Tryz.prog gt lf d 71 #[a0])).bind fun v20n5 =>
   optK (un2 Tryz.prog .not v20n5) fun v21n6 =>
   ifV v21n6 (
    outK [(Value.pointer none), (Value.int .i64 22)]) (
    (timed (
     (inside (zaac Tryz.prog gt lf d 72 #[a0])).bind fun v23n8 => M.ret v23n8)).bind fun vtn7 =>
    optK (len2 Tryz.prog #[22] [a0]) fun v25n9 =>
    (timed (
     (inside (evMakeSlice Tryz.prog 107 v25n9 v25n9)).bind fun v26n11 => M.ret v26n11)).bind fun vtn10 =>
    (inside (evBuild Tryz.prog 111 [(0, vtn7.1), (1, vtn10.1)])).bind fun v27n12 =>
    (timed (
     (inside (evBox Tryz.prog 111 v27n12)).bind fun v28n14 => M.ret v28n14)).bind fun vtn13 =>
    chkT ((!(Tk.clash vtn7.2 vtn10.2) && true) && true) (
     zafu lf d lf (zaej lf d) a0 (Value.pointer none) (Value.int .i64 0) vtn13.1 (Value.int .i64 0) (Value.int .i64 1) v16n4 v21n6))))
theorem zbhq (lf d : Nat) (a0 : Value) : zaac Tryz.prog gt lf (d + 1) 39 #[a0] = inside (zbam lf d a0) := by kernel_rfl
theorem zazf (lf d fu : Nat) (k : Ex → Fr → M Value) (x0 x2 x3 x4 x5 x6 x9 x18 : Value) : zafu lf d (fu + 1) k x0 x2 x3 x4 x5 x6 x9 x18 =
 optK (bin2 Tryz.prog .leq 3 x6 (Value.int .i64 20)) fun v30n15 =>
 ifV v30n15 (
  optK (bin2 Tryz.prog .mul 3 x5 (Value.int .i64 2)) fun v34n16 =>
  optK (nil2 x4) fun v38n17 =>
  optK (evFieldAddr Tryz.prog 111 v38n17 3) fun v39n18 =>
  optK (evIndexAddr Tryz.prog 108 v39n18 x6) fun v40n19 =>
  (inside (evStore Tryz.prog 3 v40n19 v34n16)).bind fun u20 =>
  optK (nil2 x4) fun v44n21 =>
  optK (evFieldAddr Tryz.prog 111 v44n21 2) fun v45n22 =>
  (inside (evLoad Tryz.prog 22 v45n22)).bind fun v46n23 =>
  optK (len2 Tryz.prog #[22] [v46n23]) fun v47n24 =>
  optK (nil2 x4) fun v48n25 =>
  optK (evFieldAddr Tryz.prog 111 v48n25 4) fun v49n26 =>
  optK (evIndexAddr Tryz.prog 109 v49n26 x6) fun v50n27 =>
  (inside (evStore Tryz.prog 3 v50n27 v47n24)).bind fun u28 =>
  optK (len2 Tryz.prog #[22] [x0]) fun v52n29 =>
  zafy lf d lf (zafr lf d fu k) x0 x2 x3 x4 v34n16 x6 x9 x18 v30n15 x0 v52n29 (Value.int .i64 0)) (
  k (Ex.exit 1) [(0, x0), (2, x2), (3, x3), (4, x4), (5, x5), (6, x6), (9, x9), (18, x18), (30, v30n15)]) := by kernel_rfl
theorem zbou (lf d : Nat) (y0 y2 y3 y4 y5 y6 y9 y18 y30 : Value) : zaej lf d (Ex.exit 1) [(0, y0), (2, y2), (3, y3), (4, y4), (5, y5), (6, y6), (9, y9), (18, y18), (30, y30)] =
 optK (nil2 y4) fun v84n30 =>
 optK (evFieldAddr Tryz.prog 111 v84n30 2) fun v85n31 =>
 (inside (evLoad Tryz.prog 22 v85n31)).bind fun v86n32 =>
 optK (len2 Tryz.prog #[22] [v86n32]) fun v87n33 =>
 optK (nil2 y4) fun v88n34 =>
 optK (evFieldAddr Tryz.prog 111 v88n34 4) fun v89n35 =>
 optK (evIndexAddr Tryz.prog 109 v89n35 (Value.int .i64 21)) fun v90n36 =>
 (inside (evStore Tryz.prog 3 v90n36 v87n33)).bind fun u37 =>
 outK [y4, (Value.int .i64 0)] := by kernel_rfl
theorem zazk (lf d fu : Nat) (k : Ex → Fr → M Value) (x0 x2 x3 x4 x5 x6 x9 x18 x30 x51 x52 x53 : Value) : zafy lf d (fu + 1) k x0 x2 x3 x4 x5 x6 x9 x18 x30 x51 x52 x53 =
 optK (bin2 Tryz.prog .lss 3 x53 x52) fun v54n38 =>
 ifV v54n38 (
  optK (evIndexAddr Tryz.prog 22 x51 x53) fun v56n39 =>
  (inside (evLoad Tryz.prog 3 v56n39)).bind fun v57n40 =>
  optK (bin2 Tryz.prog .eql 3 v57n40 x6) fun v60n41 =>
  ifV v60n41 (
   optK (nil2 x4) fun v62n42 =>
   optK (evFieldAddr Tryz.prog 111 v62n42 1) fun v63n43 =>
   (inside (evLoad Tryz.prog 107 v63n43)).bind fun v64n44 =>
   conv2 Tryz.prog 3 23 x5 fun v67n45 =>
   optK (evIndexAddr Tryz.prog 107 v64n44 x53) fun v68n46 =>
   (inside (evStore Tryz.prog 23 v68n46 v67n45)).bind fun u47 =>
   optK (nil2 x4) fun v71n48 =>
   optK (evFieldAddr Tryz.prog 111 v71n48 2) fun v72n49 =>
   (inside (evLoad Tryz.prog 22 v72n49)).bind fun v73n50 =>
   (inside (evBuildSlice Tryz.prog 22 1 [(0, x53)])).bind fun v75n51 =>
   (inside (evAppend Tryz.prog 22 v73n50 v75n51)).bind fun v76n52 =>
   optK (nil2 x4) fun v77n53 =>
   optK (evFieldAddr Tryz.prog 111 v77n53 2) fun v78n54 =>
   (inside (evStore Tryz.prog 22 v78n54 v76n52)).bind fun u55 =>
   optK (bin2 Tryz.prog .add 3 x5 (Value.int .i64 1)) fun v80n56 =>
   optK (bin2 Tryz.prog .add 3 x53 (Value.int .i64 1)) fun v81n57 =>
   zafy lf d fu k x0 x2 x3 x4 v80n56 x6 x9 x18 x30 x51 x52 v81n57) (
   optK (bin2 Tryz.prog .add 3 x53 (Value.int .i64 1)) fun v81n58 =>
   zafy lf d fu k x0 x2 x3 x4 x5 x6 x9 x18 x30 x51 x52 v81n58)) (
  k (Ex.exit 3) [(0, x0), (2, x2), (3, x3), (4, x4), (5, x5), (6, x6), (9, x9), (18, x18), (30, x30), (51, x51), (52, x52), (53, x53), (54, v54n38)]) := by kernel_rfl
theorem zbpf (lf d fu : Nat) (k : Ex → Fr → M Value) (y0 y2 y3 y4 y5 y6 y9 y18 y30 y51 y52 y53 y54 : Value) : zafr lf d fu k (Ex.exit 3) [(0, y0), (2, y2), (3, y3), (4, y4), (5, y5), (6, y6), (9, y9), (18, y18), (30, y30), (51, y51), (52, y52), (53, y53), (54, y54)] =
 optK (bin2 Tryz.prog .add 3 y6 (Value.int .i64 1)) fun v32n59 =>
 zafu lf d fu k y0 y2 y3 y4 y5 v32n59 y9 y18 := by kernel_rfl

noncomputable def zbcj (lf d fu : Nat) (k : Ex → Fr → M Value) (x0 x1 x4 x5 x6 x12 x14 x15 x16 : Value) : M Value := loopK (fun s1 k1 => codeK Tryz.prog (zaac Tryz.prog gt lf d) (gt 41) lf (codeAt (bodyOf Tryz.prog 41) [true, true, true, false, true, false, false]) s1 k1) [0, 1, 4, 5, 6, 12, 14, 15, 16] fu [(0, x0), (1, x1), (4, x4), (5, x5), (6, x6), (12, x12), (14, x14), (15, x15), (16, x16)] k
noncomputable def zamw (lf d : Nat) : Ex → Fr → M Value := contAt Tryz.prog (zaac Tryz.prog gt lf d) (gt 41) lf (bodyOf Tryz.prog 41) [true, true, true, false, true, false] (endK Tryz.prog (resOf Tryz.prog 41))
noncomputable def zagf (lf d fu : Nat) (k : Ex → Fr → M Value) (x0 x2 x3 x4 x5 : Value) : M Value := loopK (fun s1 k1 => codeK Tryz.prog (zaac Tryz.prog gt lf d) (gt 48) lf (codeAt (bodyOf Tryz.prog 48) [true, true, true, false, true, false, false]) s1 k1) [0, 2, 3, 4, 5] fu [(0, x0), (2, x2), (3, x3), (4, x4), (5, x5)] k
noncomputable def zaec (lf d : Nat) : Ex → Fr → M Value := contAt Tryz.prog (zaac Tryz.prog gt lf d) (gt 48) lf (bodyOf Tryz.prog 48) [true, true, true, false, true, false] (endK Tryz.prog (resOf Tryz.prog 48))
noncomputable def zadi (lf d fu : Nat) (k : Ex → Fr → M Value) (x0 x2 x3 x4 x5 x12 x15 x16 x17 : Value) : M Value := loopK (fun s1 k1 => codeK Tryz.prog (zaac Tryz.prog gt lf d) (gt 48) lf (codeAt (bodyOf Tryz.prog 48) [true, true, true, false, true, false, false, true, false, false, true, false, false]) s1 k1) [0, 2, 3, 4, 5, 12, 15, 16, 17] fu [(0, x0), (2, x2), (3, x3), (4, x4), (5, x5), (12, x12), (15, x15), (16, x16), (17, x17)] k
noncomputable def zagb (lf d fu : Nat) (k : Ex → Fr → M Value) : Ex → Fr → M Value := contAt Tryz.prog (zaac Tryz.prog gt lf d) (gt 48) lf (codeAt (bodyOf Tryz.prog 48) [true, true, true, false, true, false, false]) [true, false, false, true, false] (againK (fun s1 => loopK (fun s1 k1 => codeK Tryz.prog (zaac Tryz.prog gt lf d) (gt 48) lf (codeAt (bodyOf Tryz.prog 48) [true, true, true, false, true, false, false]) s1 k1) [0, 2, 3, 4, 5] fu (s1.keep [0, 2, 3, 4, 5]) k) k)
noncomputable def zagc (lf d fu : Nat) (k : Ex → Fr → M Value) (x0 x2 x3 x4 x5 x6 x7 x12 x15 x16 x17 x18 x24 x26 x27 x28 : Value) : M Value := loopK (fun s1 k1 => codeK Tryz.prog (zaac Tryz.prog gt lf d) (gt 48) lf (codeAt (bodyOf Tryz.prog 48) [true, true, true, false, true, false, false, true, false, false, true, false, false, true, true, false, false, true, true, false, true, false, true, false, false]) s1 k1) [0, 2, 3, 4, 5, 6, 7, 12, 15, 16, 17, 18, 24, 26, 27, 28] fu [(0, x0), (2, x2), (3, x3), (4, x4), (5, x5), (6, x6), (7, x7), (12, x12), (15, x15), (16, x16), (17, x17), (18, x18), (24, x24), (26, x26), (27, x27), (28, x28)] k
noncomputable def zajp (lf d fu : Nat) (k : Ex → Fr → M Value) : Ex → Fr → M Value := contAt Tryz.prog (zaac Tryz.prog gt lf d) (gt 48) lf (codeAt (bodyOf Tryz.prog 48) [true, true, true, false, true, false, false, true, false, false, true, false, false]) [true, true, false, false, true, true, false, true, false, true, false] (againK (fun s1 => loopK (fun s1 k1 => codeK Tryz.prog (zaac Tryz.prog gt lf d) (gt 48) lf (codeAt (bodyOf Tryz.prog 48) [true, true, true, false, true, false, false, true, false, false, true, false, false]) s1 k1) [0, 2, 3, 4, 5, 12, 15, 16, 17] fu (s1.keep [0, 2, 3, 4, 5, 12, 15, 16, 17]) k) k)
noncomputable def zauj (lf d : Nat) (a0 : Value) : M Value :=
 optK (len2 Tryz.prog #[22] [a0]) fun v9n1 =>
 (inside (evMakeSlice Tryz.prog 82 v9n1 v9n1)).bind fun v10n2 =>
 zagf lf d lf (zaec lf d) a0 (Value.slice none 0 0) v10n2 (Value.string { data := #[] }) (Value.int .i64 1)
theorem zbfw (lf d : Nat) (a0 : Value) : zaac Tryz.prog gt lf (d + 1) 48 #[a0] = inside (zauj lf d a0) := by kernel_rfl
theorem zans (lf d fu : Nat) (k : Ex → Fr → M Value) (x0 x2 x3 x4 x5 : Value) : zagf lf d (fu + 1) k x0 x2 x3 x4 x5 =
 optK (bin2 Tryz.prog .leq 3 x5 (Value.int .i64 20)) fun v12n3 =>
 ifV v12n3 (
  optK (len2 Tryz.prog #[22] [x0]) fun v16n4 =>
  zadi lf d lf (zagb lf d fu k) x0 x2 x3 x4 x5 v12n3 x0 v16n4 (Value.int .i64 0)) (
  k (Ex.exit 0) [(0, x0), (2, x2), (3, x3), (4, x4), (5, x5), (12, v12n3)]) := by kernel_rfl
theorem zbbg (lf d : Nat) (y0 y2 y3 y4 y5 y12 : Value) : zaec lf d (Ex.exit 0) [(0, y0), (2, y2), (3, y3), (4, y4), (5, y5), (12, y12)] =
 outK [y3] := by kernel_rfl
theorem zanr (lf d fu : Nat) (k : Ex → Fr → M Value) (x0 x2 x3 x4 x5 x12 x15 x16 x17 : Value) : zadi lf d (fu + 1) k x0 x2 x3 x4 x5 x12 x15 x16 x17 =
 optK (bin2 Tryz.prog .lss 3 x17 x16) fun v18n5 =>
 ifV v18n5 (
  optK (evIndexAddr Tryz.prog 22 x15 x17) fun v20n6 =>
  (inside (evLoad Tryz.prog 3 v20n6)).bind fun v21n7 =>
  optK (bin2 Tryz.prog .neq 3 v21n7 x5) fun v24n8 =>
  ifV v24n8 (
   optK (bin2 Tryz.prog .add 3 x17 (Value.int .i64 1)) fun v40n9 =>
   zadi lf d fu k x0 x2 x3 x4 x5 x12 x15 x16 v40n9) (
   optK (bin2 Tryz.prog .eql 9 x4 (Value.string { data := #[] })) fun v26n10 =>
   ifV v26n10 (
    zagc lf d lf (zajp lf d fu k) x0 x2 x3 x4 x5 x17 v21n7 x12 x15 x16 x17 v18n5 v24n8 v26n10 x5 (Value.int .i64 0)) (
    (inside (zaac Tryz.prog gt lf d 85 #[x4, x5])).bind fun v35n11 =>
    optK (evIndexAddr Tryz.prog 82 x3 x17) fun v39n12 =>
    (inside (evStore Tryz.prog 9 v39n12 v35n11)).bind fun u13 =>
    optK (bin2 Tryz.prog .add 3 x17 (Value.int .i64 1)) fun v40n14 =>
    zadi lf d fu k x0 x2 x3 v35n11 x5 x12 x15 x16 v40n14))) (
  k (Ex.exit 2) [(0, x0), (2, x2), (3, x3), (4, x4), (5, x5), (12, x12), (15, x15), (16, x16), (17, x17), (18, v18n5)]) := by kernel_rfl
theorem zbcr (lf d fu : Nat) (k : Ex → Fr → M Value) (y0 y2 y3 y4 y5 y12 y15 y16 y17 y18 : Value) : zagb lf d fu k (Ex.exit 2) [(0, y0), (2, y2), (3, y3), (4, y4), (5, y5), (12, y12), (15, y15), (16, y16), (17, y17), (18, y18)] =
 optK (bin2 Tryz.prog .add 3 y5 (Value.int .i64 1)) fun v14n15 =>
 zagf lf d fu k y0 y2 y3 y4 v14n15 := by kernel_rfl
theorem zanx (lf d fu : Nat) (k : Ex → Fr → M Value) (x0 x2 x3 x4 x5 x6 x7 x12 x15 x16 x17 x18 x24 x26 x27 x28 : Value) : zagc lf d (fu + 1) k x0 x2 x3 x4 x5 x6 x7 x12 x15 x16 x17 x18 x24 x26 x27 x28 =
 optK (bin2 Tryz.prog .lss 3 x28 x27) fun v29n16 =>
 ifV v29n16 (
  optK (bin2 Tryz.prog .add 9 x4 (Value.string { data := #[48] })) fun v31n17 =>
  optK (bin2 Tryz.prog .add 3 x28 (Value.int .i64 1)) fun v32n18 =>
  zagc lf d fu k x0 x2 x3 v31n17 x5 x6 x7 x12 x15 x16 x17 x18 x24 x26 x27 v32n18) (
  k (Ex.exit 4) [(0, x0), (2, x2), (3, x3), (4, x4), (5, x5), (6, x6), (7, x7), (12, x12), (15, x15), (16, x16), (17, x17), (18, x18), (24, x24), (26, x26), (27, x27), (28, x28), (29, v29n16)]) := by kernel_rfl
theorem zbco (lf d fu : Nat) (k : Ex → Fr → M Value) (y0 y2 y3 y4 y5 y6 y7 y12 y15 y16 y17 y18 y24 y26 y27 y28 y29 : Value) : zajp lf d fu k (Ex.exit 4) [(0, y0), (2, y2), (3, y3), (4, y4), (5, y5), (6, y6), (7, y7), (12, y12), (15, y15), (16, y16), (17, y17), (18, y18), (24, y24), (26, y26), (27, y27), (28, y28), (29, y29)] =
 optK (evIndexAddr Tryz.prog 82 y3 y6) fun v39n19 =>
 (inside (evStore Tryz.prog 9 v39n19 y4)).bind fun u20 =>
 optK (bin2 Tryz.prog .add 3 y17 (Value.int .i64 1)) fun v40n21 =>
 zadi lf d fu k y0 y2 y3 y4 y5 y12 y15 y16 v40n21 := by kernel_rfl

noncomputable def zavz (lf d : Nat) (a0 : Value) : M Value :=
 optK (nil2 a0) fun v4n1 =>
 optK (evFieldAddr Tryz.prog 85 v4n1 1) fun v5n2 =>
 (inside (evLoad Tryz.prog 3 v5n2)).bind fun v6n3 =>
 optK (nil2 a0) fun v8n4 =>
 optK (evFieldAddr Tryz.prog 85 v8n4 0) fun v9n5 =>
 (inside (evLoad Tryz.prog 9 v9n5)).bind fun v10n6 =>
 optK (len2 Tryz.prog #[9] [v10n6]) fun v11n7 =>
 optK (bin2 Tryz.prog .add 3 v6n3 v11n7) fun v12n8 =>
 optK (bin2 Tryz.prog .mul 3 (Value.int .i64 8) v12n8) fun v13n9 =>
 outK [v13n9]
theorem zbio (lf d : Nat) (a0 : Value) : zaac Tryz.prog gt lf (d + 1) 51 #[a0] = inside (zavz lf d a0) := by kernel_rfl

noncomputable def zaql (lf d fu : Nat) (k : Ex → Fr → M Value) (x0 x1 x2 x6 x7 x8 : Value) : M Value := loopK (fun s1 k1 => codeK Tryz.prog (zaac Tryz.prog gt lf d) (gt 52) lf (codeAt (bodyOf Tryz.prog 52) [true, true, false, false, false]) s1 k1) [0, 1, 2, 6, 7, 8] fu [(0, x0), (1, x1), (2, x2), (6, x6), (7, x7), (8, x8)] k
noncomputable def zagi (lf d : Nat) : Ex → Fr → M Value := contAt Tryz.prog (zaac Tryz.prog gt lf d) (gt 52) lf (bodyOf Tryz.prog 52) [true, true, false, false] (endK Tryz.prog (resOf Tryz.prog 52))
noncomputable def zahf (lf d fu : Nat) (k : Ex → Fr → M Value) (x0 x2 x3 x4 x5 x6 x7 x11 x30 : Value) : M Value := loopK (fun s1 k1 => codeK Tryz.prog (zaac Tryz.prog gt lf d) (gt 53) lf (codeAt (bodyOf Tryz.prog 53) [true, true, true, true, true, true, true, true, false, false, false]) s1 k1) [0, 2, 3, 4, 5, 6, 7, 11, 30] fu [(0, x0), (2, x2), (3, x3), (4, x4), (5, x5), (6, x6), (7, x7), (11, x11), (30, x30)] k
noncomputable def zaer (lf d : Nat) : Ex → Fr → M Value := contAt Tryz.prog (zaac Tryz.prog gt lf d) (gt 53) lf (bodyOf Tryz.prog 53) [true, true, true, true, true, true, true, true, false, false] (endK Tryz.prog (resOf Tryz.prog 53))
noncomputable def zawk (lf d : Nat) (a0 : Value) : M Value :=
 (inside (evAlloc Tryz.prog 88)).bind fun v2n1 =>
 optK (len2 Tryz.prog #[9] [a0]) fun v10n2 =>
 optK (bin2 Tryz.prog .lss 3 v10n2 (Value.int .i64 18)) fun v11n3 =>
 ifV v11n3 (
  (inside (evBuild Tryz.prog 88 [(4, (Value.int .i64 3))])).bind fun v12n4 =>
  (inside (evStore Tryz.prog 88 v2n1 v12n4)).bind fun u5 =>
  (evLoad Tryz.prog 88 v2n1).bind fun vrn6 =>
  outK [vrn6]) (
  zabo Tryz.prog 9 a0 none (some (Value.int .i64 3)) none fun v14n7 =>
  (inside (zaac Tryz.prog gt lf d 86 #[v14n7])).bind fun v15n8 =>
  conv2 Tryz.prog 23 3 v15n8 fun v16n9 =>
  zabo Tryz.prog 9 a0 (some (Value.int .i64 3)) (some (Value.int .i64 18)) none fun v18n10 =>
  (inside (zaac Tryz.prog gt lf d 86 #[v18n10])).bind fun v19n11 =>
  conv2 Tryz.prog 23 3 v19n11 fun v20n12 =>
  optK (bin2 Tryz.prog .lss 3 v16n9 (Value.int .i64 2)) fun v22n13 =>
  ifV v22n13 (
   (inside (evBuild Tryz.prog 88 [(3, (Value.int .i64 18)), (4, (Value.int .i64 25))])).bind fun v31n14 =>
   (inside (evStore Tryz.prog 88 v2n1 v31n14)).bind fun u15 =>
   (evLoad Tryz.prog 88 v2n1).bind fun vrn16 =>
   outK [vrn16]) (
   optK (bin2 Tryz.prog .gtr 3 v16n9 (Value.int .i64 6)) fun v25n17 =>
   ifV v25n17 (
    (inside (evBuild Tryz.prog 88 [(3, (Value.int .i64 18)), (4, (Value.int .i64 25))])).bind fun v31n18 =>
    (inside (evStore Tryz.prog 88 v2n1 v31n18)).bind fun u19 =>
    (evLoad Tryz.prog 88 v2n1).bind fun vrn20 =>
    outK [vrn20]) (
    optK (bin2 Tryz.prog .eql 3 v20n12 (Value.int .i64 0)) fun v29n21 =>
    ifV v29n21 (
     (inside (evBuild Tryz.prog 88 [(3, (Value.int .i64 18)), (4, (Value.int .i64 25))])).bind fun v31n22 =>
     (inside (evStore Tryz.prog 88 v2n1 v31n22)).bind fun u23 =>
     (evLoad Tryz.prog 88 v2n1).bind fun vrn24 =>
     outK [vrn24]) (
     zahf lf d lf (zaer lf d) a0 v2n1 v16n9 v20n12 (Value.string { data := #[48, 49, 50, 51, 52, 53] }) (Value.slice none 0 0) (Value.int .i64 18) v11n3 v29n21))))
theorem zbhs (lf d : Nat) (a0 : Value) : zaac Tryz.prog gt lf (d + 1) 53 #[a0] = inside (zawk lf d a0) := by kernel_rfl
theorem zbcm (lf d fu : Nat) (k : Ex → Fr → M Value) (x0 x2 x3 x4 x5 x6 x7 x11 x30 : Value) : zahf lf d (fu + 1) k x0 x2 x3 x4 x5 x6 x7 x11 x30 =
 optK (len2 Tryz.prog #[22] [x6]) fun v33n25 =>
 optK (bin2 Tryz.prog .lss 3 v33n25 x4) fun v35n26 =>
 ifV v35n26 (
  zabo Tryz.prog 9 x0 (some x7) none none fun v38n27 =>
  (inside (zaac Tryz.prog gt lf d 87 #[v38n27])).bind fun v39n28 =>
  optK (bin2 Tryz.prog .geq 3 v39n28 x3) fun v42n29 =>
  ifV v42n29 (
   optK (bin2 Tryz.prog .add 3 x7 x3) fun v45n30 =>
   (inside (evBuild Tryz.prog 88 [(3, v45n30), (4, (Value.int .i64 25))])).bind fun v46n31 =>
   (inside (evStore Tryz.prog 88 x2 v46n31)).bind fun u32 =>
   k Ex.ret [(0, x0), (2, x2), (3, x3), (4, x4), (5, x5), (6, x6), (7, x7), (8, v39n28), (11, x11), (30, x30), (35, v35n26), (42, v42n29)]) (
   optK (bin2 Tryz.prog .add 3 x7 v39n28) fun v49n33 =>
   optK (len2 Tryz.prog #[9] [x0]) fun v51n34 =>
   optK (bin2 Tryz.prog .eql 3 v49n33 v51n34) fun v52n35 =>
   ifV v52n35 (
    (inside (evBuild Tryz.prog 88 [(4, (Value.int .i64 3))])).bind fun v53n36 =>
    (inside (evStore Tryz.prog 88 x2 v53n36)).bind fun u37 =>
    k Ex.ret [(0, x0), (2, x2), (3, x3), (4, x4), (5, x5), (6, x6), (7, x7), (8, v39n28), (11, x11), (30, x30), (35, v35n26), (42, v42n29), (52, v52n35)]) (
    optK (zaee Tryz.prog 9 x5 v39n28) fun v57n38 =>
    conv2 Tryz.prog 5 3 v57n38 fun v58n39 =>
    optK (bin2 Tryz.prog .sub 3 v58n39 (Value.int .i64 48)) fun v59n40 =>
    (inside (evBuildSlice Tryz.prog 22 1 [(0, v59n40)])).bind fun v60n41 =>
    (inside (evAppend Tryz.prog 22 x6 v60n41)).bind fun v61n42 =>
    (inside (zaac Tryz.prog gt lf d 84 #[x5, v39n28])).bind fun v64n43 =>
    optK (bin2 Tryz.prog .add 3 x7 v39n28) fun v67n44 =>
    optK (bin2 Tryz.prog .add 3 v67n44 (Value.int .i64 1)) fun v68n45 =>
    zahf lf d fu k x0 x2 x3 x4 v64n43 v61n42 v68n45 x11 x30))) (
  k (Ex.exit 0) [(0, x0), (2, x2), (3, x3), (4, x4), (5, x5), (6, x6), (7, x7), (11, x11), (30, x30), (35, v35n26)]) := by kernel_rfl
theorem zbez (lf d : Nat) (y0 y2 y3 y4 y5 y6 y7 y8 y11 y30 y35 y42 : Value) : zaer lf d Ex.ret [(0, y0), (2, y2), (3, y3), (4, y4), (5, y5), (6, y6), (7, y7), (8, y8), (11, y11), (30, y30), (35, y35), (42, y42)] =
 (evLoad Tryz.prog 88 y2).bind fun vrn46 =>
 outK [vrn46] := by kernel_rfl
theorem zbdg (lf d : Nat) (y0 y2 y3 y4 y5 y6 y7 y8 y11 y30 y35 y42 y52 : Value) : zaer lf d Ex.ret [(0, y0), (2, y2), (3, y3), (4, y4), (5, y5), (6, y6), (7, y7), (8, y8), (11, y11), (30, y30), (35, y35), (42, y42), (52, y52)] =
 (evLoad Tryz.prog 88 y2).bind fun vrn47 =>
 outK [vrn47] := by kernel_rfl
theorem zbey (lf d : Nat) (y0 y2 y3 y4 y5 y6 y7 y11 y30 y35 : Value) : zaer lf d (Ex.exit 0) [(0, y0), (2, y2), (3, y3), (4, y4), (5, y5), (6, y6), (7, y7), (11, y11), (30, y30), (35, y35)] =
 (inside (evBuild Tryz.prog 88 [(0, y6), (1, y3), (2, y7), (3, y7)])).bind fun v73n48 =>
 (inside (evStore Tryz.prog 88 y2 v73n48)).bind fun u49 =>
 (evLoad Tryz.prog 88 y2).bind fun vrn50 =>
 outK [vrn50] := by kernel_rfl

noncomputable def zaea (lf d fu : Nat) (k : Ex → Fr → M Value) (x0 x1 x2 x6 x7 x10 x11 : Value) : M Value := loopK (fun s1 k1 => codeK Tryz.prog (zaac Tryz.prog gt lf d) (gt 54) lf (codeAt (bodyOf Tryz.prog 54) [true, true, false, true, false, false]) s1 k1) [0, 1, 2, 6, 7, 10, 11] fu [(0, x0), (1, x1), (2, x2), (6, x6), (7, x7), (10, x10), (11, x11)] k
noncomputable def zacv (lf d : Nat) : Ex → Fr → M Value := contAt Tryz.prog (zaac Tryz.prog gt lf d) (gt 54) lf (bodyOf Tryz.prog 54) [true, true, false, true, false] (endK Tryz.prog (resOf Tryz.prog 54))
noncomputable def zamz (lf d : Nat) (a0 a1 a2 : Value) : M Value :=
 (inside (evAlloc Tryz.prog 91)).bind fun v6n1 =>
 (inside (evBuild Tryz.prog 91 [])).bind fun v9n2 =>
 (inside (evAlloc Tryz.prog 91)).bind fun v7n3 =>
 (inside (evStore Tryz.prog 91 v7n3 v9n2)).bind fun u4 =>
 zaea lf d lf (zacv lf d) a0 a1 a2 v6n1 v7n3 a1 (Value.int .i64 0)
theorem zayh (lf d : Nat) (a0 a1 a2 : Value) : zaac Tryz.prog gt lf (d + 1) 54 #[a0, a1, a2] = inside (zamz lf d a0 a1 a2) := by kernel_rfl
theorem zaje (lf d fu : Nat) (k : Ex → Fr → M Value) (x0 x1 x2 x6 x7 x10 x11 : Value) : zaea lf d (fu + 1) k x0 x1 x2 x6 x7 x10 x11 =
 optK (bin2 Tryz.prog .lss 3 x11 x10) fun v12n5 =>
 ifV v12n5 (
  optK (evFieldAddr Tryz.prog 91 x7 1) fun v14n6 =>
  (inside (evLoad Tryz.prog 3 v14n6)).bind fun v15n7 =>
  zabo Tryz.prog 9 x0 (some v15n7) none none fun v16n8 =>
  (inside (zaac Tryz.prog gt lf d 88 #[v16n8, x2])).bind fun v18n9 =>
  (inside (evAlloc Tryz.prog 126)).bind fun v8n10 =>
  (inside (evStore Tryz.prog 126 v8n10 v18n9)).bind fun u11 =>
  optK (evFieldAddr Tryz.prog 126 v8n10 2) fun v19n12 =>
  (inside (evLoad Tryz.prog 3 v19n12)).bind fun v20n13 =>
  optK (bin2 Tryz.prog .neq 3 v20n13 (Value.int .i64 0)) fun v21n14 =>
  ifV v21n14 (
   optK (evFieldAddr Tryz.prog 91 x7 0) fun v22n15 =>
   (inside (evLoad Tryz.prog 80 v22n15)).bind fun v23n16 =>
   optK (evFieldAddr Tryz.prog 126 v8n10 2) fun v24n17 =>
   (inside (evLoad Tryz.prog 3 v24n17)).bind fun v25n18 =>
   (inside (evBuild Tryz.prog 91 [(0, v23n16), (2, v25n18)])).bind fun v26n19 =>
   (inside (evStore Tryz.prog 91 x6 v26n19)).bind fun u20 =>
   k Ex.ret [(0, x0), (1, x1), (2, x2), (6, x6), (7, x7), (8, v8n10), (10, x10), (11, x11), (12, v12n5), (21, v21n14)]) (
   optK (evFieldAddr Tryz.prog 91 x7 1) fun v27n21 =>
   (inside (evLoad Tryz.prog 3 v27n21)).bind fun v28n22 =>
   optK (evFieldAddr Tryz.prog 126 v8n10 1) fun v29n23 =>
   (inside (evLoad Tryz.prog 3 v29n23)).bind fun v30n24 =>
   optK (bin2 Tryz.prog .add 3 v28n22 v30n24) fun v31n25 =>
   optK (evFieldAddr Tryz.prog 91 x7 1) fun v32n26 =>
   (inside (evStore Tryz.prog 3 v32n26 v31n25)).bind fun u27 =>
   optK (evFieldAddr Tryz.prog 126 v8n10 0) fun v33n28 =>
   (inside (evLoad Tryz.prog 22 v33n28)).bind fun v34n29 =>
   (inside (zaac Tryz.prog gt lf d 89 #[v34n29])).bind fun v35n30 =>
   optK (un2 Tryz.prog .not v35n30) fun v36n31 =>
   ifV v36n31 (
    optK (evFieldAddr Tryz.prog 91 x7 0) fun v37n32 =>
    (inside (evLoad Tryz.prog 80 v37n32)).bind fun v38n33 =>
    (inside (evBuild Tryz.prog 91 [(0, v38n33), (2, (Value.int .i64 22))])).bind fun v39n34 =>
    (inside (evStore Tryz.prog 91 x6 v39n34)).bind fun u35 =>
    k Ex.ret [(0, x0), (1, x1), (2, x2), (6, x6), (7, x7), (8, v8n10), (10, x10), (11, x11), (12, v12n5), (21, v21n14), (36, v36n31)]) (
    optK (evFieldAddr Tryz.prog 91 x7 0) fun v40n36 =>
    (timed (
     (inside (evLoad Tryz.prog 80 v40n36)).bind fun v41n38 => M.ret v41n38)).bind fun vtn37 =>
    optK (evFieldAddr Tryz.prog 126 v8n10 0) fun v42n39 =>
    (timed (
     (inside (evLoad Tryz.prog 22 v42n39)).bind fun v43n41 => M.ret v43n41)).bind fun vtn40 =>
    (timed (
     (inside (zaac Tryz.prog gt lf d 48 #[vtn40.1])).bind fun v44n43 => M.ret v44n43)).bind fun vtn42 =>
    (timed (
     (inside (evBuildSlice Tryz.prog 80 1 [(0, vtn42.1)])).bind fun v45n45 => M.ret v45n45)).bind fun vtn44 =>
    (timed (
     (inside (evAppend Tryz.prog 80 vtn37.1 vtn44.1)).bind fun v46n47 => M.ret v46n47)).bind fun vtn46 =>
    optK (evFieldAddr Tryz.prog 91 x7 0) fun v47n48 =>
    (timed (
     (inside (evStore Tryz.prog 80 v47n48 vtn46.1)).bind fun u50 => M.ret u50)).bind fun vtn49 =>
    chkT ((!(Tk.clash vtn37.2 vtn42.2) && true) && true) (
     optK (bin2 Tryz.prog .add 3 x11 (Value.int .i64 1)) fun v48n51 =>
     zaea lf d fu k x0 x1 x2 x6 x7 x10 v48n51)))) (
  k (Ex.exit 0) [(0, x0), (1, x1), (2, x2), (6, x6), (7, x7), (10, x10), (11, x11), (12, v12n5)]) := by kernel_rfl
theorem zajy (lf d : Nat) (y0 y1 y2 y6 y7 y8 y10 y11 y12 y21 : Value) : zacv lf d Ex.ret [(0, y0), (1, y1), (2, y2), (6, y6), (7, y7), (8, y8), (10, y10), (11, y11), (12, y12), (21, y21)] =
 (evLoad Tryz.prog 91 y6).bind fun vrn52 =>
 outK [vrn52] := by kernel_rfl
theorem zavo (lf d : Nat) (y0 y1 y2 y6 y7 y8 y10 y11 y12 y21 y36 : Value) : zacv lf d Ex.ret [(0, y0), (1, y1), (2, y2), (6, y6), (7, y7), (8, y8), (10, y10), (11, y11), (12, y12), (21, y21), (36, y36)] =
 (evLoad Tryz.prog 91 y6).bind fun vrn53 =>
 outK [vrn53] := by kernel_rfl
theorem zavv (lf d : Nat) (y0 y1 y2 y6 y7 y10 y11 y12 : Value) : zacv lf d (Ex.exit 0) [(0, y0), (1, y1), (2, y2), (6, y6), (7, y7), (10, y10), (11, y11), (12, y12)] =
 (inside (evLoad Tryz.prog 91 y7)).bind fun v49n54 =>
 (inside (evStore Tryz.prog 91 y6 v49n54)).bind fun u55 =>
 (evLoad Tryz.prog 91 y6).bind fun vrn56 =>
 outK [vrn56] := by kernel_rfl

noncomputable def zaih (lf d fu : Nat) (k : Ex → Fr → M Value) (x0 x1 x4 x7 x8 x9 : Value) : M Value := loopK (fun s1 k1 => codeK Tryz.prog (zaac Tryz.prog gt lf d) (gt 55) lf (codeAt (bodyOf Tryz.prog 55) [true, false, true, false, false]) s1 k1) [0, 1, 4, 7, 8, 9] fu [(0, x0), (1, x1), (4, x4), (7, x7), (8, x8), (9, x9)] k
noncomputable def zahp (lf d : Nat) : Ex → Fr → M Value := contAt Tryz.prog (zaac Tryz.prog gt lf d) (gt 55) lf (bodyOf Tryz.prog 55) [true, false, true, false] (endK Tryz.prog (resOf Tryz.prog 55))
noncomputable def zaxc (lf d : Nat) (a0 a1 : Value) : M Value :=
 optK (len2 Tryz.prog #[82] [a0]) fun v8n1 =>
 zaih lf d lf (zahp lf d) a0 a1 (Value.int .i64 0) a0 v8n1 (Value.int .i64 0)
theorem zbjs (lf d : Nat) (a0 a1 : Value) : zaac Tryz.prog gt lf (d + 1) 55 #[a0, a1] = inside (zaxc lf d a0 a1) := by kernel_rfl
theorem zaqq (lf d fu : Nat) (k : Ex → Fr → M Value) (x0 x1 x4 x7 x8 x9 : Value) : zaih lf d (fu + 1) k x0 x1 x4 x7 x8 x9 =
 optK (bin2 Tryz.prog .lss 3 x9 x8) fun v10n2 =>
 ifV v10n2 (
  optK (evIndexAddr Tryz.prog 82 x7 x9) fun v12n3 =>
  (inside (evLoad Tryz.prog 9 v12n3)).bind fun v13n4 =>
  (inside (zaac Tryz.prog gt lf d 90 #[x1, v13n4])).bind fun v16n5 =>
  ifV v16n5 (
   k Ex.ret [(0, x0), (1, x1), (4, x9), (5, x9), (6, v13n4), (7, x7), (8, x8), (9, x9), (10, v10n2), (16, v16n5)]) (
   optK (bin2 Tryz.prog .add 3 x9 (Value.int .i64 1)) fun v18n6 =>
   zaih lf d fu k x0 x1 x4 x7 x8 v18n6)) (
  k (Ex.exit 0) [(0, x0), (1, x1), (4, x4), (7, x7), (8, x8), (9, x9), (10, v10n2)]) := by kernel_rfl
theorem zbgl (lf d : Nat) (y0 y1 y4 y5 y6 y7 y8 y9 y10 y16 : Value) : zahp lf d Ex.ret [(0, y0), (1, y1), (4, y4), (5, y5), (6, y6), (7, y7), (8, y8), (9, y9), (10, y10), (16, y16)] =
 outK [y4] := by kernel_rfl
theorem zbgi (lf d : Nat) (y0 y1 y4 y7 y8 y9 y10 : Value) : zahp lf d (Ex.exit 0) [(0, y0), (1, y1), (4, y4), (7, y7), (8, y8), (9, y9), (10, y10)] =
 outK [(Value.int .i64 (-1))] := by kernel_rfl

noncomputable def zawj (lf d : Nat) (a0 : Value) : M Value :=
 (inside (zaac Tryz.prog gt lf d 91 #[a0])).bind fun v5n1 =>
 optK (un2 Tryz.prog .not v5n1) fun v6n2 =>
 ifV v6n2 (
  outK [(Value.pointer none), (Value.int .i64 1)]) (
  (inside (evBuild Tryz.prog 130 [(0, a0)])).bind fun v8n3 =>
  (inside (evBox Tryz.prog 130 v8n3)).bind fun v9n4 =>
  outK [v9n4, (Value.int .i64 0)])
theorem zbit (lf d : Nat) (a0 : Value) : zaac Tryz.prog gt lf (d + 1) 56 #[a0] = inside (zawj lf d a0) := by kernel_rfl

noncomputable def zawh (lf d : Nat) : M Value :=
 (inside (zaac Tryz.prog gt lf d 92 #[])).bind fun v1n1 =>
 (inside (evBuild Tryz.prog 135 [(2, v1n1)])).bind fun v2n2 =>
 (inside (evBox Tryz.prog 135 v2n2)).bind fun v3n3 =>
 outK [v3n3]
theorem zbhm (lf d : Nat) : zaac Tryz.prog gt lf (d + 1) 57 #[] = inside (zawh lf d) := by kernel_rfl

noncomputable def zaqb (lf d : Nat) (a0 a1 : Value) : M Value :=
 optK (nil2 a0) fun v10n1 =>
 optK (evFieldAddr Tryz.prog 100 v10n1 5) fun v11n2 =>
 (inside (evLoad Tryz.prog 3 v11n2)).bind fun v12n3 =>
 optK (bin2 Tryz.prog .quo 3 v12n3 (Value.int .i64 50)) fun v13n4 =>
 optK (nil2 a0) fun v16n5 =>
 optK (evFieldAddr Tryz.prog 100 v16n5 2) fun v17n6 =>
 (inside (evLoad Tryz.prog 22 v17n6)).bind fun v18n7 =>
 optK (len2 Tryz.prog #[22] [v18n7]) fun v19n8 =>
 optK (bin2 Tryz.prog .geq 3 v13n4 v19n8) fun v20n9 =>
 ifV v20n9 (
  outK [(Value.int .i64 (-1)), (Value.int .i64 25)]) (
  optK (nil2 a0) fun v23n10 =>
  optK (evFieldAddr Tryz.prog 100 v23n10 4) fun v24n11 =>
  (inside (evLoad Tryz.prog 70 v24n11)).bind fun v25n12 =>
  optK (nil2 a0) fun v27n13 =>
  optK (evFieldAddr Tryz.prog 100 v27n13 2) fun v28n14 =>
  (inside (evLoad Tryz.prog 22 v28n14)).bind fun v29n15 =>
  optK (evIndexAddr Tryz.prog 22 v29n15 v13n4) fun v31n16 =>
  (inside (evLoad Tryz.prog 3 v31n16)).bind fun v32n17 =>
  optK (evIndexAddr Tryz.prog 70 v25n12 v32n17) fun v33n18 =>
  (inside (evLoad Tryz.prog 72 v33n18)).bind fun v34n19 =>
  (inside (zaac Tryz.prog gt lf d 93 #[v34n19, a1])).bind fun v36n20 =>
  optK (evExtract v36n20 0) fun v37n21 =>
  optK (evExtract v36n20 1) fun v38n22 =>
  optK (bin2 Tryz.prog .neq 29 v38n22 (Value.int .i64 0)) fun v40n23 =>
  ifV v40n23 (
   outK [(Value.int .i64 (-1)), v38n22]) (
   optK (nil2 a0) fun v43n24 =>
   optK (evFieldAddr Tryz.prog 100 v43n24 5) fun v44n25 =>
   (inside (evLoad Tryz.prog 3 v44n25)).bind fun v45n26 =>
   optK (bin2 Tryz.prog .add 3 v45n26 (Value.int .i64 1)) fun v46n27 =>
   optK (nil2 a0) fun v47n28 =>
   optK (evFieldAddr Tryz.prog 100 v47n28 5) fun v48n29 =>
   (inside (evStore Tryz.prog 3 v48n29 v46n27)).bind fun u30 =>
   optK (nil2 a0) fun v52n31 =>
   optK (evFieldAddr Tryz.prog 100 v52n31 0) fun v53n32 =>
   (inside (evLoad Tryz.prog 3 v53n32)).bind fun v54n33 =>
   optK (bin2 Tryz.prog .sub 3 v54n33 (Value.int .i64 1)) fun v55n34 =>
   optK (bin2 Tryz.prog .eql 3 v37n21 v55n34) fun v56n35 =>
   optK (nil2 a0) fun v57n36 =>
   optK (evFieldAddr Tryz.prog 100 v57n36 6) fun v58n37 =>
   (inside (evStore Tryz.prog 4 v58n37 v56n35)).bind fun u38 =>
   outK [v37n21, (Value.int .i64 0)]))
theorem zbbv (lf d : Nat) (a0 a1 : Value) : zaac Tryz.prog gt lf (d + 1) 58 #[a0, a1] = inside (zaqb lf d a0 a1) := by kernel_rfl

noncomputable def zasj (lf d : Nat) (a0 : Value) : M Value :=
 optK (bin2 Tryz.prog .neq 97 a0 (Value.pointer none)) fun v4n1 =>
 ifV v4n1 (
  optK (nil2 a0) fun v7n2 =>
  optK (evFieldAddr Tryz.prog 135 v7n2 1) fun v8n3 =>
  (inside (evLoad Tryz.prog 3 v8n3)).bind fun v9n4 =>
  optK (bin2 Tryz.prog .gtr 3 v9n4 (Value.int .i64 0)) fun v10n5 =>
  ifV v10n5 (
   optK (nil2 a0) fun v14n6 =>
   optK (evFieldAddr Tryz.prog 135 v14n6 3) fun v15n7 =>
   (inside (evLoad Tryz.prog 22 v15n7)).bind fun v16n8 =>
   optK (len2 Tryz.prog #[22] [v16n8]) fun v17n9 =>
   optK (nil2 a0) fun v19n10 =>
   optK (evFieldAddr Tryz.prog 135 v19n10 1) fun v20n11 =>
   (inside (evLoad Tryz.prog 3 v20n11)).bind fun v21n12 =>
   optK (bin2 Tryz.prog .eql 3 v17n9 v21n12) fun v22n13 =>
   outK [v22n13]) (
   outK [(Value.bool false)])) (
  outK [(Value.bool false)])
theorem zbem (lf d : Nat) (a0 : Value) : zaac Tryz.prog gt lf (d + 1) 59 #[a0] = inside (zasj lf d a0) := by kernel_rfl

noncomputable def zaud (lf d : Nat) (a0 a1 : Value) : M Value :=
 optK (nil2 a0) fun v8n1 =>
 optK (evFieldAddr Tryz.prog 100 v8n1 1) fun v9n2 =>
 (inside (evLoad Tryz.prog 97 v9n2)).bind fun v10n3 =>
 (inside (zaac Tryz.prog gt lf d 94 #[v10n3, a1])).bind fun v12n4 =>
 optK (nil2 a0) fun v14n5 =>
 optK (evFieldAddr Tryz.prog 100 v14n5 1) fun v15n6 =>
 (inside (evLoad Tryz.prog 97 v15n6)).bind fun v16n7 =>
 (inside (zaac Tryz.prog gt lf d 59 #[v16n7])).bind fun v17n8 =>
 ifV v17n8 (
  optK (nil2 a0) fun v20n9 =>
  optK (evFieldAddr Tryz.prog 100 v20n9 1) fun v21n10 =>
  (inside (evLoad Tryz.prog 97 v21n10)).bind fun v22n11 =>
  (inside (zaac Tryz.prog gt lf d 63 #[v22n11])).bind fun v23n12 =>
  optK (nil2 a0) fun v24n13 =>
  optK (evFieldAddr Tryz.prog 100 v24n13 2) fun v25n14 =>
  (inside (evStore Tryz.prog 22 v25n14 v23n12)).bind fun u15 =>
  outK [(Value.int .i64 (-1)), v12n4]) (
  outK [(Value.int .i64 (-1)), v12n4])
theorem zbgq (lf d : Nat) (a0 a1 : Value) : zaac Tryz.prog gt lf (d + 1) 60 #[a0, a1] = inside (zaud lf d a0 a1) := by kernel_rfl

noncomputable def zapc (lf d : Nat) (a0 : Value) : M Value :=
 optK (bin2 Tryz.prog .eql 97 a0 (Value.pointer none)) fun v4n1 =>
 ifV v4n1 (
  outK [(Value.int .i64 0)]) (
  optK (nil2 a0) fun v6n2 =>
  optK (evFieldAddr Tryz.prog 135 v6n2 0) fun v7n3 =>
  (inside (evLoad Tryz.prog 3 v7n3)).bind fun v8n4 =>
  outK [v8n4])
theorem zban (lf d : Nat) (a0 : Value) : zaac Tryz.prog gt lf (d + 1) 61 #[a0] = inside (zapc lf d a0) := by kernel_rfl

noncomputable def zasd (lf d : Nat) (a0 a1 : Value) : M Value :=
 optK (nil2 a0) fun v12n1 =>
 optK (evFieldAddr Tryz.prog 100 v12n1 3) fun v13n2 =>
 (inside (evLoad Tryz.prog 94 v13n2)).bind fun v14n3 =>
 (inside (zaac Tryz.prog gt lf d 95 #[v14n3, a1])).bind fun v16n4 =>
 optK (bin2 Tryz.prog .neq 29 v16n4 (Value.int .i64 0)) fun v18n5 =>
 ifV v18n5 (
  outK [(Value.int .i64 (-1)), v16n4]) (
  optK (nil2 a0) fun v21n6 =>
  optK (evFieldAddr Tryz.prog 100 v21n6 3) fun v22n7 =>
  (inside (evLoad Tryz.prog 94 v22n7)).bind fun v23n8 =>
  (inside (zaac Tryz.prog gt lf d 96 #[v23n8])).bind fun v24n9 =>
  optK (un2 Tryz.prog .not v24n9) fun v25n10 =>
  ifV v25n10 (
   outK [(Value.int .i64 (-1)), v16n4]) (
   optK (nil2 a0) fun v30n11 =>
   optK (evFieldAddr Tryz.prog 100 v30n11 3) fun v31n12 =>
   (inside (evLoad Tryz.prog 94 v31n12)).bind fun v32n13 =>
   (inside (zaac Tryz.prog gt lf d 97 #[v32n13])).bind fun v33n14 =>
   (inside (zaac Tryz.prog gt lf d 39 #[v33n14])).bind fun v34n15 =>
   optK (evExtract v34n15 0) fun v35n16 =>
   optK (evExtract v34n15 1) fun v36n17 =>
   optK (bin2 Tryz.prog .neq 29 v36n17 (Value.int .i64 0)) fun v38n18 =>
   ifV v38n18 (
    outK [(Value.int .i64 (-1)), v36n17]) (
    optK (nil2 a0) fun v42n19 =>
    optK (evFieldAddr Tryz.prog 100 v42n19 4) fun v43n20 =>
    (inside (evLoad Tryz.prog 70 v43n20)).bind fun v44n21 =>
    (inside (evBuildSlice Tryz.prog 70 1 [(0, v35n16)])).bind fun v46n22 =>
    (inside (evAppend Tryz.prog 70 v44n21 v46n22)).bind fun v47n23 =>
    optK (nil2 a0) fun v48n24 =>
    optK (evFieldAddr Tryz.prog 100 v48n24 4) fun v49n25 =>
    (inside (evStore Tryz.prog 70 v49n25 v47n23)).bind fun u26 =>
    optK (nil2 a0) fun v52n27 =>
    optK (evFieldAddr Tryz.prog 100 v52n27 0) fun v53n28 =>
    (inside (evLoad Tryz.prog 3 v53n28)).bind fun v54n29 =>
    (inside (zaac Tryz.prog gt lf d 56 #[v54n29])).bind fun v55n30 =>
    optK (evExtract v55n30 0) fun v56n31 =>
    optK (evExtract v55n30 1) fun v57n32 =>
    optK (nil2 a0) fun v60n33 =>
    optK (evFieldAddr Tryz.prog 100 v60n33 3) fun v61n34 =>
    (inside (evStore Tryz.prog 94 v61n34 v56n31)).bind fun u35 =>
    outK [(Value.int .i64 (-1)), (Value.int .i64 0)])))
theorem zbed (lf d : Nat) (a0 a1 : Value) : zaac Tryz.prog gt lf (d + 1) 62 #[a0, a1] = inside (zasd lf d a0 a1) := by kernel_rfl

noncomputable def zaqa (lf d : Nat) (a0 : Value) : M Value :=
 optK (bin2 Tryz.prog .eql 97 a0 (Value.pointer none)) fun v4n1 =>
 ifV v4n1 (
  outK [(Value.slice none 0 0)]) (
  optK (nil2 a0) fun v6n2 =>
  optK (evFieldAddr Tryz.prog 135 v6n2 3) fun v7n3 =>
  (inside (evLoad Tryz.prog 22 v7n3)).bind fun v8n4 =>
  (inside (zaac Tryz.prog gt lf d 72 #[v8n4])).bind fun v9n5 =>
  outK [v9n5])
theorem zbbl (lf d : Nat) (a0 : Value) : zaac Tryz.prog gt lf (d + 1) 63 #[a0] = inside (zaqa lf d a0) := by kernel_rfl

noncomputable def zaxs (lf d fu : Nat) (k : Ex → Fr → M Value) (x0 x2 x3 x4 x11 x12 x13 : Value) : M Value := loopK (fun s1 k1 => codeK Tryz.prog (zaac Tryz.prog gt lf d) (gt 67) lf (codeAt (bodyOf Tryz.prog 67) [true, true, true, false, true, false, false]) s1 k1) [0, 2, 3, 4, 11, 12, 13] fu [(0, x0), (2, x2), (3, x3), (4, x4), (11, x11), (12, x12), (13, x13)] k
noncomputable def zajt (lf d : Nat) : Ex → Fr → M Value := contAt Tryz.prog (zaac Tryz.prog gt lf d) (gt 67) lf (bodyOf Tryz.prog 67) [true, true, true, false, true, false] (endK Tryz.prog (resOf Tryz.prog 67))
noncomputable def zalg (lf d fu : Nat) (k : Ex → Fr → M Value) (x0 x1 x4 x13 x14 x15 : Value) : M Value := loopK (fun s1 k1 => codeK Tryz.prog (zaac Tryz.prog gt lf d) (gt 69) lf (codeAt (bodyOf Tryz.prog 69) [true, true, true, false, false]) s1 k1) [0, 1, 4, 13, 14, 15] fu [(0, x0), (1, x1), (4, x4), (13, x13), (14, x14), (15, x15)] k
noncomputable def zakt (lf d : Nat) : Ex → Fr → M Value := contAt Tryz.prog (zaac Tryz.prog gt lf d) (gt 69) lf (bodyOf Tryz.prog 69) [true, true, true, false] (endK Tryz.prog (resOf Tryz.prog 69))
noncomputable def zazl (lf d fu : Nat) (k : Ex → Fr → M Value) (x0 x1 x4 x6 x13 x14 x15 x16 : Value) : M Value := loopK (fun s1 k1 => codeK Tryz.prog (zaac Tryz.prog gt lf d) (gt 69) lf (codeAt (bodyOf Tryz.prog 69) [true, true, true, false, false, true, true, false, false, true, false, false, false]) s1 k1) [0, 1, 4, 6, 13, 14, 15, 16] fu [(0, x0), (1, x1), (4, x4), (6, x6), (13, x13), (14, x14), (15, x15), (16, x16)] k
noncomputable def zaks (lf d fu : Nat) (k : Ex → Fr → M Value) : Ex → Fr → M Value := contAt Tryz.prog (zaac Tryz.prog gt lf d) (gt 69) lf (codeAt (bodyOf Tryz.prog 69) [true, true, true, false, false]) [true, true, false, false, true, false, false] (againK (fun s1 => loopK (fun s1 k1 => codeK Tryz.prog (zaac Tryz.prog gt lf d) (gt 69) lf (codeAt (bodyOf Tryz.prog 69) [true, true, true, false, false]) s1 k1) [0, 1, 4, 13, 14, 15] fu (s1.keep [0, 1, 4, 13, 14, 15]) k) k)
noncomputable def zazo (lf d fu : Nat) (k : Ex → Fr → M Value) (x0 x1 x4 x6 x13 x14 x15 x16 x21 : Value) : M Value := loopK (fun s1 k1 => codeK Tryz.prog (zaac Tryz.prog gt lf d) (gt 69) lf (codeAt (bodyOf Tryz.prog 69) [true, true, true, false, false, true, true, false, false, true, true, false, false, false]) s1 k1) [0, 1, 4, 6, 13, 14, 15, 16, 21] fu [(0, x0), (1, x1), (4, x4), (6, x6), (13, x13), (14, x14), (15, x15), (16, x16), (21, x21)] k
noncomputable def zaku (lf d fu : Nat) (k : Ex → Fr → M Value) : Ex → Fr → M Value := contAt Tryz.prog (zaac Tryz.prog gt lf d) (gt 69) lf (codeAt (bodyOf Tryz.prog 69) [true, true, true, false, false]) [true, true, false, false, true, true, false, false] (againK (fun s1 => loopK (fun s1 k1 => codeK Tryz.prog (zaac Tryz.prog gt lf d) (gt 69) lf (codeAt (bodyOf Tryz.prog 69) [true, true, true, false, false]) s1 k1) [0, 1, 4, 13, 14, 15] fu (s1.keep [0, 1, 4, 13, 14, 15]) k) k)
noncomputable def zbfl (lf d : Nat) (a0 : Value) : M Value :=
 (inside (zaac Tryz.prog gt lf d 108 #[a0])).bind fun v7n1 =>
 optK (evExtract v7n1 0) fun v8n2 =>
 optK (evExtract v7n1 1) fun v9n3 =>
 optK (bin2 Tryz.prog .eql 29 v9n3 (Value.int .i64 0)) fun v11n4 =>
 ifV v11n4 (
  optK (bin2 Tryz.prog .eql 3 v8n2 (Value.int .i64 1048576)) fun v14n5 =>
  ifV v14n5 (
   (inside (zaac Tryz.prog gt lf d 109 #[a0, (Value.int .i64 0)])).bind fun v18n6 =>
   optK (un2 Tryz.prog .not v18n6) fun v19n7 =>
   outK [v19n7]) (
   outK [(Value.bool false)])) (
  outK [(Value.bool false)])
theorem zbod (lf d : Nat) (a0 : Value) : zaac Tryz.prog gt lf (d + 1) 71 #[a0] = inside (zbfl lf d a0) := by kernel_rfl

noncomputable def zauu (lf d : Nat) (a0 a1 : Value) : M Value :=
 optK (bin2 Tryz.prog .add 3 a1 (Value.int .i64 1)) fun v8n1 =>
 zabo Tryz.prog 9 a0 (some a1) (some v8n1) none fun v9n2 =>
 zabo Tryz.prog 9 a0 none (some a1) none fun v12n3 =>
 optK (bin2 Tryz.prog .add 9 v9n2 v12n3) fun v13n4 =>
 optK (bin2 Tryz.prog .add 3 a1 (Value.int .i64 1)) fun v16n5 =>
 zabo Tryz.prog 9 a0 (some v16n5) none none fun v17n6 =>
 optK (bin2 Tryz.prog .add 9 v13n4 v17n6) fun v18n7 =>
 outK [v18n7]
theorem zbgt (lf d : Nat) (a0 a1 : Value) : zaac Tryz.prog gt lf (d + 1) 84 #[a0, a1] = inside (zauu lf d a0 a1) := by kernel_rfl

noncomputable def zaco (lf d fu : Nat) (k : Ex → Fr → M Value) (x0 x1 x4 x5 x6 x7 : Value) : M Value := loopK (fun s1 k1 => codeK Tryz.prog (zaac Tryz.prog gt lf d) (gt 85) lf (codeAt (bodyOf Tryz.prog 85) [true, true, true, false, true, false, false]) s1 k1) [0, 1, 4, 5, 6, 7] fu [(0, x0), (1, x1), (4, x4), (5, x5), (6, x6), (7, x7)] k
noncomputable def zakm (lf d : Nat) : Ex → Fr → M Value := contAt Tryz.prog (zaac Tryz.prog gt lf d) (gt 85) lf (bodyOf Tryz.prog 85) [true, true, true, false, true, false] (endK Tryz.prog (resOf Tryz.prog 85))
noncomputable def zahe (lf d fu : Nat) (k : Ex → Fr → M Value) (x0 x1 x4 x5 x6 x7 x13 : Value) : M Value := loopK (fun s1 k1 => codeK Tryz.prog (zaac Tryz.prog gt lf d) (gt 85) lf (codeAt (bodyOf Tryz.prog 85) [true, true, true, true, false, false, false]) s1 k1) [0, 1, 4, 5, 6, 7, 13] fu [(0, x0), (1, x1), (4, x4), (5, x5), (6, x6), (7, x7), (13, x13)] k
noncomputable def zakn (lf d : Nat) : Ex → Fr → M Value := contAt Tryz.prog (zaac Tryz.prog gt lf d) (gt 85) lf (bodyOf Tryz.prog 85) [true, true, true, true, false, false] (endK Tryz.prog (resOf Tryz.prog 85))
noncomputable def zawg (lf d : Nat) (a0 a1 : Value) : M Value :=
 optK (len2 Tryz.prog #[9] [a0]) fun v10n1 =>
 optK (bin2 Tryz.prog .sub 3 v10n1 (Value.int .i64 1)) fun v11n2 =>
 zaco lf d lf (zakm lf d) a0 a1 (Value.string { data := #[] }) (Value.string { data := #[] }) (Value.bool true) v11n2
theorem zbht (lf d : Nat) (a0 a1 : Value) : zaac Tryz.prog gt lf (d + 1) 85 #[a0, a1] = inside (zawg lf d a0 a1) := by kernel_rfl
theorem zaph (lf d fu : Nat) (k : Ex → Fr → M Value) (x0 x1 x4 x5 x6 x7 : Value) : zaco lf d (fu + 1) k x0 x1 x4 x5 x6 x7 =
 optK (bin2 Tryz.prog .geq 3 x7 (Value.int .i64 0)) fun v13n3 =>
 ifV v13n3 (
  optK (zaee Tryz.prog 9 x0 x7) fun v18n4 =>
  optK (bin2 Tryz.prog .eql 5 v18n4 (Value.int .u8 49)) fun v19n5 =>
  optK (bin2 Tryz.prog .neq 4 v19n5 x6) fun v22n6 =>
  ifV v22n6 (
   optK (bin2 Tryz.prog .add 9 (Value.string { data := #[49] }) x5) fun v24n7 =>
   ifV x6 (
    optK (bin2 Tryz.prog .sub 3 x7 (Value.int .i64 1)) fun v15n8 =>
    zaco lf d fu k x0 x1 x4 v24n7 v19n5 v15n8) (
    optK (bin2 Tryz.prog .sub 3 x7 (Value.int .i64 1)) fun v15n9 =>
    zaco lf d fu k x0 x1 x4 v24n7 (Value.bool false) v15n9)) (
   optK (bin2 Tryz.prog .add 9 (Value.string { data := #[48] }) x5) fun v26n10 =>
   ifV x6 (
    optK (bin2 Tryz.prog .sub 3 x7 (Value.int .i64 1)) fun v15n11 =>
    zaco lf d fu k x0 x1 x4 v26n10 v19n5 v15n11) (
    optK (bin2 Tryz.prog .sub 3 x7 (Value.int .i64 1)) fun v15n12 =>
    zaco lf d fu k x0 x1 x4 v26n10 (Value.bool false) v15n12))) (
  k (Ex.exit 0) [(0, x0), (1, x1), (4, x4), (5, x5), (6, x6), (7, x7), (13, v13n3)]) := by kernel_rfl
theorem zbdy (lf d : Nat) (y0 y1 y4 y5 y6 y7 y13 : Value) : zakm lf d (Ex.exit 0) [(0, y0), (1, y1), (4, y4), (5, y5), (6, y6), (7, y7), (13, y13)] =
 zahe lf d lf (zakn lf d) y0 y1 y4 y5 y6 y7 y13 := by kernel_rfl
theorem zapn (lf d fu : Nat) (k : Ex → Fr → M Value) (x0 x1 x4 x5 x6 x7 x13 : Value) : zahe lf d (fu + 1) k x0 x1 x4 x5 x6 x7 x13 =
 optK (len2 Tryz.prog #[9] [x5]) fun v32n13 =>
 optK (bin2 Tryz.prog .lss 3 v32n13 x1) fun v34n14 =>
 ifV v34n14 (
  optK (bin2 Tryz.prog .add 9 x5 (Value.string { data := #[48] })) fun v36n15 =>
  zahe lf d fu k x0 x1 x4 v36n15 x6 x7 x13) (
  k (Ex.exit 2) [(0, x0), (1, x1), (4, x4), (5, x5), (6, x6), (7, x7), (13, x13), (34, v34n14)]) := by kernel_rfl
theorem zbcw (lf d : Nat) (y0 y1 y4 y5 y6 y7 y13 y34 : Value) : zakn lf d (Ex.exit 2) [(0, y0), (1, y1), (4, y4), (5, y5), (6, y6), (7, y7), (13, y13), (34, y34)] =
 outK [y5] := by kernel_rfl

noncomputable def zafn (lf d fu : Nat) (k : Ex → Fr → M Value) (x0 x2 x3 x4 : Value) : M Value := loopK (fun s1 k1 => codeK Tryz.prog (zaac Tryz.prog gt lf d) (gt 86) lf (codeAt (bodyOf Tryz.prog 86) [true, true, false, true, false, false]) s1 k1) [0, 2, 3, 4] fu [(0, x0), (2, x2), (3, x3), (4, x4)] k
noncomputable def zait (lf d : Nat) : Ex → Fr → M Value := contAt Tryz.prog (zaac Tryz.prog gt lf d) (gt 86) lf (bodyOf Tryz.prog 86) [true, true, false, true, false] (endK Tryz.prog (resOf Tryz.prog 86))
noncomputable def zarq (lf d : Nat) (a0 : Value) : M Value :=
 zafn lf d lf (zait lf d) a0 (Value.int .u32 0) (Value.int .u32 0) (Value.int .i64 0)
theorem zbef (lf d : Nat) (a0 : Value) : zaac Tryz.prog gt lf (d + 1) 86 #[a0] = inside (zarq lf d a0) := by kernel_rfl
theorem zamy (lf d fu : Nat) (k : Ex → Fr → M Value) (x0 x2 x3 x4 : Value) : zafn lf d (fu + 1) k x0 x2 x3 x4 =
 optK (len2 Tryz.prog #[9] [x0]) fun v7n1 =>
 optK (bin2 Tryz.prog .lss 3 x4 v7n1) fun v8n2 =>
 ifV v8n2 (
  optK (bin2 Tryz.prog .mul 23 (Value.int .u32 2) x3) fun v12n3 =>
  optK (zaee Tryz.prog 9 x0 x4) fun v15n4 =>
  optK (bin2 Tryz.prog .sub 5 v15n4 (Value.int .u8 48)) fun v16n5 =>
  conv2 Tryz.prog 5 23 v16n5 fun v17n6 =>
  optK (bin2 Tryz.prog .add 23 v12n3 v17n6) fun v18n7 =>
  optK (bin2 Tryz.prog .add 3 x4 (Value.int .i64 1)) fun v10n8 =>
  zafn lf d fu k x0 x2 v18n7 v10n8) (
  k (Ex.exit 0) [(0, x0), (2, x2), (3, x3), (4, x4), (8, v8n2)]) := by kernel_rfl
theorem zbat (lf d : Nat) (y0 y2 y3 y4 y8 : Value) : zait lf d (Ex.exit 0) [(0, y0), (2, y2), (3, y3), (4, y4), (8, y8)] =
 outK [y3] := by kernel_rfl

noncomputable def zahb (lf d fu : Nat) (k : Ex → Fr → M Value) (x0 x2 x3 : Value) : M Value := loopK (fun s1 k1 => codeK Tryz.prog (zaac Tryz.prog gt lf d) (gt 87) lf (codeAt (bodyOf Tryz.prog 87) [true, true, false, false, false]) s1 k1) [0, 2, 3] fu [(0, x0), (2, x2), (3, x3)] k
noncomputable def zakk (lf d : Nat) : Ex → Fr → M Value := contAt Tryz.prog (zaac Tryz.prog gt lf d) (gt 87) lf (bodyOf Tryz.prog 87) [true, true, false, false] (endK Tryz.prog (resOf Tryz.prog 87))
noncomputable def zawf (lf d : Nat) (a0 : Value) : M Value :=
 zahb lf d lf (zakk lf d) a0 (Value.int .i64 0) (Value.int .i64 0)
theorem zbhu (lf d : Nat) (a0 : Value) : zaac Tryz.prog gt lf (d + 1) 87 #[a0] = inside (zawf lf d a0) := by kernel_rfl
theorem zapj (lf d fu : Nat) (k : Ex → Fr → M Value) (x0 x2 x3 : Value) : zahb lf d (fu + 1) k x0 x2 x3 =
 optK (len2 Tryz.prog #[9] [x0]) fun v6n1 =>
 optK (bin2 Tryz.prog .lss 3 x3 v6n1) fun v7n2 =>
 ifV v7n2 (
  optK (zaee Tryz.prog 9 x0 x3) fun v11n3 =>
  optK (bin2 Tryz.prog .eql 5 v11n3 (Value.int .u8 49)) fun v12n4 =>
  ifV v12n4 (
   optK (bin2 Tryz.prog .add 3 x3 (Value.int .i64 1)) fun v15n5 =>
   zahb lf d fu k x0 x2 v15n5) (
   k (Ex.exit 0) [(0, x0), (2, x2), (3, x3), (13, v12n4)])) (
  k (Ex.exit 0) [(0, x0), (2, x2), (3, x3), (13, (Value.bool false))]) := by kernel_rfl
theorem zapt (lf d : Nat) (y0 y2 y3 y13 : Value) : zakk lf d (Ex.exit 0) [(0, y0), (2, y2), (3, y3), (13, y13)] =
 outK [y3] := by kernel_rfl

noncomputable def zacn (lf d fu : Nat) (k : Ex → Fr → M Value) (x0 x1 x4 x5 x6 x7 x10 x21 : Value) : M Value := loopK (fun s1 k1 => codeK Tryz.prog (zaac Tryz.prog gt lf d) (gt 88) lf (codeAt (bodyOf Tryz.prog 88) [true, true, true, true, true, true, false, false, false]) s1 k1) [0, 1, 4, 5, 6, 7, 10, 21] fu [(0, x0), (1, x1), (4, x4), (5, x5), (6, x6), (7, x7), (10, x10), (21, x21)] k
noncomputable def zacp (lf d : Nat) : Ex → Fr → M Value := contAt Tryz.prog (zaac Tryz.prog gt lf d) (gt 88) lf (bodyOf Tryz.prog 88) [true, true, true, true, true, true, false, false] (endK Tryz.prog (resOf Tryz.prog 88))
noncomputable def zawd (lf d : Nat) (a0 a1 : Value) : M Value :=
 (inside (evAlloc Tryz.prog 126)).bind fun v4n1 =>
 optK (len2 Tryz.prog #[9] [a0]) fun v9n2 =>
 optK (bin2 Tryz.prog .lss 3 v9n2 (Value.int .i64 5)) fun v10n3 =>
 ifV v10n3 (
  (inside (evBuild Tryz.prog 126 [(2, (Value.int .i64 3))])).bind fun v11n4 =>
  (inside (evStore Tryz.prog 126 v4n1 v11n4)).bind fun u5 =>
  (evLoad Tryz.prog 126 v4n1).bind fun vrn6 =>
  outK [vrn6]) (
  zabo Tryz.prog 9 a0 none (some (Value.int .i64 5)) none fun v13n7 =>
  (inside (zaac Tryz.prog gt lf d 86 #[v13n7])).bind fun v14n8 =>
  conv2 Tryz.prog 23 3 v14n8 fun v15n9 =>
  optK (bin2 Tryz.prog .lss 3 v15n9 (Value.int .i64 1)) fun v17n10 =>
  ifV v17n10 (
   (inside (evBuild Tryz.prog 126 [(2, (Value.int .i64 22))])).bind fun v22n11 =>
   (inside (evStore Tryz.prog 126 v4n1 v22n11)).bind fun u12 =>
   (evLoad Tryz.prog 126 v4n1).bind fun vrn13 =>
   outK [vrn13]) (
   optK (bin2 Tryz.prog .gtr 3 v15n9 (Value.int .i64 20)) fun v20n14 =>
   ifV v20n14 (
    (inside (evBuild Tryz.prog 126 [(2, (Value.int .i64 22))])).bind fun v22n15 =>
    (inside (evStore Tryz.prog 126 v4n1 v22n15)).bind fun u16 =>
    (evLoad Tryz.prog 126 v4n1).bind fun vrn17 =>
    outK [vrn17]) (
    zacn lf d lf (zacp lf d) a0 a1 v4n1 v15n9 (Value.slice none 0 0) (Value.int .i64 5) v10n3 v20n14)))
theorem zbhz (lf d : Nat) (a0 a1 : Value) : zaac Tryz.prog gt lf (d + 1) 88 #[a0, a1] = inside (zawd lf d a0 a1) := by kernel_rfl
theorem zbbw (lf d fu : Nat) (k : Ex → Fr → M Value) (x0 x1 x4 x5 x6 x7 x10 x21 : Value) : zacn lf d (fu + 1) k x0 x1 x4 x5 x6 x7 x10 x21 =
 optK (len2 Tryz.prog #[22] [x6]) fun v24n18 =>
 optK (bin2 Tryz.prog .lss 3 v24n18 x1) fun v26n19 =>
 ifV v26n19 (
  optK (len2 Tryz.prog #[9] [x0]) fun v29n20 =>
  optK (bin2 Tryz.prog .eql 3 x7 v29n20) fun v30n21 =>
  ifV v30n21 (
   (inside (evBuild Tryz.prog 126 [(2, (Value.int .i64 3))])).bind fun v31n22 =>
   (inside (evStore Tryz.prog 126 x4 v31n22)).bind fun u23 =>
   k Ex.ret [(0, x0), (1, x1), (4, x4), (5, x5), (6, x6), (7, x7), (10, x10), (21, x21), (26, v26n19), (30, v30n21)]) (
   optK (zaee Tryz.prog 9 x0 x7) fun v34n24 =>
   optK (bin2 Tryz.prog .eql 5 v34n24 (Value.int .u8 48)) fun v35n25 =>
   ifV v35n25 (
    (inside (evBuildSlice Tryz.prog 22 1 [(0, x5)])).bind fun v38n26 =>
    (inside (evAppend Tryz.prog 22 x6 v38n26)).bind fun v39n27 =>
    optK (bin2 Tryz.prog .add 3 x7 (Value.int .i64 1)) fun v41n28 =>
    zacn lf d fu k x0 x1 x4 x5 v39n27 v41n28 x10 x21) (
    optK (bin2 Tryz.prog .add 3 x7 (Value.int .i64 1)) fun v43n29 =>
    optK (len2 Tryz.prog #[9] [x0]) fun v45n30 =>
    optK (bin2 Tryz.prog .eql 3 v43n29 v45n30) fun v46n31 =>
    ifV v46n31 (
     (inside (evBuild Tryz.prog 126 [(2, (Value.int .i64 3))])).bind fun v47n32 =>
     (inside (evStore Tryz.prog 126 x4 v47n32)).bind fun u33 =>
     k Ex.ret [(0, x0), (1, x1), (4, x4), (5, x5), (6, x6), (7, x7), (10, x10), (21, x21), (26, v26n19), (30, v30n21), (35, v35n25), (46, v46n31)]) (
     optK (bin2 Tryz.prog .add 3 x7 (Value.int .i64 1)) fun v50n34 =>
     optK (zaee Tryz.prog 9 x0 v50n34) fun v51n35 =>
     optK (bin2 Tryz.prog .eql 5 v51n35 (Value.int .u8 48)) fun v52n36 =>
     ifV v52n36 (
      optK (bin2 Tryz.prog .add 3 x5 (Value.int .i64 1)) fun v54n37 =>
      optK (bin2 Tryz.prog .lss 3 v54n37 (Value.int .i64 1)) fun v58n38 =>
      ifV v58n38 (
       (inside (evBuild Tryz.prog 126 [(2, (Value.int .i64 22))])).bind fun v63n39 =>
       (inside (evStore Tryz.prog 126 x4 v63n39)).bind fun u40 =>
       k Ex.ret [(0, x0), (1, x1), (4, x4), (5, v54n37), (6, x6), (7, x7), (10, x10), (21, x21), (26, v26n19), (30, v30n21), (35, v35n25), (46, v46n31), (52, v52n36), (62, (Value.bool true))]) (
       optK (bin2 Tryz.prog .gtr 3 v54n37 (Value.int .i64 20)) fun v61n41 =>
       ifV v61n41 (
        (inside (evBuild Tryz.prog 126 [(2, (Value.int .i64 22))])).bind fun v63n42 =>
        (inside (evStore Tryz.prog 126 x4 v63n42)).bind fun u43 =>
        k Ex.ret [(0, x0), (1, x1), (4, x4), (5, v54n37), (6, x6), (7, x7), (10, x10), (21, x21), (26, v26n19), (30, v30n21), (35, v35n25), (46, v46n31), (52, v52n36), (62, v61n41)]) (
        optK (bin2 Tryz.prog .add 3 x7 (Value.int .i64 2)) fun v65n44 =>
        zacn lf d fu k x0 x1 x4 v54n37 x6 v65n44 x10 x21))) (
      optK (bin2 Tryz.prog .sub 3 x5 (Value.int .i64 1)) fun v56n45 =>
      optK (bin2 Tryz.prog .lss 3 v56n45 (Value.int .i64 1)) fun v58n46 =>
      ifV v58n46 (
       (inside (evBuild Tryz.prog 126 [(2, (Value.int .i64 22))])).bind fun v63n47 =>
       (inside (evStore Tryz.prog 126 x4 v63n47)).bind fun u48 =>
       k Ex.ret [(0, x0), (1, x1), (4, x4), (5, v56n45), (6, x6), (7, x7), (10, x10), (21, x21), (26, v26n19), (30, v30n21), (35, v35n25), (46, v46n31), (52, v52n36), (62, (Value.bool true))]) (
       optK (bin2 Tryz.prog .gtr 3 v56n45 (Value.int .i64 20)) fun v61n49 =>
       ifV v61n49 (
        (inside (evBuild Tryz.prog 126 [(2, (Value.int .i64 22))])).bind fun v63n50 =>
        (inside (evStore Tryz.prog 126 x4 v63n50)).bind fun u51 =>
        k Ex.ret [(0, x0), (1, x1), (4, x4), (5, v56n45), (6, x6), (7, x7), (10, x10), (21, x21), (26, v26n19), (30, v30n21), (35, v35n25), (46, v46n31), (52, v52n36), (62, v61n49)]) (
        optK (bin2 Tryz.prog .add 3 x7 (Value.int .i64 2)) fun v65n52 =>
        zacn lf d fu k x0 x1 x4 v56n45 x6 v65n52 x10 x21))))))) (
  k (Ex.exit 0) [(0, x0), (1, x1), (4, x4), (5, x5), (6, x6), (7, x7), (10, x10), (21, x21), (26, v26n19)]) := by kernel_rfl
theorem zbdb (lf d : Nat) (y0 y1 y4 y5 y6 y7 y10 y21 y26 y30 : Value) : zacp lf d Ex.ret [(0, y0), (1, y1), (4, y4), (5, y5), (6, y6), (7, y7), (10, y10), (21, y21), (26, y26), (30, y30)] =
 (evLoad Tryz.prog 126 y4).bind fun vrn53 =>
 outK [vrn53] := by kernel_rfl
theorem zbdw (lf d : Nat) (y0 y1 y4 y5 y6 y7 y10 y21 y26 y30 y35 y46 : Value) : zacp lf d Ex.ret [(0, y0), (1, y1), (4, y4), (5, y5), (6, y6), (7, y7), (10, y10), (21, y21), (26, y26), (30, y30), (35, y35), (46, y46)] =
 (evLoad Tryz.prog 126 y4).bind fun vrn54 =>
 outK [vrn54] := by kernel_rfl
theorem zaqu (lf d : Nat) (y0 y1 y4 y5 y6 y7 y10 y21 y26 y30 y35 y46 y52 y62 : Value) : zacp lf d Ex.ret [(0, y0), (1, y1), (4, y4), (5, y5), (6, y6), (7, y7), (10, y10), (21, y21), (26, y26), (30, y30), (35, y35), (46, y46), (52, y52), (62, y62)] =
 (evLoad Tryz.prog 126 y4).bind fun vrn55 =>
 outK [vrn55] := by kernel_rfl
theorem zbdq (lf d : Nat) (y0 y1 y4 y5 y6 y7 y10 y21 y26 : Value) : zacp lf d (Ex.exit 0) [(0, y0), (1, y1), (4, y4), (5, y5), (6, y6), (7, y7), (10, y10), (21, y21), (26, y26)] =
 (inside (evBuild Tryz.prog 126 [(0, y6), (1, y7)])).bind fun v68n56 =>
 (inside (evStore Tryz.prog 126 y4 v68n56)).bind fun u57 =>
 (evLoad Tryz.prog 126 y4).bind fun vrn58 =>
 outK [vrn58] := by kernel_rfl

noncomputable def zauo (lf d : Nat) (a0 : Value) : M Value :=
 (inside (zaac Tryz.prog gt lf d 117 #[a0, (Value.int .i64 1), (Value.int .i64 20)])).bind fun v4n1 =>
 ifV v4n1 (
  (inside (zaac Tryz.prog gt lf d 119 #[a0])).bind fun v7n2 =>
  optK (bin2 Tryz.prog .eql 3 v7n2 (Value.int .i64 1048576)) fun v8n3 =>
  outK [v8n3]) (
  outK [(Value.bool false)])
theorem zbgv (lf d : Nat) (a0 : Value) : zaac Tryz.prog gt lf (d + 1) 89 #[a0] = inside (zauo lf d a0) := by kernel_rfl

noncomputable def zarr (lf d : Nat) (a0 a1 : Value) : M Value :=
 optK (len2 Tryz.prog #[9] [a0]) fun v6n1 =>
 optK (len2 Tryz.prog #[9] [a1]) fun v8n2 =>
 optK (bin2 Tryz.prog .geq 3 v6n1 v8n2) fun v9n3 =>
 ifV v9n3 (
  optK (len2 Tryz.prog #[9] [a1]) fun v13n4 =>
  zabo Tryz.prog 9 a0 none (some v13n4) none fun v14n5 =>
  optK (bin2 Tryz.prog .eql 9 v14n5 a1) fun v16n6 =>
  outK [v16n6]) (
  outK [(Value.bool false)])
theorem zbds (lf d : Nat) (a0 a1 : Value) : zaac Tryz.prog gt lf (d + 1) 90 #[a0, a1] = inside (zarr lf d a0 a1) := by kernel_rfl

noncomputable def zbfi (lf d : Nat) (a0 : Value) : M Value :=
 optK (bin2 Tryz.prog .geq 3 a0 (Value.int .i64 3)) fun v4n1 =>
 ifV v4n1 (
  optK (bin2 Tryz.prog .leq 3 a0 (Value.int .i64 258)) fun v7n2 =>
  outK [v7n2]) (
  outK [(Value.bool false)])
theorem zboz (lf d : Nat) (a0 : Value) : zaac Tryz.prog gt lf (d + 1) 91 #[a0] = inside (zbfi lf d a0) := by kernel_rfl

noncomputable def zafp (lf d fu : Nat) (k : Ex → Fr → M Value) (x0 x1 x3 : Value) : M Value := loopK (fun s1 k1 => codeK Tryz.prog (zaac Tryz.prog gt lf d) (gt 92) lf (codeAt (bodyOf Tryz.prog 92) [true, true, false, true, false, false]) s1 k1) [0, 1, 3] fu [(0, x0), (1, x1), (3, x3)] k
noncomputable def zaei (lf d : Nat) : Ex → Fr → M Value := contAt Tryz.prog (zaac Tryz.prog gt lf d) (gt 92) lf (bodyOf Tryz.prog 92) [true, true, false, true, false] (endK Tryz.prog (resOf Tryz.prog 92))
noncomputable def zbfh (lf d : Nat) : M Value :=
 (inside (evAlloc Tryz.prog 132)).bind fun v0n1 =>
 (inside (evAlloc Tryz.prog 132)).bind fun v1n2 =>
 zafp lf d lf (zaei lf d) v0n1 v1n2 (Value.int .i64 0)
theorem zbpi (lf d : Nat) : zaac Tryz.prog gt lf (d + 1) 92 #[] = inside (zbfh lf d) := by kernel_rfl
theorem zbju (lf d fu : Nat) (k : Ex → Fr → M Value) (x0 x1 x3 : Value) : zafp lf d (fu + 1) k x0 x1 x3 =
 optK (bin2 Tryz.prog .lss 3 x3 (Value.int .i64 6)) fun v4n3 =>
 ifV v4n3 (
  optK (evIndexAddr Tryz.prog 132 x1 x3) fun v8n4 =>
  (inside (evStore Tryz.prog 3 v8n4 x3)).bind fun u5 =>
  optK (bin2 Tryz.prog .add 3 x3 (Value.int .i64 1)) fun v9n6 =>
  zafp lf d fu k x0 x1 v9n6) (
  k (Ex.exit 0) [(0, x0), (1, x1), (3, x3), (4, v4n3)]) := by kernel_rfl
theorem zbkv (lf d : Nat) (y0 y1 y3 y4 : Value) : zaei lf d (Ex.exit 0) [(0, y0), (1, y1), (3, y3), (4, y4)] =
 (inside (evLoad Tryz.prog 132 y1)).bind fun v10n7 =>
 (inside (evStore Tryz.prog 132 y0 v10n7)).bind fun u8 =>
 (evLoad Tryz.prog 132 y0).bind fun vrn9 =>
 outK [vrn9] := by kernel_rfl

noncomputable def zayk (lf d : Nat) (a0 a1 : Value) : M Value :=
 optK (bin2 Tryz.prog .eql 72 a0 (Value.pointer none)) fun v10n1 =>
 ifV v10n1 (
  outK [(Value.int .i64 0), (Value.int .i64 7)]) (
  optK (bin2 Tryz.prog .eql 42 a1 (Value.pointer none)) fun v13n2 =>
  ifV v13n2 (
   outK [(Value.int .i64 0), (Value.int .i64 7)]) (
   (inside (zaac Tryz.prog gt lf d 24 #[a1])).bind fun v16n3 =>
   (inside (zaac Tryz.prog gt lf d 120 #[a0, a1])).bind fun v20n4 =>
   optK (evExtract v20n4 0) fun v21n5 =>
   optK (evExtract v20n4 1) fun v22n6 =>
   optK (bin2 Tryz.prog .neq 29 v22n6 (Value.int .i64 0)) fun v24n7 =>
   ifV v24n7 (
    (inside (zaac Tryz.prog gt lf d 21 #[a1, v16n3])).bind fun v27n8 =>
    outK [v21n5, v22n6]) (
    outK [v21n5, v22n6])))
theorem zbjr (lf d : Nat) (a0 a1 : Value) : zaac Tryz.prog gt lf (d + 1) 93 #[a0, a1] = inside (zayk lf d a0 a1) := by kernel_rfl

noncomputable def zarw (lf d : Nat) (a0 a1 : Value) : M Value :=
 optK (bin2 Tryz.prog .eql 97 a0 (Value.pointer none)) fun v10n1 =>
 ifV v10n1 (
  outK [(Value.int .i64 7)]) (
  optK (bin2 Tryz.prog .eql 42 a1 (Value.pointer none)) fun v13n2 =>
  ifV v13n2 (
   outK [(Value.int .i64 7)]) (
   (inside (zaac Tryz.prog gt lf d 59 #[a0])).bind fun v17n3 =>
   ifV v17n3 (
    outK [(Value.int .i64 7)]) (
    optK (nil2 a0) fun v21n4 =>
    optK (evFieldAddr Tryz.prog 135 v21n4 4) fun v22n5 =>
    (inside (evLoad Tryz.prog 4 v22n5)).bind fun v23n6 =>
    ifV v23n6 (
     outK [(Value.int .i64 25)]) (
     (inside (zaac Tryz.prog gt lf d 24 #[a1])).bind fun v25n7 =>
     optK (nil2 a0) fun v29n8 =>
     optK (evFieldAddr Tryz.prog 135 v29n8 1) fun v30n9 =>
     (inside (evLoad Tryz.prog 3 v30n9)).bind fun v31n10 =>
     optK (bin2 Tryz.prog .eql 3 v31n10 (Value.int .i64 0)) fun v32n11 =>
     ifV v32n11 (
      callV Tryz.prog (zaac Tryz.prog gt lf d) (Value.func (Go.Fn.func 122) #[a0] #[]) [a1] fun v37n12 =>
      optK (bin2 Tryz.prog .eql 29 v37n12 (Value.int .i64 3)) fun v39n13 =>
      ifV v39n13 (
       (inside (zaac Tryz.prog gt lf d 21 #[a1, v25n7])).bind fun v42n14 =>
       outK [v37n12]) (
       outK [v37n12])) (
      callV Tryz.prog (zaac Tryz.prog gt lf d) (Value.func (Go.Fn.func 121) #[a0] #[]) [a1] fun v37n15 =>
      optK (bin2 Tryz.prog .eql 29 v37n15 (Value.int .i64 3)) fun v39n16 =>
      ifV v39n16 (
       (inside (zaac Tryz.prog gt lf d 21 #[a1, v25n7])).bind fun v42n17 =>
       outK [v37n15]) (
       outK [v37n15]))))))
theorem zbdu (lf d : Nat) (a0 a1 : Value) : zaac Tryz.prog gt lf (d + 1) 94 #[a0, a1] = inside (zarw lf d a0 a1) := by kernel_rfl

noncomputable def zarx (lf d : Nat) (a0 a1 : Value) : M Value :=
 optK (bin2 Tryz.prog .eql 94 a0 (Value.pointer none)) fun v9n1 =>
 ifV v9n1 (
  outK [(Value.int .i64 7)]) (
  optK (bin2 Tryz.prog .eql 42 a1 (Value.pointer none)) fun v12n2 =>
  ifV v12n2 (
   outK [(Value.int .i64 7)]) (
   (inside (zaac Tryz.prog gt lf d 96 #[a0])).bind fun v16n3 =>
   ifV v16n3 (
    outK [(Value.int .i64 7)]) (
    optK (nil2 a0) fun v20n4 =>
    optK (evFieldAddr Tryz.prog 130 v20n4 3) fun v21n5 =>
    (inside (evLoad Tryz.prog 4 v21n5)).bind fun v22n6 =>
    ifV v22n6 (
     outK [(Value.int .i64 22)]) (
     (inside (zaac Tryz.prog gt lf d 24 #[a1])).bind fun v24n7 =>
     (inside (zaac Tryz.prog gt lf d 123 #[a0, a1])).bind fun v27n8 =>
     optK (bin2 Tryz.prog .eql 29 v27n8 (Value.int .i64 3)) fun v29n9 =>
     ifV v29n9 (
      (inside (zaac Tryz.prog gt lf d 21 #[a1, v24n7])).bind fun v32n10 =>
      outK [v27n8]) (
      outK [v27n8])))))
theorem zbee (lf d : Nat) (a0 a1 : Value) : zaac Tryz.prog gt lf (d + 1) 95 #[a0, a1] = inside (zarx lf d a0 a1) := by kernel_rfl

noncomputable def zarn (lf d : Nat) (a0 : Value) : M Value :=
 optK (bin2 Tryz.prog .neq 94 a0 (Value.pointer none)) fun v4n1 =>
 ifV v4n1 (
  optK (nil2 a0) fun v7n2 =>
  optK (evFieldAddr Tryz.prog 130 v7n2 2) fun v8n3 =>
  (inside (evLoad Tryz.prog 22 v8n3)).bind fun v9n4 =>
  optK (len2 Tryz.prog #[22] [v9n4]) fun v10n5 =>
  optK (nil2 a0) fun v12n6 =>
  optK (evFieldAddr Tryz.prog 130 v12n6 0) fun v13n7 =>
  (inside (evLoad Tryz.prog 3 v13n7)).bind fun v14n8 =>
  optK (bin2 Tryz.prog .eql 3 v10n5 v14n8) fun v15n9 =>
  outK [v15n9]) (
  outK [(Value.bool false)])
theorem zbdv (lf d : Nat) (a0 : Value) : zaac Tryz.prog gt lf (d + 1) 96 #[a0] = inside (zarn lf d a0) := by kernel_rfl

noncomputable def zasi (lf d : Nat) (a0 : Value) : M Value :=
 optK (bin2 Tryz.prog .eql 94 a0 (Value.pointer none)) fun v4n1 =>
 ifV v4n1 (
  outK [(Value.slice none 0 0)]) (
  optK (nil2 a0) fun v6n2 =>
  optK (evFieldAddr Tryz.prog 130 v6n2 2) fun v7n3 =>
  (inside (evLoad Tryz.prog 22 v7n3)).bind fun v8n4 =>
  (inside (zaac Tryz.prog gt lf d 72 #[v8n4])).bind fun v9n5 =>
  outK [v9n5])
theorem zbdt (lf d : Nat) (a0 : Value) : zaac Tryz.prog gt lf (d + 1) 97 #[a0] = inside (zasi lf d a0) := by kernel_rfl

noncomputable def zbbo (lf d : Nat) (a0 : Value) : M Value :=
 optK (bin2 Tryz.prog .geq 3 a0 (Value.int .i64 2)) fun v4n1 =>
 ifV v4n1 (
  optK (bin2 Tryz.prog .leq 3 a0 (Value.int .i64 6)) fun v7n2 =>
  outK [v7n2]) (
  outK [(Value.bool false)])
theorem zbmz (lf d : Nat) (a0 : Value) : zaac Tryz.prog gt lf (d + 1) 102 #[a0] = inside (zbbo lf d a0) := by kernel_rfl

noncomputable def zaqo (lf d fu : Nat) (k : Ex → Fr → M Value) (x0 x1 x4 x5 : Value) : M Value := loopK (fun s1 k1 => codeK Tryz.prog (zaac Tryz.prog gt lf d) (gt 105) lf (codeAt (bodyOf Tryz.prog 105) [true, true, false, false, false]) s1 k1) [0, 1, 4, 5] fu [(0, x0), (1, x1), (4, x4), (5, x5)] k
noncomputable def zagj (lf d : Nat) : Ex → Fr → M Value := contAt Tryz.prog (zaac Tryz.prog gt lf d) (gt 105) lf (bodyOf Tryz.prog 105) [true, true, false, false] (endK Tryz.prog (resOf Tryz.prog 105))
noncomputable def zbcb (lf d : Nat) (a0 : Value) : M Value :=
 optK (bin2 Tryz.prog .geq 3 a0 (Value.int .i64 1)) fun v4n1 =>
 ifV v4n1 (
  optK (bin2 Tryz.prog .leq 3 a0 (Value.int .i64 20)) fun v7n2 =>
  outK [v7n2]) (
  outK [(Value.bool false)])
theorem zbnf (lf d : Nat) (a0 : Value) : zaac Tryz.prog gt lf (d + 1) 107 #[a0] = inside (zbcb lf d a0) := by kernel_rfl

noncomputable def zadz (lf d fu : Nat) (k : Ex → Fr → M Value) (x0 x1 x4 x5 x6 x7 : Value) : M Value := loopK (fun s1 k1 => codeK Tryz.prog (zaac Tryz.prog gt lf d) (gt 120) lf (codeAt (bodyOf Tryz.prog 120) [true, true, false, true, false, false]) s1 k1) [0, 1, 4, 5, 6, 7] fu [(0, x0), (1, x1), (4, x4), (5, x5), (6, x6), (7, x7)] k
noncomputable def zacf (lf d : Nat) : Ex → Fr → M Value := contAt Tryz.prog (zaac Tryz.prog gt lf d) (gt 120) lf (bodyOf Tryz.prog 120) [true, true, false, true, false] (endK Tryz.prog (resOf Tryz.prog 120))
noncomputable def zaxe (lf d : Nat) (a0 a1 : Value) : M Value :=
 zadz lf d lf (zacf lf d) a0 a1 (Value.int .i64 0) (Value.int .i64 0) (Value.int .i64 0) (Value.int .i64 1)
theorem zbjx (lf d : Nat) (a0 a1 : Value) : zaac Tryz.prog gt lf (d + 1) 120 #[a0, a1] = inside (zaxe lf d a0 a1) := by kernel_rfl
theorem zbdf (lf d fu : Nat) (k : Ex → Fr → M Value) (x0 x1 x4 x5 x6 x7 : Value) : zadz lf d (fu + 1) k x0 x1 x4 x5 x6 x7 =
 optK (bin2 Tryz.prog .leq 3 x7 (Value.int .i64 20)) fun v12n1 =>
 ifV v12n1 (
  (inside (zaac Tryz.prog gt lf d 136 #[x1, (Value.int .i64 1)])).bind fun v17n2 =>
  optK (evExtract v17n2 0) fun v18n3 =>
  optK (evExtract v17n2 1) fun v19n4 =>
  optK (bin2 Tryz.prog .neq 29 v19n4 (Value.int .i64 0)) fun v21n5 =>
  ifV v21n5 (
   k Ex.ret [(0, x0), (1, x1), (4, (Value.int .i64 0)), (5, v19n4), (6, x6), (7, x7), (8, v18n3), (9, v19n4), (12, v12n1), (21, v21n5)]) (
   optK (bin2 Tryz.prog .mul 3 (Value.int .i64 2) x6) fun v24n6 =>
   conv2 Tryz.prog 23 3 v18n3 fun v26n7 =>
   optK (bin2 Tryz.prog .add 3 v24n6 v26n7) fun v27n8 =>
   optK (nil2 x0) fun v30n9 =>
   optK (evFieldAddr Tryz.prog 111 v30n9 4) fun v31n10 =>
   optK (evIndexAddr Tryz.prog 109 v31n10 x7) fun v32n11 =>
   (inside (evLoad Tryz.prog 3 v32n11)).bind fun v33n12 =>
   optK (bin2 Tryz.prog .add 3 v33n12 v27n8) fun v35n13 =>
   optK (nil2 x0) fun v38n14 =>
   optK (evFieldAddr Tryz.prog 111 v38n14 3) fun v39n15 =>
   optK (evIndexAddr Tryz.prog 108 v39n15 x7) fun v40n16 =>
   (inside (evLoad Tryz.prog 3 v40n16)).bind fun v41n17 =>
   optK (bin2 Tryz.prog .sub 3 v35n13 v41n17) fun v42n18 =>
   optK (bin2 Tryz.prog .add 3 x7 (Value.int .i64 1)) fun v46n19 =>
   optK (nil2 x0) fun v47n20 =>
   optK (evFieldAddr Tryz.prog 111 v47n20 4) fun v48n21 =>
   optK (evIndexAddr Tryz.prog 109 v48n21 v46n19) fun v49n22 =>
   (inside (evLoad Tryz.prog 3 v49n22)).bind fun v50n23 =>
   optK (bin2 Tryz.prog .lss 3 v42n18 v50n23) fun v51n24 =>
   ifV v51n24 (
    optK (nil2 x0) fun v53n25 =>
    optK (evFieldAddr Tryz.prog 111 v53n25 2) fun v54n26 =>
    (inside (evLoad Tryz.prog 22 v54n26)).bind fun v55n27 =>
    optK (evIndexAddr Tryz.prog 22 v55n27 v42n18) fun v57n28 =>
    (inside (evLoad Tryz.prog 3 v57n28)).bind fun v58n29 =>
    k Ex.ret [(0, x0), (1, x1), (4, v58n29), (5, (Value.int .i64 0)), (6, v27n8), (7, x7), (8, v18n3), (9, v19n4), (10, v42n18), (12, v12n1), (21, v21n5), (51, v51n24)]) (
    optK (bin2 Tryz.prog .add 3 x7 (Value.int .i64 1)) fun v14n30 =>
    zadz lf d fu k x0 x1 x4 x5 v27n8 v14n30))) (
  k (Ex.exit 0) [(0, x0), (1, x1), (4, x4), (5, x5), (6, x6), (7, x7), (12, v12n1)]) := by kernel_rfl
theorem zbgn (lf d : Nat) (y0 y1 y4 y5 y6 y7 y8 y9 y12 y21 : Value) : zacf lf d Ex.ret [(0, y0), (1, y1), (4, y4), (5, y5), (6, y6), (7, y7), (8, y8), (9, y9), (12, y12), (21, y21)] =
 outK [y4, y5] := by kernel_rfl
theorem zbgo (lf d : Nat) (y0 y1 y4 y5 y6 y7 y8 y9 y10 y12 y21 y51 : Value) : zacf lf d Ex.ret [(0, y0), (1, y1), (4, y4), (5, y5), (6, y6), (7, y7), (8, y8), (9, y9), (10, y10), (12, y12), (21, y21), (51, y51)] =
 outK [y4, y5] := by kernel_rfl
noncomputable def zada (lf d fu : Nat) (k : Ex → Fr → M Value) (x0 x1 x4 x11 x12 : Value) : M Value := loopK (fun s1 k1 => codeK Tryz.prog (zaac Tryz.prog gt lf d) (gt 121) lf (codeAt (bodyOf Tryz.prog 121) [true, false, true, false, false]) s1 k1) [0, 1, 4, 11, 12] fu [(0, x0), (1, x1), (4, x4), (11, x11), (12, x12)] k
noncomputable def zabi (lf d : Nat) : Ex → Fr → M Value := contAt Tryz.prog (zaac Tryz.prog gt lf d) (gt 121) lf (bodyOf Tryz.prog 121) [true, false, true, false] (endK Tryz.prog (resOf Tryz.prog 121))
noncomputable def zarm (lf d : Nat) (a0 a1 : Value) : M Value :=
 optK (nil2 a0) fun v9n1 =>
 optK (evFieldAddr Tryz.prog 135 v9n1 0) fun v10n2 =>
 (inside (evLoad Tryz.prog 3 v10n2)).bind fun v11n3 =>
 zada lf d lf (zabi lf d) a0 a1 (Value.int .i64 0) v11n3 (Value.int .i64 0)
theorem zbda (lf d : Nat) (a0 a1 : Value) : zaac Tryz.prog gt lf (d + 1) 121 #[a0, a1] = inside (zarm lf d a0 a1) := by kernel_rfl
theorem zanb (lf d fu : Nat) (k : Ex → Fr → M Value) (x0 x1 x4 x11 x12 : Value) : zada lf d (fu + 1) k x0 x1 x4 x11 x12 =
 optK (bin2 Tryz.prog .lss 3 x12 x11) fun v13n4 =>
 ifV v13n4 (
  (inside (zaac Tryz.prog gt lf d 136 #[x1, (Value.int .i64 1)])).bind fun v17n5 =>
  optK (evExtract v17n5 0) fun v18n6 =>
  optK (evExtract v17n5 1) fun v19n7 =>
  optK (bin2 Tryz.prog .neq 29 v19n7 (Value.int .i64 0)) fun v21n8 =>
  ifV v21n8 (
   k Ex.ret [(0, x0), (1, x1), (4, v19n7), (5, x12), (6, v18n6), (7, v19n7), (11, x11), (12, x12), (13, v13n4), (21, v21n8)]) (
   optK (bin2 Tryz.prog .eql 23 v18n6 (Value.int .u32 0)) fun v24n9 =>
   ifV v24n9 (
    optK (nil2 x0) fun v27n10 =>
    optK (evFieldAddr Tryz.prog 135 v27n10 3) fun v28n11 =>
    (timed (
     (inside (evLoad Tryz.prog 22 v28n11)).bind fun v29n13 => M.ret v29n13)).bind fun vtn12 =>
    optK (nil2 x0) fun v31n14 =>
    optK (evFieldAddr Tryz.prog 135 v31n14 2) fun v32n15 =>
    (timed (
     (inside (zaac Tryz.prog gt lf d 129 #[v32n15, x12])).bind fun v34n17 => M.ret v34n17)).bind fun vtn16 =>
    (timed (
     (inside (evBuildSlice Tryz.prog 22 1 [(0, vtn16.1)])).bind fun v35n19 => M.ret v35n19)).bind fun vtn18 =>
    (timed (
     (inside (evAppend Tryz.prog 22 vtn12.1 vtn18.1)).bind fun v36n21 => M.ret v36n21)).bind fun vtn20 =>
    optK (nil2 x0) fun v37n22 =>
    optK (evFieldAddr Tryz.prog 135 v37n22 3) fun v38n23 =>
    (timed (
     (inside (evStore Tryz.prog 22 v38n23 vtn20.1)).bind fun u25 => M.ret u25)).bind fun vtn24 =>
    chkT ((!(Tk.clash vtn12.2 vtn16.2) && true) && true) (
     k Ex.ret [(0, x0), (1, x1), (4, (Value.int .i64 0)), (5, x12), (6, v18n6), (7, v19n7), (11, x11), (12, x12), (13, v13n4), (21, v21n8), (24, v24n9)])) (
    optK (bin2 Tryz.prog .add 3 x12 (Value.int .i64 1)) fun v39n26 =>
    zada lf d fu k x0 x1 x4 x11 v39n26))) (
  k (Ex.exit 0) [(0, x0), (1, x1), (4, x4), (11, x11), (12, x12), (13, v13n4)]) := by kernel_rfl
theorem zbar (lf d : Nat) (y0 y1 y4 y5 y6 y7 y11 y12 y13 y21 : Value) : zabi lf d Ex.ret [(0, y0), (1, y1), (4, y4), (5, y5), (6, y6), (7, y7), (11, y11), (12, y12), (13, y13), (21, y21)] =
 outK [y4] := by kernel_rfl
theorem zbay (lf d : Nat) (y0 y1 y4 y5 y6 y7 y11 y12 y13 y21 y24 : Value) : zabi lf d Ex.ret [(0, y0), (1, y1), (4, y4), (5, y5), (6, y6), (7, y7), (11, y11), (12, y12), (13, y13), (21, y21), (24, y24)] =
 outK [y4] := by kernel_rfl
theorem zbbc (lf d : Nat) (y0 y1 y4 y11 y12 y13 : Value) : zabi lf d (Ex.exit 0) [(0, y0), (1, y1), (4, y4), (11, y11), (12, y12), (13, y13)] =
 (inside (zaac Tryz.prog gt lf d 137 #[y0])).bind fun v41n27 =>
 outK [v41n27] := by kernel_rfl

noncomputable def zasf (lf d : Nat) (a0 a1 : Value) : M Value :=
 (inside (zaac Tryz.prog gt lf d 136 #[a1, (Value.int .i64 18)])).bind fun v11n1 =>
 optK (evExtract v11n1 0) fun v12n2 =>
 optK (evExtract v11n1 1) fun v13n3 =>
 optK (bin2 Tryz.prog .neq 29 v13n3 (Value.int .i64 0)) fun v15n4 =>
 ifV v15n4 (
  outK [v13n3]) (
  optK (bin2 Tryz.prog .shr 23 v12n2 (Value.int .u64 15)) fun v18n5 =>
  conv2 Tryz.prog 23 3 v18n5 fun v19n6 =>
  optK (bin2 Tryz.prog .and 23 v12n2 (Value.int .u32 32767)) fun v21n7 =>
  conv2 Tryz.prog 23 3 v21n7 fun v22n8 =>
  (inside (zaac Tryz.prog gt lf d 102 #[v19n6])).bind fun v24n9 =>
  optK (un2 Tryz.prog .not v24n9) fun v25n10 =>
  ifV v25n10 (
   (inside (zaac Tryz.prog gt lf d 137 #[a0])).bind fun v31n11 =>
   outK [v31n11]) (
   optK (bin2 Tryz.prog .eql 3 v22n8 (Value.int .i64 0)) fun v28n12 =>
   ifV v28n12 (
    (inside (zaac Tryz.prog gt lf d 137 #[a0])).bind fun v31n13 =>
    outK [v31n13]) (
    optK (nil2 a0) fun v34n14 =>
    optK (evFieldAddr Tryz.prog 135 v34n14 0) fun v35n15 =>
    (inside (evStore Tryz.prog 3 v35n15 v19n6)).bind fun u16 =>
    optK (nil2 a0) fun v38n17 =>
    optK (evFieldAddr Tryz.prog 135 v38n17 1) fun v39n18 =>
    (inside (evStore Tryz.prog 3 v39n18 v22n8)).bind fun u19 =>
    outK [(Value.int .i64 0)])))
theorem zbec (lf d : Nat) (a0 a1 : Value) : zaac Tryz.prog gt lf (d + 1) 122 #[a0, a1] = inside (zasf lf d a0 a1) := by kernel_rfl

noncomputable def zars (lf d : Nat) (a0 a1 : Value) : M Value :=
 optK (nil2 a0) fun v10n1 =>
 optK (evFieldAddr Tryz.prog 130 v10n1 1) fun v11n2 =>
 (inside (evLoad Tryz.prog 3 v11n2)).bind fun v12n3 =>
 optK (bin2 Tryz.prog .eql 3 v12n3 (Value.int .i64 0)) fun v13n4 =>
 ifV v13n4 (
  (inside (zaac Tryz.prog gt lf d 136 #[a1, (Value.int .i64 5)])).bind fun v16n5 =>
  optK (evExtract v16n5 0) fun v17n6 =>
  optK (evExtract v16n5 1) fun v18n7 =>
  optK (bin2 Tryz.prog .neq 29 v18n7 (Value.int .i64 0)) fun v20n8 =>
  ifV v20n8 (
   outK [v18n7]) (
   conv2 Tryz.prog 23 3 v17n6 fun v24n9 =>
   (inside (zaac Tryz.prog gt lf d 138 #[a0, v24n9])).bind fun v25n10 =>
   outK [v25n10])) (
  (inside (zaac Tryz.prog gt lf d 136 #[a1, (Value.int .i64 1)])).bind fun v28n11 =>
  optK (evExtract v28n11 0) fun v29n12 =>
  optK (evExtract v28n11 1) fun v30n13 =>
  optK (bin2 Tryz.prog .neq 29 v30n13 (Value.int .i64 0)) fun v32n14 =>
  ifV v32n14 (
   outK [v30n13]) (
   optK (bin2 Tryz.prog .eql 23 v29n12 (Value.int .u32 0)) fun v35n15 =>
   ifV v35n15 (
    optK (nil2 a0) fun v38n16 =>
    optK (evFieldAddr Tryz.prog 130 v38n16 2) fun v39n17 =>
    (inside (evLoad Tryz.prog 22 v39n17)).bind fun v40n18 =>
    optK (nil2 a0) fun v42n19 =>
    optK (evFieldAddr Tryz.prog 130 v42n19 1) fun v43n20 =>
    (inside (evLoad Tryz.prog 3 v43n20)).bind fun v44n21 =>
    (inside (evBuildSlice Tryz.prog 22 1 [(0, v44n21)])).bind fun v45n22 =>
    (inside (evAppend Tryz.prog 22 v40n18 v45n22)).bind fun v46n23 =>
    optK (nil2 a0) fun v47n24 =>
    optK (evFieldAddr Tryz.prog 130 v47n24 2) fun v48n25 =>
    (inside (evStore Tryz.prog 22 v48n25 v46n23)).bind fun u26 =>
    outK [(Value.int .i64 0)]) (
    (inside (zaac Tryz.prog gt lf d 136 #[a1, (Value.int .i64 1)])).bind fun v51n27 =>
    optK (evExtract v51n27 0) fun v52n28 =>
    optK (evExtract v51n27 1) fun v53n29 =>
    optK (bin2 Tryz.prog .neq 29 v53n29 (Value.int .i64 0)) fun v55n30 =>
    ifV v55n30 (
     outK [v53n29]) (
     optK (nil2 a0) fun v59n31 =>
     optK (evFieldAddr Tryz.prog 130 v59n31 1) fun v60n32 =>
     (inside (evLoad Tryz.prog 3 v60n32)).bind fun v61n33 =>
     optK (bin2 Tryz.prog .add 3 v61n33 (Value.int .i64 1)) fun v62n34 =>
     conv2 Tryz.prog 23 3 v52n28 fun v64n35 =>
     optK (bin2 Tryz.prog .mul 3 (Value.int .i64 2) v64n35) fun v65n36 =>
     optK (bin2 Tryz.prog .sub 3 v62n34 v65n36) fun v66n37 =>
     (inside (zaac Tryz.prog gt lf d 138 #[a0, v66n37])).bind fun v67n38 =>
     outK [v67n38]))))
theorem zbeq (lf d : Nat) (a0 a1 : Value) : zaac Tryz.prog gt lf (d + 1) 123 #[a0, a1] = inside (zars lf d a0 a1) := by kernel_rfl

noncomputable def zacz (lf d fu : Nat) (k : Ex → Fr → M Value) (x0 x1 x4 x5 x6 : Value) : M Value := loopK (fun s1 k1 => codeK Tryz.prog (zaac Tryz.prog gt lf d) (gt 129) lf (codeAt (bodyOf Tryz.prog 129) [true, true, false, true, false, false]) s1 k1) [0, 1, 4, 5, 6] fu [(0, x0), (1, x1), (4, x4), (5, x5), (6, x6)] k
noncomputable def zace (lf d : Nat) : Ex → Fr → M Value := contAt Tryz.prog (zaac Tryz.prog gt lf d) (gt 129) lf (bodyOf Tryz.prog 129) [true, true, false, true, false] (endK Tryz.prog (resOf Tryz.prog 129))
noncomputable def zarp (lf d : Nat) (a0 a1 : Value) : M Value :=
 optK (nil2 a0) fun v9n1 =>
 optK (evIndexAddr Tryz.prog 132 v9n1 a1) fun v10n2 =>
 (inside (evLoad Tryz.prog 3 v10n2)).bind fun v11n3 =>
 zacz lf d lf (zace lf d) a0 a1 (Value.int .i64 0) v11n3 a1
theorem zbcu (lf d : Nat) (a0 a1 : Value) : zaac Tryz.prog gt lf (d + 1) 129 #[a0, a1] = inside (zarp lf d a0 a1) := by kernel_rfl
theorem zana (lf d fu : Nat) (k : Ex → Fr → M Value) (x0 x1 x4 x5 x6 : Value) : zacz lf d (fu + 1) k x0 x1 x4 x5 x6 =
 optK (bin2 Tryz.prog .gtr 3 x6 (Value.int .i64 0)) fun v14n4 =>
 ifV v14n4 (
  optK (bin2 Tryz.prog .sub 3 x6 (Value.int .i64 1)) fun v21n5 =>
  optK (nil2 x0) fun v22n6 =>
  optK (evIndexAddr Tryz.prog 132 v22n6 v21n5) fun v23n7 =>
  (inside (evLoad Tryz.prog 3 v23n7)).bind fun v24n8 =>
  optK (nil2 x0) fun v25n9 =>
  optK (evIndexAddr Tryz.prog 132 v25n9 x6) fun v26n10 =>
  (inside (evStore Tryz.prog 3 v26n10 v24n8)).bind fun u11 =>
  optK (bin2 Tryz.prog .sub 3 x6 (Value.int .i64 1)) fun v16n12 =>
  zacz lf d fu k x0 x1 x4 x5 v16n12) (
  k (Ex.exit 0) [(0, x0), (1, x1), (4, x4), (5, x5), (6, x6), (14, v14n4)]) := by kernel_rfl
theorem zbai (lf d : Nat) (y0 y1 y4 y5 y6 y14 : Value) : zace lf d (Ex.exit 0) [(0, y0), (1, y1), (4, y4), (5, y5), (6, y6), (14, y14)] =
 optK (nil2 y0) fun v29n13 =>
 optK (evIndexAddr Tryz.prog 132 v29n13 (Value.int .i64 0)) fun v30n14 =>
 (inside (evStore Tryz.prog 3 v30n14 y5)).bind fun u15 =>
 outK [y5] := by kernel_rfl

noncomputable def zadv (lf d fu : Nat) (k : Ex → Fr → M Value) (x0 x1 x4 x5 x6 x7 x10 x17 x22 x23 : Value) : M Value := loopK (fun s1 k1 => codeK Tryz.prog (zaac Tryz.prog gt lf d) (gt 136) lf (codeAt (bodyOf Tryz.prog 136) [true, true, true, false, true, false, false]) s1 k1) [0, 1, 4, 5, 6, 7, 10, 17, 22, 23] fu [(0, x0), (1, x1), (4, x4), (5, x5), (6, x6), (7, x7), (10, x10), (17, x17), (22, x22), (23, x23)] k
noncomputable def zacm (lf d : Nat) : Ex → Fr → M Value := contAt Tryz.prog (zaac Tryz.prog gt lf d) (gt 136) lf (bodyOf Tryz.prog 136) [true, true, true, false, true, false] (endK Tryz.prog (resOf Tryz.prog 136))
noncomputable def zawl (lf d : Nat) (a0 a1 : Value) : M Value :=
 optK (bin2 Tryz.prog .eql 42 a0 (Value.pointer none)) fun v9n1 =>
 ifV v9n1 (
  outK [(Value.int .u32 0), (Value.int .i64 7)]) (
  optK (bin2 Tryz.prog .lss 3 a1 (Value.int .i64 0)) fun v12n2 =>
  ifV v12n2 (
   outK [(Value.int .u32 0), (Value.int .i64 1)]) (
   optK (bin2 Tryz.prog .gtr 3 a1 (Value.int .i64 32)) fun v15n3 =>
   ifV v15n3 (
    outK [(Value.int .u32 0), (Value.int .i64 1)]) (
    (inside (zaac Tryz.prog gt lf d 144 #[a0])).bind fun v19n4 =>
    optK (bin2 Tryz.prog .lss 3 v19n4 a1) fun v21n5 =>
    ifV v21n5 (
     outK [(Value.int .u32 0), (Value.int .i64 3)]) (
     zadv lf d lf (zacm lf d) a0 a1 (Value.int .u32 0) (Value.int .i64 0) (Value.int .u32 0) v9n1 v15n3 v21n5 a1 (Value.int .i64 0)))))
theorem zbha (lf d : Nat) (a0 a1 : Value) : zaac Tryz.prog gt lf (d + 1) 136 #[a0, a1] = inside (zawl lf d a0 a1) := by kernel_rfl
theorem zaoz (lf d fu : Nat) (k : Ex → Fr → M Value) (x0 x1 x4 x5 x6 x7 x10 x17 x22 x23 : Value) : zadv lf d (fu + 1) k x0 x1 x4 x5 x6 x7 x10 x17 x22 x23 =
 optK (bin2 Tryz.prog .lss 3 x23 x22) fun v24n6 =>
 ifV v24n6 (
  optK (bin2 Tryz.prog .shl 23 x6 (Value.int .u64 1)) fun v26n7 =>
  optK (nil2 x0) fun v29n8 =>
  optK (evFieldAddr Tryz.prog 85 v29n8 2) fun v30n9 =>
  (inside (evLoad Tryz.prog 3 v30n9)).bind fun v31n10 =>
  (inside (zaac Tryz.prog gt lf d 145 #[x0, v31n10])).bind fun v32n11 =>
  optK (bin2 Tryz.prog .or 23 v26n7 v32n11) fun v33n12 =>
  optK (nil2 x0) fun v35n13 =>
  optK (evFieldAddr Tryz.prog 85 v35n13 2) fun v36n14 =>
  (inside (evLoad Tryz.prog 3 v36n14)).bind fun v37n15 =>
  optK (bin2 Tryz.prog .add 3 v37n15 (Value.int .i64 1)) fun v38n16 =>
  optK (nil2 x0) fun v39n17 =>
  optK (evFieldAddr Tryz.prog 85 v39n17 2) fun v40n18 =>
  (inside (evStore Tryz.prog 3 v40n18 v38n16)).bind fun u19 =>
  optK (bin2 Tryz.prog .add 3 x23 (Value.int .i64 1)) fun v41n20 =>
  zadv lf d fu k x0 x1 x4 x5 v33n12 x7 x10 x17 x22 v41n20) (
  k (Ex.exit 1) [(0, x0), (1, x1), (4, x4), (5, x5), (6, x6), (7, x7), (10, x10), (17, x17), (22, x22), (23, x23), (24, v24n6)]) := by kernel_rfl
theorem zbdz (lf d : Nat) (y0 y1 y4 y5 y6 y7 y10 y17 y22 y23 y24 : Value) : zacm lf d (Ex.exit 1) [(0, y0), (1, y1), (4, y4), (5, y5), (6, y6), (7, y7), (10, y10), (17, y17), (22, y22), (23, y23), (24, y24)] =
 outK [y6, (Value.int .i64 0)] := by kernel_rfl

noncomputable def zary (lf d : Nat) (a0 : Value) : M Value :=
 optK (nil2 a0) fun v4n1 =>
 optK (evFieldAddr Tryz.prog 135 v4n1 4) fun v5n2 =>
 (inside (evStore Tryz.prog 4 v5n2 (Value.bool true))).bind fun u3 =>
 outK [(Value.int .i64 25)]
theorem zbel (lf d : Nat) (a0 : Value) : zaac Tryz.prog gt lf (d + 1) 137 #[a0] = inside (zary lf d a0) := by kernel_rfl

noncomputable def zapm (lf d : Nat) (a0 a1 : Value) : M Value :=
 (inside (zaac Tryz.prog gt lf d 107 #[a1])).bind fun v6n1 =>
 optK (un2 Tryz.prog .not v6n1) fun v7n2 =>
 ifV v7n2 (
  optK (nil2 a0) fun v9n3 =>
  optK (evFieldAddr Tryz.prog 130 v9n3 3) fun v10n4 =>
  (inside (evStore Tryz.prog 4 v10n4 (Value.bool true))).bind fun u5 =>
  outK [(Value.int .i64 22)]) (
  optK (nil2 a0) fun v13n6 =>
  optK (evFieldAddr Tryz.prog 130 v13n6 1) fun v14n7 =>
  (inside (evStore Tryz.prog 3 v14n7 a1)).bind fun u8 =>
  outK [(Value.int .i64 0)])
theorem zbaq (lf d : Nat) (a0 a1 : Value) : zaac Tryz.prog gt lf (d + 1) 138 #[a0, a1] = inside (zapm lf d a0 a1) := by kernel_rfl

noncomputable def zauh (lf d : Nat) (a0 : Value) : M Value :=
 optK (bin2 Tryz.prog .eql 42 a0 (Value.pointer none)) fun v4n1 =>
 ifV v4n1 (
  outK [(Value.int .i64 0)]) (
  (timed (
   (inside (zaac Tryz.prog gt lf d 51 #[a0])).bind fun v6n3 => M.ret v6n3)).bind fun vtn2 =>
  optK (nil2 a0) fun v8n4 =>
  optK (evFieldAddr Tryz.prog 85 v8n4 2) fun v9n5 =>
  (timed (
   (inside (evLoad Tryz.prog 3 v9n5)).bind fun v10n7 => M.ret v10n7)).bind fun vtn6 =>
  optK (bin2 Tryz.prog .sub 3 vtn2.1 vtn6.1) fun v11n8 =>
  chkT ((!(Tk.clash vtn2.2 vtn6.2) && true) && true) (
   outK [v11n8]))
theorem zbgj (lf d : Nat) (a0 : Value) : zaac Tryz.prog gt lf (d + 1) 144 #[a0] = inside (zauh lf d a0) := by kernel_rfl

noncomputable def zavw (lf d : Nat) (a0 a1 : Value) : M Value :=
 optK (nil2 a0) fun v7n1 =>
 optK (evFieldAddr Tryz.prog 85 v7n1 0) fun v8n2 =>
 (inside (evLoad Tryz.prog 9 v8n2)).bind fun v9n3 =>
 optK (bin2 Tryz.prog .quo 3 a1 (Value.int .i64 8)) fun v11n4 =>
 optK (nil2 a0) fun v13n5 =>
 optK (evFieldAddr Tryz.prog 85 v13n5 1) fun v14n6 =>
 (inside (evLoad Tryz.prog 3 v14n6)).bind fun v15n7 =>
 optK (bin2 Tryz.prog .sub 3 v11n4 v15n7) fun v16n8 =>
 optK (zaee Tryz.prog 9 v9n3 v16n8) fun v17n9 =>
 optK (bin2 Tryz.prog .rem 3 a1 (Value.int .i64 8)) fun v20n10 =>
 optK (bin2 Tryz.prog .sub 3 (Value.int .i64 7) v20n10) fun v21n11 =>
 optK (bin2 Tryz.prog .shr 5 v17n9 v21n11) fun v22n12 =>
 optK (bin2 Tryz.prog .and 5 v22n12 (Value.int .u8 1)) fun v23n13 =>
 conv2 Tryz.prog 5 23 v23n13 fun v24n14 =>
 outK [v24n14]
theorem zbiw (lf d : Nat) (a0 a1 : Value) : zaac Tryz.prog gt lf (d + 1) 145 #[a0, a1] = inside (zavw lf d a0 a1) := by kernel_rfl

end Go.Proofs.YtdagfcflbphoiaaGreatDoor

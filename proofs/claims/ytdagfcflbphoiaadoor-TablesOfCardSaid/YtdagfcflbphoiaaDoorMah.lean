/- The functions of the closed test of layer 12 as text that the kernel runs. -/
import Derived.Test.YtdagfcflbphoiaaDoorMag
namespace Go.Proofs.YtdagfcflbphoiaaDoor.Fa
set_option linter.unusedVariables false
set_option linter.unusedSimpArgs false
open Go Go.RowKit Ev
noncomputable abbrev PP : Program := Tryd.prog
abbrev RT := FuncId → Array Value → M Value
abbrev KT := Ex → Fr → M Value
def gtAL : List (List Nat) := [[], [], [], [], [], [], [], [], [0, 1, 2, 3, 4], [0, 1, 3, 4, 5, 6, 7, 8, 9, 11, 12, 19, 21, 22, 23, 24, 36, 54], [], [], [], [], [], [0, 1, 4, 5, 6, 7, 8, 9, 10, 11, 18, 27, 40, 41], [], [], [], [0, 2, 3, 5, 6, 7, 8, 12], [], [], [], [], [], [], [], [], [0, 1, 4, 5, 10, 12, 13, 14, 24], [0, 2, 4], [0, 1, 4, 5, 14], [0, 1, 4, 5, 6, 8, 11, 12, 13, 14, 15, 25], [], [], [0, 1, 4, 5, 6, 8, 14, 17, 18, 19, 20, 29], [0, 2, 3, 4, 5, 9, 10, 11], [0, 1, 4, 5, 6, 7, 8, 9, 10, 11, 12, 18, 19, 20, 29, 30, 31, 32, 42, 43, 44, 48], [0, 1, 2, 6, 7, 8, 9, 10, 12, 13, 14, 16, 18, 20, 21, 27, 28, 29, 37, 38, 39, 40, 70, 71, 72, 73], [], [0, 2, 3, 4, 5, 6, 7, 20, 24, 25, 26, 27, 41], [], [], [], [], [], [], [], [0, 1, 2, 6], [0, 2], [0, 1, 4], [0, 1, 4, 5, 6, 7, 8, 9, 11, 12, 13, 14, 26], [0, 1, 4, 5, 6, 7, 22, 27, 28, 29], [0, 1, 2, 4, 5, 6], [0, 2, 3, 4, 5, 6, 11, 12, 13, 32], [0, 2, 3, 5, 6, 7, 8, 9], [0, 2, 4], [0, 2, 3, 4, 5, 9, 10, 11, 12], [], [], [0, 1, 4], [0, 2], [0, 2], [0, 1, 2, 4], [0, 1, 2, 3, 4, 12, 13, 14], [0, 2, 3, 46], [0, 1, 2], [], [], [0, 1, 4, 5, 7, 8, 9, 16], [0, 1], [0, 1, 2, 5], [0, 1, 4, 5, 6, 11, 12, 13, 16, 19], [], [0, 1, 2, 6, 7, 8, 9, 13, 30, 35, 54], [0, 2], [0, 1, 2, 3, 8, 9, 14, 34], [0, 1, 2, 3, 4, 10, 11, 12, 13, 14, 15, 16, 17, 18, 19, 20, 21, 22, 23, 24, 28, 33, 50, 58, 80, 85, 103, 110, 140, 151, 171, 185, 199, 213], [0, 1, 2, 3, 4, 10, 11, 20, 23], [0, 1, 2, 3, 10, 13], [], [], [], [], [], [], [], [], [], [], [], [], [], [], [], [], [], [], [], [], []]
def gtA (f : Nat) : List Nat := gtAL.getD f []
noncomputable def evC (lf : Nat) : Nat → RT := evCallN kn0 PP gtA lf
theorem az25 : evAllocZ 25 [Value.slice none 0 0, Value.slice none 0 0] = evAlloc PP 25 := by refine evAllocZ_eq (z := .agg ⟨[Value.slice none 0 0, Value.slice none 0 0]⟩) ?_ ?_ <;> kernel_rfl
theorem bz25 : evBuildZ PP 25 [Value.slice none 0 0, Value.slice none 0 0] = evBuild PP 25 := by refine evBuildZ_eq (z := .agg ⟨[Value.slice none 0 0, Value.slice none 0 0]⟩) ?_ ?_ <;> kernel_rfl
theorem bz72 : evBuildZ PP 72 [Value.slice none 0 0, Value.slice none 0 0, Value.slice none 0 0, Value.int .i64 0] = evBuild PP 72 := by refine evBuildZ_eq (z := .agg ⟨[Value.slice none 0 0, Value.slice none 0 0, Value.slice none 0 0, Value.int .i64 0]⟩) ?_ ?_ <;> kernel_rfl
theorem cw3x84 (x : Int) (k : Value → M Value) : conv2 PP 3 84 (.int .i64 x) k = k (.int .u64 (IntKind.u64.wrap x)) := by kernel_rfl
theorem cw84x3 (x : Int) (k : Value → M Value) : conv2 PP 84 3 (.int .u64 x) k = k (.int .i64 (IntKind.i64.wrap x)) := by kernel_rfl
theorem ga22 : agg? PP 22 = some false := by kernel_rfl
theorem ga23 : agg? PP 23 = some false := by kernel_rfl
theorem ga25 : agg? PP 25 = some true := by kernel_rfl
theorem ga3 : agg? PP 3 = some false := by kernel_rfl
theorem ga58 : agg? PP 58 = some true := by kernel_rfl
theorem gf25f0 (b off : Nat) : evFieldAddr PP 25 (.pointer (some ⟨b, off, none⟩)) 0 = some (.pointer (some ⟨b, off + 0, none⟩)) := by kernel_rfl
theorem gf25f1 (b off : Nat) : evFieldAddr PP 25 (.pointer (some ⟨b, off, none⟩)) 1 = some (.pointer (some ⟨b, off + 1, none⟩)) := by kernel_rfl
theorem gf72f0 (b off : Nat) : evFieldAddr PP 72 (.pointer (some ⟨b, off, none⟩)) 0 = some (.pointer (some ⟨b, off + 0, none⟩)) := by kernel_rfl
theorem gf72f1 (b off : Nat) : evFieldAddr PP 72 (.pointer (some ⟨b, off, none⟩)) 1 = some (.pointer (some ⟨b, off + 1, none⟩)) := by kernel_rfl
theorem gf72f2 (b off : Nat) : evFieldAddr PP 72 (.pointer (some ⟨b, off, none⟩)) 2 = some (.pointer (some ⟨b, off + 2, none⟩)) := by kernel_rfl
theorem gf72f3 (b off : Nat) : evFieldAddr PP 72 (.pointer (some ⟨b, off, none⟩)) 3 = some (.pointer (some ⟨b, off + 3, none⟩)) := by kernel_rfl
theorem gs22 : size? PP 22 = some 1 := by kernel_rfl
theorem gs25 : size? PP 25 = some 2 := by kernel_rfl
theorem gs3 : size? PP 3 = some 1 := by kernel_rfl
theorem gs58 : size? PP 58 = some 4 := by kernel_rfl
theorem nf27 : isNilT PP 27 = false := by kernel_rfl
theorem nf3 : isNilT PP 3 = false := by kernel_rfl
theorem nf84 : isNilT PP 84 = false := by kernel_rfl

noncomputable def F_balerlaw12_three (lf d : Nat) (rec : RT) : M Value :=
  insB (evBS3 PP 22 3 [(0, (Value.int .i64 0)), (1, (Value.int .i64 1)), (2, (Value.int .i64 2))]) fun v6n1 =>
  (inside (rec 15 #[v6n1, (Value.int .i64 3)])).bind fun v7n2 =>
  optK (evExtract v7n2 0) fun v8n3 =>
  optK (evExtract v7n2 1) fun v9n4 =>
  insB (evAllocZ 25 [Value.slice none 0 0, Value.slice none 0 0]) fun v1n5 =>
  insB (evStoreA3 PP 25 2 v1n5 v8n3) fun u6 =>
  insB (evBS3 PP 22 3 [(0, (Value.int .i64 0)), (1, (Value.int .i64 1)), (2, (Value.int .i64 2))]) fun v11n7 =>
  insB (evLoadA3 PP 25 2 v1n5) fun v12n8 =>
  (inside (rec 9 #[v11n7, v12n8])).bind fun v13n9 =>
  optK (evExtract v13n9 0) fun v14n10 =>
  optK (evExtract v13n9 1) fun v15n11 =>
  optK (q_eql PP 27 v9n4 (Value.int .i64 0)) fun v17n12 =>
  ifV v17n12 (
    optK (q_eql PP 27 v15n11 (Value.int .i64 0)) fun v20n13 =>
    ifV v20n13 (
      optK (evFA3 PP 25 0 v1n5 0) fun v23n14 =>
      insB (evLoad3 PP 23 v23n14) fun v24n15 =>
      optK (len2 PP #[23] [v24n15]) fun v25n16 =>
      optK (q_eql PP 3 v25n16 (Value.int .i64 2)) fun v26n17 =>
      ifV v26n17 (
        optK (evFA3 PP 25 1 v1n5 1) fun v29n18 =>
        insB (evLoad3 PP 22 v29n18) fun v30n19 =>
        insB (evBS3 PP 22 1 [(0, (Value.int .i64 0))]) fun v31n20 =>
        (inside (rec 28 #[v30n19, v31n20])).bind fun v32n21 =>
        ifV v32n21 (
          optK (q_eql PP 3 v14n10 (Value.int .i64 5)) fun v36n22 =>
          ifV v36n22 (
            (inside (rec 19 #[(Value.int .i64 199)])).bind fun v39n23 =>
            optK (q_eql PP 3 v39n23 (Value.int .i64 2)) fun v40n24 =>
            ifV v40n24 (
              (inside (rec 19 #[(Value.int .i64 2400)])).bind fun v43n25 =>
              optK (q_eql PP 3 v43n25 (Value.int .i64 6)) fun v44n26 =>
              outK [v44n26]) (
              outK [(Value.bool false)])) (
            outK [(Value.bool false)])) (
          outK [(Value.bool false)])) (
        outK [(Value.bool false)])) (
      outK [(Value.bool false)])) (
    outK [(Value.bool false)])
theorem fsh_balerlaw12_three (lf d : Nat) : inside (F_balerlaw12_three lf d (evC lf d)) = evC lf (d + 1) 8 #[] := by
  unfold F_balerlaw12_three; (try simp only [az25, clash3_eq, evBS3_eq, evFA3_eq (P := PP) gf25f0, evFA3_eq (P := PP) gf25f1, evLoad3_eq (P := PP) ga22, evLoad3_eq (P := PP) ga23, evLoadA3_eq (P := PP) ga25 gs25, evStoreA3_eq (P := PP) gs25, insB_eq, q_eql_eq (P := PP) nf27, q_eql_eq (P := PP) nf3]); kernel_rfl

noncomputable def lpA_tables_Cost (lf d fu : Nat) (k : KT) (x0 x1 x3 x4 x5 x6 x19 x21 x22 x23 : Value) : M Value := loopK (fun s1 k1 => codeK PP (evC lf d) (gtA 9) lf (codeAt (bodyOf PP 9) [true, true, true, false, true, false, false]) s1 k1) [0, 1, 3, 4, 5, 6, 19, 21, 22, 23] fu [(0, x0), (1, x1), (3, x3), (4, x4), (5, x5), (6, x6), (19, x19), (21, x21), (22, x22), (23, x23)] k
noncomputable def kcA_tables_Cost (lf d : Nat) : KT := contAt PP (evC lf d) (gtA 9) lf (bodyOf PP 9) [true, true, true, false, true, false] (endK PP (resOf PP 9))
noncomputable def LA_tables_Cost (lf d : Nat) (rec : RT) (k : KT) : Nat → Value → Value → Value → Value → Value → Value → Value → Value → Value → Value → M Value
  | 0, _, _, _, _, _, _, _, _, _, _ => M.fail
  | fu + 1, x0, x1, x3, x4, x5, x6, x19, x21, x22, x23 =>
    optK (q_lss PP 3 x23 x22) fun v24n13 =>
    ifV v24n13 (
      optK (evIA3 PP 22 1 x21 x23) fun v26n14 =>
      insB (evLoad3 PP 3 v26n14) fun v27n15 =>
      optK (q_lss PP 3 v27n15 (Value.int .i64 0)) fun v29n16 =>
      ifV v29n16 (
        k Ex.ret [(0, x0), (1, x1), (3, x3), (4, (Value.int .i64 0)), (5, (Value.int .i64 1)), (6, x6), (7, x23), (8, v27n15), (19, x19), (21, x21), (22, x22), (23, x23), (24, v24n13), (36, (Value.bool true))]) (
        optK (evFA3 PP 25 0 x3 0) fun v32n17 =>
        insB (evLoad3 PP 23 v32n17) fun v33n18 =>
        optK (len2 PP #[23] [v33n18]) fun v34n19 =>
        optK (q_geq PP 3 v27n15 v34n19) fun v35n20 =>
        ifV v35n20 (
          k Ex.ret [(0, x0), (1, x1), (3, x3), (4, (Value.int .i64 0)), (5, (Value.int .i64 1)), (6, x6), (7, x23), (8, v27n15), (19, x19), (21, x21), (22, x22), (23, x23), (24, v24n13), (36, v35n20)]) (
          (inside (rec 30 #[x0, x23])).bind fun v40n21 =>
          optK (evExtract v40n21 0) fun v41n22 =>
          optK (evExtract v40n21 1) fun v42n23 =>
          optK (evFA3 PP 25 0 x3 0) fun v45n24 =>
          insB (evLoad3 PP 23 v45n24) fun v46n25 =>
          optK (evIA3 PP 23 1 v46n25 v27n15) fun v48n26 =>
          insB (evLoad3 PP 22 v48n26) fun v49n27 =>
          (inside (rec 31 #[v41n22, v49n27])).bind fun v50n28 =>
          optK (evExtract v50n28 0) fun v51n29 =>
          optK (evExtract v50n28 1) fun v52n30 =>
          optK (q_neq PP 27 v52n30 (Value.int .i64 0)) fun v54n31 =>
          ifV v54n31 (
            k Ex.ret [(0, x0), (1, x1), (3, x3), (4, (Value.int .i64 0)), (5, v52n30), (6, x6), (7, x23), (8, v27n15), (9, v41n22), (11, v51n29), (12, v52n30), (19, x19), (21, x21), (22, x22), (23, x23), (24, v24n13), (36, v35n20), (54, v54n31)]) (
            optK (q_add PP 3 x6 v51n29) fun v58n32 =>
            optK (min2 [v58n32, (Value.int .i64 1099511627776)]) fun v59n33 =>
            optK (q_add PP 3 x23 (Value.int .i64 1)) fun v60n34 =>
            LA_tables_Cost lf d rec k fu x0 x1 x3 x4 x5 v59n33 x19 x21 x22 v60n34)))) (
      k (Ex.exit 0) [(0, x0), (1, x1), (3, x3), (4, x4), (5, x5), (6, x6), (19, x19), (21, x21), (22, x22), (23, x23), (24, v24n13)])
noncomputable def KA_tables_Cost (lf d : Nat) (rec : RT) (dflt : KT) : KT := (kEx 0 (runCur [0, 1, 3, 4, 5, 6, 19, 21, 22, 23, 24] (fun y0 y1 y3 y4 y5 y6 y19 y21 y22 y23 y24 =>
  outK [y6, (Value.int .i64 0)]) (dflt (Ex.exit 0))) (kRt (runCur [0, 1, 3, 4, 5, 6, 7, 8, 9, 11, 12, 19, 21, 22, 23, 24, 36, 54] (fun y0 y1 y3 y4 y5 y6 y7 y8 y9 y11 y12 y19 y21 y22 y23 y24 y36 y54 =>
  outK [y4, y5]) (runCur [0, 1, 3, 4, 5, 6, 7, 8, 19, 21, 22, 23, 24, 36] (fun y0 y1 y3 y4 y5 y6 y7 y8 y19 y21 y22 y23 y24 y36 =>
  outK [y4, y5]) (dflt Ex.ret))) dflt))
noncomputable def F_tables_Cost (lf d : Nat) (rec : RT) (a0 a1 : Value) : M Value :=
  insB (evBox3 PP 25 a1) fun v3n1 =>
  optK (evFA3 PP 25 1 v3n1 1) fun v13n2 =>
  (timed (
    insB (evLoad3 PP 22 v13n2) fun v14n4 => M.ret v14n4)).bind fun vtn3 =>
  optK (len2 PP #[22] [vtn3.1]) fun v15n5 =>
  optK (len2 PP #[22] [a0]) fun v17n6 =>
  (timed (
    (inside (rec 29 #[v17n6])).bind fun v18n8 => M.ret v18n8)).bind fun vtn7 =>
  optK (q_neq PP 3 v15n5 vtn7.1) fun v19n9 =>
  chkT ((!(clash3 vtn3.2 vtn7.2) && true) && true) (
    ifV v19n9 (
      outK [(Value.int .i64 0), (Value.int .i64 1)]) (
      optK (evFA3 PP 25 1 v3n1 1) fun v20n10 =>
      insB (evLoad3 PP 22 v20n10) fun v21n11 =>
      optK (len2 PP #[22] [v21n11]) fun v22n12 =>
      LA_tables_Cost lf d rec (KA_tables_Cost lf d rec (kcA_tables_Cost lf d)) lf a0 a1 v3n1 (Value.int .i64 0) (Value.int .i64 0) (Value.int .i64 0) v19n9 v21n11 v22n12 (Value.int .i64 0)))
theorem LQA_tables_Cost (lf d : Nat) (k : KT) : ∀ fu : Nat, LA_tables_Cost lf d (evC lf d) k fu = lpA_tables_Cost lf d fu k
  | 0 => by funext x0 x1 x3 x4 x5 x6 x19 x21 x22 x23; kernel_rfl
  | fu + 1 => by
    have ih := LQA_tables_Cost lf d k fu
    funext x0 x1 x3 x4 x5 x6 x19 x21 x22 x23; simp only [LA_tables_Cost, ih, clash3_eq, evFA3_eq (P := PP) gf25f0, evIA3_eq (P := PP) Tryd.underlying22 gs3, evIA3_eq (P := PP) Tryd.underlying23 gs22, evLoad3_eq (P := PP) ga22, evLoad3_eq (P := PP) ga23, evLoad3_eq (P := PP) ga3, insB_eq, q_add_eq (P := PP) nf3, q_geq_eq (P := PP) nf3, q_lss_eq (P := PP) nf3, q_neq_eq (P := PP) nf27]; kernel_rfl
set_option maxRecDepth 20000 in
theorem KQA_tables_Cost (lf d : Nat) : KA_tables_Cost lf d (evC lf d) (kcA_tables_Cost lf d) = kcA_tables_Cost lf d := by
  unfold KA_tables_Cost
  refine Eq.trans (kEx_eq ?_) ?_
  · exact (runCur_eq _ _ _ (by intro y0 y1 y3 y4 y5 y6 y19 y21 y22 y23 y24; show _ = _; (try simp only [clash3_eq, insB_eq]); kernel_rfl))
  refine Eq.trans (kRt_eq ?_) ?_
  · refine Eq.trans (runCur_eq _ _ _ (by intro y0 y1 y3 y4 y5 y6 y7 y8 y9 y11 y12 y19 y21 y22 y23 y24 y36 y54; show _ = _; (try simp only [clash3_eq, insB_eq]); kernel_rfl)) ?_
    exact (runCur_eq _ _ _ (by intro y0 y1 y3 y4 y5 y6 y7 y8 y19 y21 y22 y23 y24 y36; show _ = _; (try simp only [clash3_eq, insB_eq]); kernel_rfl))
  rfl
theorem fsh_tables_Cost (lf d : Nat) (a0 a1 : Value) : inside (F_tables_Cost lf d (evC lf d) a0 a1) = evC lf (d + 1) 9 #[a0, a1] := by
  unfold F_tables_Cost; (try simp only [KQA_tables_Cost lf d, LQA_tables_Cost, clash3_eq, evBox3_eq, evFA3_eq (P := PP) gf25f1, evLoad3_eq (P := PP) ga22, insB_eq, q_neq_eq (P := PP) nf3]); kernel_rfl

noncomputable def lpA_tables_Of (lf d fu : Nat) (k : KT) (x0 x1 x4 x5 x6 x7 x8 x9 x18 x27 x40 : Value) : M Value := loopK (fun s1 k1 => codeK PP (evC lf d) (gtA 15) lf (codeAt (bodyOf PP 15) [true, true, true, true, true, false, true, false, false]) s1 k1) [0, 1, 4, 5, 6, 7, 8, 9, 18, 27, 40] fu [(0, x0), (1, x1), (4, x4), (5, x5), (6, x6), (7, x7), (8, x8), (9, x9), (18, x18), (27, x27), (40, x40)] k
noncomputable def kcA_tables_Of (lf d : Nat) : KT := contAt PP (evC lf d) (gtA 15) lf (bodyOf PP 15) [true, true, true, true, true, false, true, false] (endK PP (resOf PP 15))
noncomputable def LA_tables_Of (lf d : Nat) (rec : RT) (k : KT) : Nat → Value → Value → Value → Value → Value → Value → Value → Value → Value → Value → Value → M Value
  | 0, _, _, _, _, _, _, _, _, _, _, _ => M.fail
  | fu + 1, x0, x1, x4, x5, x6, x7, x8, x9, x18, x27, x40 =>
    optK (q_lss PP 3 x40 (Value.int .i64 4)) fun v41n26 =>
    ifV v41n26 (
      optK (evFA3 PP 25 0 x9 0) fun v44n27 =>
      insB (evLoad3 PP 23 v44n27) fun v45n28 =>
      (inside (rec 37 #[x8, v45n28, x1])).bind fun v47n29 =>
      optK (evExtract v47n29 0) fun v48n30 =>
      optK (evExtract v47n29 1) fun v49n31 =>
      insB (evBuildZ PP 25 [Value.slice none 0 0, Value.slice none 0 0] [(0, v49n31), (1, v48n30)]) fun v52n32 =>
      insB (evStoreA3 PP 25 2 x9 v52n32) fun u33 =>
      optK (q_add PP 3 x40 (Value.int .i64 1)) fun v53n34 =>
      LA_tables_Of lf d rec k fu x0 x1 x4 x5 x6 x7 x8 x9 x18 x27 v53n34) (
      k (Ex.exit 1) [(0, x0), (1, x1), (4, x4), (5, x5), (6, x6), (7, x7), (8, x8), (9, x9), (18, x18), (27, x27), (40, x40), (41, v41n26)])
noncomputable def KA_tables_Of (lf d : Nat) (rec : RT) (dflt : KT) : KT := (kEx 1 (runCur [0, 1, 4, 5, 6, 7, 8, 9, 18, 27, 40, 41] (fun y0 y1 y4 y5 y6 y7 y8 y9 y18 y27 y40 y41 =>
  insB (evLoadA3 PP 25 2 y9) fun v54n35 =>
  insB (evStoreA3 PP 25 2 y4 v54n35) fun u36 =>
  (evLoad PP 25 y4).bind fun vrn37 =>
  outK [vrn37, (Value.int .i64 0)]) (dflt (Ex.exit 1))) dflt)
noncomputable def F_tables_Of (lf d : Nat) (rec : RT) (a0 a1 : Value) : M Value :=
  insB (evAllocZ 25 [Value.slice none 0 0, Value.slice none 0 0]) fun v4n1 =>
  (inside (rec 34 #[a0, a1])).bind fun v15n2 =>
  optK (evExtract v15n2 0) fun v16n3 =>
  optK (evExtract v15n2 1) fun v17n4 =>
  optK (q_neq PP 27 v17n4 (Value.int .i64 0)) fun v20n5 =>
  ifV v20n5 (
    insB (evBuildZ PP 25 [Value.slice none 0 0, Value.slice none 0 0] []) fun v26n6 =>
    insB (evStoreA3 PP 25 2 v4n1 v26n6) fun u7 =>
    (evLoad PP 25 v4n1).bind fun vrn8 =>
    outK [vrn8, (Value.int .i64 1)]) (
    optK (len2 PP #[22] [a0]) fun v23n9 =>
    optK (q_eql PP 3 v23n9 (Value.int .i64 0)) fun v24n10 =>
    ifV v24n10 (
      insB (evBuildZ PP 25 [Value.slice none 0 0, Value.slice none 0 0] []) fun v26n11 =>
      insB (evStoreA3 PP 25 2 v4n1 v26n11) fun u12 =>
      (evLoad PP 25 v4n1).bind fun vrn13 =>
      outK [vrn13, (Value.int .i64 1)]) (
      optK (len2 PP #[22] [a0]) fun v29n14 =>
      (inside (rec 29 #[v29n14])).bind fun v30n15 =>
      optK (q_gtr PP 3 v30n15 (Value.int .i64 32767)) fun v31n16 =>
      ifV v31n16 (
        insB (evBuildZ PP 25 [Value.slice none 0 0, Value.slice none 0 0] []) fun v32n17 =>
        insB (evStoreA3 PP 25 2 v4n1 v32n17) fun u18 =>
        (evLoad PP 25 v4n1).bind fun vrn19 =>
        outK [vrn19, (Value.int .i64 2)]) (
        (inside (rec 35 #[a0])).bind fun v34n20 =>
        optK (len2 PP #[22] [a0]) fun v37n21 =>
        (inside (rec 36 #[v16n3, v37n21])).bind fun v38n22 =>
        insB (evBuildZ PP 25 [Value.slice none 0 0, Value.slice none 0 0] [(0, v38n22)]) fun v39n23 =>
        insB (evAllocZ 25 [Value.slice none 0 0, Value.slice none 0 0]) fun v9n24 =>
        insB (evStoreA3 PP 25 2 v9n24 v39n23) fun u25 =>
        LA_tables_Of lf d rec (KA_tables_Of lf d rec (kcA_tables_Of lf d)) lf a0 a1 v4n1 (Value.int .i64 0) v16n3 v17n4 v34n20 v9n24 v24n10 v31n16 (Value.int .i64 0))))
theorem LQA_tables_Of (lf d : Nat) (k : KT) : ∀ fu : Nat, LA_tables_Of lf d (evC lf d) k fu = lpA_tables_Of lf d fu k
  | 0 => by funext x0 x1 x4 x5 x6 x7 x8 x9 x18 x27 x40; kernel_rfl
  | fu + 1 => by
    have ih := LQA_tables_Of lf d k fu
    funext x0 x1 x4 x5 x6 x7 x8 x9 x18 x27 x40; simp only [LA_tables_Of, ih, bz25, clash3_eq, evFA3_eq (P := PP) gf25f0, evLoad3_eq (P := PP) ga23, evStoreA3_eq (P := PP) gs25, insB_eq, q_add_eq (P := PP) nf3, q_lss_eq (P := PP) nf3]; kernel_rfl
set_option maxRecDepth 20000 in
theorem KQA_tables_Of (lf d : Nat) : KA_tables_Of lf d (evC lf d) (kcA_tables_Of lf d) = kcA_tables_Of lf d := by
  unfold KA_tables_Of
  refine Eq.trans (kEx_eq ?_) ?_
  · exact (runCur_eq _ _ _ (by intro y0 y1 y4 y5 y6 y7 y8 y9 y18 y27 y40 y41; show _ = _; (try simp only [clash3_eq, evLoadA3_eq (P := PP) ga25 gs25, evStoreA3_eq (P := PP) gs25, insB_eq]); kernel_rfl))
  rfl
theorem fsh_tables_Of (lf d : Nat) (a0 a1 : Value) : inside (F_tables_Of lf d (evC lf d) a0 a1) = evC lf (d + 1) 15 #[a0, a1] := by
  unfold F_tables_Of; (try simp only [KQA_tables_Of lf d, LQA_tables_Of, az25, bz25, clash3_eq, evStoreA3_eq (P := PP) gs25, insB_eq, q_eql_eq (P := PP) nf3, q_gtr_eq (P := PP) nf3, q_neq_eq (P := PP) nf27]); kernel_rfl

noncomputable def lpA_tables_Number (lf d fu : Nat) (k : KT) (x0 x2 x3 x6 x7 : Value) : M Value := loopK (fun s1 k1 => codeK PP (evC lf d) (gtA 19) lf (codeAt (bodyOf PP 19) [true, true, false, true, false, false]) s1 k1) [0, 2, 3, 6, 7] fu [(0, x0), (2, x2), (3, x3), (6, x6), (7, x7)] k
noncomputable def kcA_tables_Number (lf d : Nat) : KT := contAt PP (evC lf d) (gtA 19) lf (bodyOf PP 19) [true, true, false, true, false] (endK PP (resOf PP 19))
noncomputable def LA_tables_Number (lf d : Nat) (rec : RT) (k : KT) : Nat → Value → Value → Value → Value → Value → M Value
  | 0, _, _, _, _, _ => M.fail
  | fu + 1, x0, x2, x3, x6, x7 =>
    optK (q_lss PP 3 x7 (Value.int .i64 4)) fun v8n2 =>
    ifV v8n2 (
      optK (index2 PP 58 x6 x7) fun v9n3 =>
      optK (q_geq PP 3 x0 v9n3) fun v12n4 =>
      ifV v12n4 (
        optK (q_add PP 3 x3 (Value.int .i64 1)) fun v14n5 =>
        optK (q_add PP 3 x7 (Value.int .i64 1)) fun v15n6 =>
        LA_tables_Number lf d rec k fu x0 x2 v14n5 x6 v15n6) (
        optK (q_add PP 3 x7 (Value.int .i64 1)) fun v15n7 =>
        LA_tables_Number lf d rec k fu x0 x2 x3 x6 v15n7)) (
      k (Ex.exit 0) [(0, x0), (2, x2), (3, x3), (6, x6), (7, x7), (8, v8n2)])
noncomputable def KA_tables_Number (lf d : Nat) (rec : RT) (dflt : KT) : KT := (kEx 0 (runCur [0, 2, 3, 6, 7, 8] (fun y0 y2 y3 y6 y7 y8 =>
  outK [y3]) (dflt (Ex.exit 0))) dflt)
noncomputable def F_tables_Number (lf d : Nat) (rec : RT) (a0 : Value) : M Value :=
  insB (evLoadA3 PP 58 4 (Value.pointer (some ⟨0, 0, none⟩))) fun v6n1 =>
  LA_tables_Number lf d rec (KA_tables_Number lf d rec (kcA_tables_Number lf d)) lf a0 (Value.int .i64 0) (Value.int .i64 2) v6n1 (Value.int .i64 0)
theorem LQA_tables_Number (lf d : Nat) (k : KT) : ∀ fu : Nat, LA_tables_Number lf d (evC lf d) k fu = lpA_tables_Number lf d fu k
  | 0 => by funext x0 x2 x3 x6 x7; kernel_rfl
  | fu + 1 => by
    have ih := LQA_tables_Number lf d k fu
    funext x0 x2 x3 x6 x7; simp only [LA_tables_Number, ih, clash3_eq, insB_eq, q_add_eq (P := PP) nf3, q_geq_eq (P := PP) nf3, q_lss_eq (P := PP) nf3]; kernel_rfl
set_option maxRecDepth 20000 in
theorem KQA_tables_Number (lf d : Nat) : KA_tables_Number lf d (evC lf d) (kcA_tables_Number lf d) = kcA_tables_Number lf d := by
  unfold KA_tables_Number
  refine Eq.trans (kEx_eq ?_) ?_
  · exact (runCur_eq _ _ _ (by intro y0 y2 y3 y6 y7 y8; show _ = _; (try simp only [clash3_eq, insB_eq]); kernel_rfl))
  rfl
theorem fsh_tables_Number (lf d : Nat) (a0 : Value) : inside (F_tables_Number lf d (evC lf d) a0) = evC lf (d + 1) 19 #[a0] := by
  unfold F_tables_Number; (try simp only [KQA_tables_Number lf d, LQA_tables_Number, clash3_eq, evLoadA3_eq (P := PP) ga58 gs58, insB_eq]); kernel_rfl

noncomputable def lpA_balerplain_Ints (lf d fu : Nat) (k : KT) (x0 x1 x4 x10 x12 x13 : Value) : M Value := loopK (fun s1 k1 => codeK PP (evC lf d) (gtA 28) lf (codeAt (bodyOf PP 28) [true, true, false, true, false, false]) s1 k1) [0, 1, 4, 10, 12, 13] fu [(0, x0), (1, x1), (4, x4), (10, x10), (12, x12), (13, x13)] k
noncomputable def kcA_balerplain_Ints (lf d : Nat) : KT := contAt PP (evC lf d) (gtA 28) lf (bodyOf PP 28) [true, true, false, true, false] (endK PP (resOf PP 28))
noncomputable def LA_balerplain_Ints (lf d : Nat) (rec : RT) (k : KT) : Nat → Value → Value → Value → Value → Value → Value → M Value
  | 0, _, _, _, _, _, _ => M.fail
  | fu + 1, x0, x1, x4, x10, x12, x13 =>
    optK (q_lss PP 3 x13 x12) fun v14n5 =>
    ifV v14n5 (
      optK (evIA3 PP 22 1 x0 x13) fun v18n6 =>
      insB (evLoad3 PP 3 v18n6) fun v19n7 =>
      optK (evIA3 PP 22 1 x1 x13) fun v22n8 =>
      insB (evLoad3 PP 3 v22n8) fun v23n9 =>
      optK (q_neq PP 3 v19n7 v23n9) fun v24n10 =>
      ifV v24n10 (
        k Ex.ret [(0, x0), (1, x1), (4, (Value.bool false)), (5, x13), (10, x10), (12, x12), (13, x13), (14, v14n5), (24, v24n10)]) (
        optK (q_add PP 3 x13 (Value.int .i64 1)) fun v25n11 =>
        LA_balerplain_Ints lf d rec k fu x0 x1 x4 x10 x12 v25n11)) (
      k (Ex.exit 0) [(0, x0), (1, x1), (4, x4), (10, x10), (12, x12), (13, x13), (14, v14n5)])
noncomputable def KA_balerplain_Ints (lf d : Nat) (rec : RT) (dflt : KT) : KT := (kEx 0 (runCur [0, 1, 4, 10, 12, 13, 14] (fun y0 y1 y4 y10 y12 y13 y14 =>
  outK [(Value.bool true)]) (dflt (Ex.exit 0))) (kRt (runCur [0, 1, 4, 5, 10, 12, 13, 14, 24] (fun y0 y1 y4 y5 y10 y12 y13 y14 y24 =>
  outK [y4]) (dflt Ex.ret)) dflt))
noncomputable def F_balerplain_Ints (lf d : Nat) (rec : RT) (a0 a1 : Value) : M Value :=
  optK (len2 PP #[22] [a0]) fun v7n1 =>
  optK (len2 PP #[22] [a1]) fun v9n2 =>
  optK (q_neq PP 3 v7n1 v9n2) fun v10n3 =>
  ifV v10n3 (
    outK [(Value.bool false)]) (
    optK (len2 PP #[22] [a0]) fun v12n4 =>
    LA_balerplain_Ints lf d rec (KA_balerplain_Ints lf d rec (kcA_balerplain_Ints lf d)) lf a0 a1 (Value.bool false) v10n3 v12n4 (Value.int .i64 0))
theorem LQA_balerplain_Ints (lf d : Nat) (k : KT) : ∀ fu : Nat, LA_balerplain_Ints lf d (evC lf d) k fu = lpA_balerplain_Ints lf d fu k
  | 0 => by funext x0 x1 x4 x10 x12 x13; kernel_rfl
  | fu + 1 => by
    have ih := LQA_balerplain_Ints lf d k fu
    funext x0 x1 x4 x10 x12 x13; simp only [LA_balerplain_Ints, ih, clash3_eq, evIA3_eq (P := PP) Tryd.underlying22 gs3, evLoad3_eq (P := PP) ga3, insB_eq, q_add_eq (P := PP) nf3, q_lss_eq (P := PP) nf3, q_neq_eq (P := PP) nf3]; kernel_rfl
set_option maxRecDepth 20000 in
theorem KQA_balerplain_Ints (lf d : Nat) : KA_balerplain_Ints lf d (evC lf d) (kcA_balerplain_Ints lf d) = kcA_balerplain_Ints lf d := by
  unfold KA_balerplain_Ints
  refine Eq.trans (kEx_eq ?_) ?_
  · exact (runCur_eq _ _ _ (by intro y0 y1 y4 y10 y12 y13 y14; show _ = _; (try simp only [clash3_eq, insB_eq]); kernel_rfl))
  refine Eq.trans (kRt_eq ?_) ?_
  · exact (runCur_eq _ _ _ (by intro y0 y1 y4 y5 y10 y12 y13 y14 y24; show _ = _; (try simp only [clash3_eq, insB_eq]); kernel_rfl))
  rfl
theorem fsh_balerplain_Ints (lf d : Nat) (a0 a1 : Value) : inside (F_balerplain_Ints lf d (evC lf d) a0 a1) = evC lf (d + 1) 28 #[a0, a1] := by
  unfold F_balerplain_Ints; (try simp only [KQA_balerplain_Ints lf d, LQA_balerplain_Ints, clash3_eq, insB_eq, q_neq_eq (P := PP) nf3]); kernel_rfl

noncomputable def F_freq_Groups (lf d : Nat) (rec : RT) (a0 : Value) : M Value :=
  optK (q_leq PP 3 a0 (Value.int .i64 0)) fun v4n1 =>
  ifV v4n1 (
    outK [(Value.int .i64 0)]) (
    optK (q_sub PP 3 a0 (Value.int .i64 1)) fun v6n2 =>
    optK (q_quo PP 3 v6n2 (Value.int .i64 50)) fun v7n3 =>
    optK (q_add PP 3 v7n3 (Value.int .i64 1)) fun v8n4 =>
    outK [v8n4])
theorem fsh_freq_Groups (lf d : Nat) (a0 : Value) : inside (F_freq_Groups lf d (evC lf d) a0) = evC lf (d + 1) 29 #[a0] := by
  unfold F_freq_Groups; (try simp only [clash3_eq, insB_eq, q_add_eq (P := PP) nf3, q_leq_eq (P := PP) nf3, q_quo_eq (P := PP) nf3, q_sub_eq (P := PP) nf3]); kernel_rfl

noncomputable def F_freq_Group (lf d : Nat) (rec : RT) (a0 a1 : Value) : M Value :=
  optK (q_lss PP 3 a1 (Value.int .i64 0)) fun v7n1 =>
  ifV v7n1 (
    outK [(Value.slice none 0 0), (Value.int .i64 1)]) (
    optK (len2 PP #[22] [a0]) fun v11n2 =>
    (inside (rec 29 #[v11n2])).bind fun v12n3 =>
    optK (q_geq PP 3 a1 v12n3) fun v13n4 =>
    ifV v13n4 (
      outK [(Value.slice none 0 0), (Value.int .i64 1)]) (
      (inside (rec 47 #[a0, a1, (Value.int .i64 50)])).bind fun v17n5 =>
      outK [v17n5, (Value.int .i64 0)]))
theorem fsh_freq_Group (lf d : Nat) (a0 a1 : Value) : inside (F_freq_Group lf d (evC lf d) a0 a1) = evC lf (d + 1) 30 #[a0, a1] := by
  unfold F_freq_Group; (try simp only [clash3_eq, insB_eq, q_geq_eq (P := PP) nf3, q_lss_eq (P := PP) nf3]); kernel_rfl

noncomputable def lpA_freq_Cost (lf d fu : Nat) (k : KT) (x0 x1 x4 x5 x6 x11 x12 x13 x14 : Value) : M Value := loopK (fun s1 k1 => codeK PP (evC lf d) (gtA 31) lf (codeAt (bodyOf PP 31) [true, true, true, false, true, false, false]) s1 k1) [0, 1, 4, 5, 6, 11, 12, 13, 14] fu [(0, x0), (1, x1), (4, x4), (5, x5), (6, x6), (11, x11), (12, x12), (13, x13), (14, x14)] k
noncomputable def kcA_freq_Cost (lf d : Nat) : KT := contAt PP (evC lf d) (gtA 31) lf (bodyOf PP 31) [true, true, true, false, true, false] (endK PP (resOf PP 31))
noncomputable def LA_freq_Cost (lf d : Nat) (rec : RT) (k : KT) : Nat → Value → Value → Value → Value → Value → Value → Value → Value → Value → M Value
  | 0, _, _, _, _, _, _, _, _, _ => M.fail
  | fu + 1, x0, x1, x4, x5, x6, x11, x12, x13, x14 =>
    optK (q_lss PP 3 x14 x13) fun v15n4 =>
    ifV v15n4 (
      optK (evIA3 PP 22 1 x12 x14) fun v16n5 =>
      insB (evLoad3 PP 3 v16n5) fun v17n6 =>
      optK (q_lss PP 3 v17n6 (Value.int .i64 0)) fun v19n7 =>
      ifV v19n7 (
        k Ex.ret [(0, x0), (1, x1), (4, (Value.int .i64 0)), (5, (Value.int .i64 1)), (6, x6), (8, v17n6), (11, x11), (12, x12), (13, x13), (14, x14), (15, v15n4), (25, (Value.bool true))]) (
        optK (len2 PP #[22] [x1]) fun v23n8 =>
        optK (q_geq PP 3 v17n6 v23n8) fun v24n9 =>
        ifV v24n9 (
          k Ex.ret [(0, x0), (1, x1), (4, (Value.int .i64 0)), (5, (Value.int .i64 1)), (6, x6), (8, v17n6), (11, x11), (12, x12), (13, x13), (14, x14), (15, v15n4), (25, v24n9)]) (
          optK (evIA3 PP 22 1 x1 v17n6) fun v29n10 =>
          insB (evLoad3 PP 3 v29n10) fun v30n11 =>
          (inside (rec 49 #[x6, v30n11])).bind fun v31n12 =>
          optK (q_add PP 3 x14 (Value.int .i64 1)) fun v32n13 =>
          LA_freq_Cost lf d rec k fu x0 x1 x4 x5 v31n12 x11 x12 x13 v32n13))) (
      k (Ex.exit 0) [(0, x0), (1, x1), (4, x4), (5, x5), (6, x6), (11, x11), (12, x12), (13, x13), (14, x14), (15, v15n4)])
noncomputable def KA_freq_Cost (lf d : Nat) (rec : RT) (dflt : KT) : KT := (kEx 0 (runCur [0, 1, 4, 5, 6, 11, 12, 13, 14, 15] (fun y0 y1 y4 y5 y6 y11 y12 y13 y14 y15 =>
  outK [y6, (Value.int .i64 0)]) (dflt (Ex.exit 0))) (kRt (runCur [0, 1, 4, 5, 6, 8, 11, 12, 13, 14, 15, 25] (fun y0 y1 y4 y5 y6 y8 y11 y12 y13 y14 y15 y25 =>
  outK [y4, y5]) (dflt Ex.ret)) dflt))
noncomputable def F_freq_Cost (lf d : Nat) (rec : RT) (a0 a1 : Value) : M Value :=
  (inside (rec 48 #[a1])).bind fun v10n1 =>
  optK (un3 PP .not v10n1) fun v11n2 =>
  ifV v11n2 (
    outK [(Value.int .i64 0), (Value.int .i64 1)]) (
    optK (len2 PP #[22] [a0]) fun v13n3 =>
    LA_freq_Cost lf d rec (KA_freq_Cost lf d rec (kcA_freq_Cost lf d)) lf a0 a1 (Value.int .i64 0) (Value.int .i64 0) (Value.int .i64 0) v11n2 a0 v13n3 (Value.int .i64 0))
theorem LQA_freq_Cost (lf d : Nat) (k : KT) : ∀ fu : Nat, LA_freq_Cost lf d (evC lf d) k fu = lpA_freq_Cost lf d fu k
  | 0 => by funext x0 x1 x4 x5 x6 x11 x12 x13 x14; kernel_rfl
  | fu + 1 => by
    have ih := LQA_freq_Cost lf d k fu
    funext x0 x1 x4 x5 x6 x11 x12 x13 x14; simp only [LA_freq_Cost, ih, clash3_eq, evIA3_eq (P := PP) Tryd.underlying22 gs3, evLoad3_eq (P := PP) ga3, insB_eq, q_add_eq (P := PP) nf3, q_geq_eq (P := PP) nf3, q_lss_eq (P := PP) nf3]; kernel_rfl
set_option maxRecDepth 20000 in
theorem KQA_freq_Cost (lf d : Nat) : KA_freq_Cost lf d (evC lf d) (kcA_freq_Cost lf d) = kcA_freq_Cost lf d := by
  unfold KA_freq_Cost
  refine Eq.trans (kEx_eq ?_) ?_
  · exact (runCur_eq _ _ _ (by intro y0 y1 y4 y5 y6 y11 y12 y13 y14 y15; show _ = _; (try simp only [clash3_eq, insB_eq]); kernel_rfl))
  refine Eq.trans (kRt_eq ?_) ?_
  · exact (runCur_eq _ _ _ (by intro y0 y1 y4 y5 y6 y8 y11 y12 y13 y14 y15 y25; show _ = _; (try simp only [clash3_eq, insB_eq]); kernel_rfl))
  rfl
theorem fsh_freq_Cost (lf d : Nat) (a0 a1 : Value) : inside (F_freq_Cost lf d (evC lf d) a0 a1) = evC lf (d + 1) 31 #[a0, a1] := by
  unfold F_freq_Cost; (try simp only [KQA_freq_Cost lf d, LQA_freq_Cost, clash3_eq, insB_eq, un3_eq]); kernel_rfl

noncomputable def lpA_freq_Counts (lf d fu : Nat) (k : KT) (x0 x1 x4 x5 x6 x14 x17 x18 x19 : Value) : M Value := loopK (fun s1 k1 => codeK PP (evC lf d) (gtA 34) lf (codeAt (bodyOf PP 34) [true, true, true, false, true, false, false]) s1 k1) [0, 1, 4, 5, 6, 14, 17, 18, 19] fu [(0, x0), (1, x1), (4, x4), (5, x5), (6, x6), (14, x14), (17, x17), (18, x18), (19, x19)] k
noncomputable def kcA_freq_Counts (lf d : Nat) : KT := contAt PP (evC lf d) (gtA 34) lf (bodyOf PP 34) [true, true, true, false, true, false] (endK PP (resOf PP 34))
noncomputable def LA_freq_Counts (lf d : Nat) (rec : RT) (k : KT) : Nat → Value → Value → Value → Value → Value → Value → Value → Value → Value → M Value
  | 0, _, _, _, _, _, _, _, _, _ => M.fail
  | fu + 1, x0, x1, x4, x5, x6, x14, x17, x18, x19 =>
    optK (q_lss PP 3 x19 x18) fun v20n5 =>
    ifV v20n5 (
      optK (evIA3 PP 22 1 x17 x19) fun v21n6 =>
      insB (evLoad3 PP 3 v21n6) fun v22n7 =>
      optK (q_lss PP 3 v22n7 (Value.int .i64 0)) fun v24n8 =>
      ifV v24n8 (
        k Ex.ret [(0, x0), (1, x1), (4, (Value.slice none 0 0)), (5, (Value.int .i64 1)), (6, x6), (8, v22n7), (14, x14), (17, x17), (18, x18), (19, x19), (20, v20n5), (29, (Value.bool true))]) (
        optK (q_geq PP 3 v22n7 x1) fun v28n9 =>
        ifV v28n9 (
          k Ex.ret [(0, x0), (1, x1), (4, (Value.slice none 0 0)), (5, (Value.int .i64 1)), (6, x6), (8, v22n7), (14, x14), (17, x17), (18, x18), (19, x19), (20, v20n5), (29, v28n9)]) (
          optK (evIA3 PP 22 1 x6 v22n7) fun v32n10 =>
          insB (evLoad3 PP 3 v32n10) fun v33n11 =>
          optK (q_add PP 3 v33n11 (Value.int .i64 1)) fun v34n12 =>
          optK (evIA3 PP 22 1 x6 v22n7) fun v35n13 =>
          insB (evStore3 PP 3 v35n13 v34n12) fun u14 =>
          optK (q_add PP 3 x19 (Value.int .i64 1)) fun v36n15 =>
          LA_freq_Counts lf d rec k fu x0 x1 x4 x5 x6 x14 x17 x18 v36n15))) (
      k (Ex.exit 0) [(0, x0), (1, x1), (4, x4), (5, x5), (6, x6), (14, x14), (17, x17), (18, x18), (19, x19), (20, v20n5)])
noncomputable def KA_freq_Counts (lf d : Nat) (rec : RT) (dflt : KT) : KT := (kEx 0 (runCur [0, 1, 4, 5, 6, 14, 17, 18, 19, 20] (fun y0 y1 y4 y5 y6 y14 y17 y18 y19 y20 =>
  outK [y6, (Value.int .i64 0)]) (dflt (Ex.exit 0))) (kRt (runCur [0, 1, 4, 5, 6, 8, 14, 17, 18, 19, 20, 29] (fun y0 y1 y4 y5 y6 y8 y14 y17 y18 y19 y20 y29 =>
  outK [y4, y5]) (dflt Ex.ret)) dflt))
noncomputable def F_freq_Counts (lf d : Nat) (rec : RT) (a0 a1 : Value) : M Value :=
  optK (q_lss PP 3 a1 (Value.int .i64 3)) fun v10n1 =>
  ifV v10n1 (
    outK [(Value.slice none 0 0), (Value.int .i64 1)]) (
    optK (q_gtr PP 3 a1 (Value.int .i64 258)) fun v13n2 =>
    ifV v13n2 (
      outK [(Value.slice none 0 0), (Value.int .i64 1)]) (
      insB (evMake3 PP 22 a1 a1) fun v16n3 =>
      optK (len2 PP #[22] [a0]) fun v18n4 =>
      LA_freq_Counts lf d rec (KA_freq_Counts lf d rec (kcA_freq_Counts lf d)) lf a0 a1 (Value.slice none 0 0) (Value.int .i64 0) v16n3 v13n2 a0 v18n4 (Value.int .i64 0)))
theorem LQA_freq_Counts (lf d : Nat) (k : KT) : ∀ fu : Nat, LA_freq_Counts lf d (evC lf d) k fu = lpA_freq_Counts lf d fu k
  | 0 => by funext x0 x1 x4 x5 x6 x14 x17 x18 x19; kernel_rfl
  | fu + 1 => by
    have ih := LQA_freq_Counts lf d k fu
    funext x0 x1 x4 x5 x6 x14 x17 x18 x19; simp only [LA_freq_Counts, ih, clash3_eq, evIA3_eq (P := PP) Tryd.underlying22 gs3, evLoad3_eq (P := PP) ga3, evStore3_eq (P := PP) gs3, insB_eq, q_add_eq (P := PP) nf3, q_geq_eq (P := PP) nf3, q_lss_eq (P := PP) nf3]; kernel_rfl
set_option maxRecDepth 20000 in
theorem KQA_freq_Counts (lf d : Nat) : KA_freq_Counts lf d (evC lf d) (kcA_freq_Counts lf d) = kcA_freq_Counts lf d := by
  unfold KA_freq_Counts
  refine Eq.trans (kEx_eq ?_) ?_
  · exact (runCur_eq _ _ _ (by intro y0 y1 y4 y5 y6 y14 y17 y18 y19 y20; show _ = _; (try simp only [clash3_eq, insB_eq]); kernel_rfl))
  refine Eq.trans (kRt_eq ?_) ?_
  · exact (runCur_eq _ _ _ (by intro y0 y1 y4 y5 y6 y8 y14 y17 y18 y19 y20 y29; show _ = _; (try simp only [clash3_eq, insB_eq]); kernel_rfl))
  rfl
theorem fsh_freq_Counts (lf d : Nat) (a0 a1 : Value) : inside (F_freq_Counts lf d (evC lf d) a0 a1) = evC lf (d + 1) 34 #[a0, a1] := by
  unfold F_freq_Counts; (try simp only [KQA_freq_Counts lf d, LQA_freq_Counts, clash3_eq, evMake3_eq, insB_eq, q_gtr_eq (P := PP) nf3, q_lss_eq (P := PP) nf3]); kernel_rfl

noncomputable def lpA_tables_groupsOf (lf d fu : Nat) (k : KT) (x0 x2 x3 x9 x10 : Value) : M Value := loopK (fun s1 k1 => codeK PP (evC lf d) (gtA 35) lf (codeAt (bodyOf PP 35) [true, true, false, true, false, false]) s1 k1) [0, 2, 3, 9, 10] fu [(0, x0), (2, x2), (3, x3), (9, x9), (10, x10)] k
noncomputable def kcA_tables_groupsOf (lf d : Nat) : KT := contAt PP (evC lf d) (gtA 35) lf (bodyOf PP 35) [true, true, false, true, false] (endK PP (resOf PP 35))
noncomputable def LA_tables_groupsOf (lf d : Nat) (rec : RT) (k : KT) : Nat → Value → Value → Value → Value → Value → M Value
  | 0, _, _, _, _, _ => M.fail
  | fu + 1, x0, x2, x3, x9, x10 =>
    optK (q_lss PP 3 x10 x9) fun v11n3 =>
    ifV v11n3 (
      (inside (rec 30 #[x0, x10])).bind fun v16n4 =>
      optK (evExtract v16n4 0) fun v17n5 =>
      optK (evExtract v16n4 1) fun v18n6 =>
      insB (evBS3 PP 23 1 [(0, v17n5)]) fun v21n7 =>
      insB (evAppend3 PP 23 x3 v21n7) fun v22n8 =>
      optK (q_add PP 3 x10 (Value.int .i64 1)) fun v23n9 =>
      LA_tables_groupsOf lf d rec k fu x0 x2 v22n8 x9 v23n9) (
      k (Ex.exit 0) [(0, x0), (2, x2), (3, x3), (9, x9), (10, x10), (11, v11n3)])
noncomputable def KA_tables_groupsOf (lf d : Nat) (rec : RT) (dflt : KT) : KT := (kEx 0 (runCur [0, 2, 3, 9, 10, 11] (fun y0 y2 y3 y9 y10 y11 =>
  outK [y3]) (dflt (Ex.exit 0))) dflt)
noncomputable def F_tables_groupsOf (lf d : Nat) (rec : RT) (a0 : Value) : M Value :=
  optK (len2 PP #[22] [a0]) fun v8n1 =>
  (inside (rec 29 #[v8n1])).bind fun v9n2 =>
  LA_tables_groupsOf lf d rec (KA_tables_groupsOf lf d rec (kcA_tables_groupsOf lf d)) lf a0 (Value.slice none 0 0) (Value.slice none 0 0) v9n2 (Value.int .i64 0)
theorem LQA_tables_groupsOf (lf d : Nat) (k : KT) : ∀ fu : Nat, LA_tables_groupsOf lf d (evC lf d) k fu = lpA_tables_groupsOf lf d fu k
  | 0 => by funext x0 x2 x3 x9 x10; kernel_rfl
  | fu + 1 => by
    have ih := LQA_tables_groupsOf lf d k fu
    funext x0 x2 x3 x9 x10; simp only [LA_tables_groupsOf, ih, clash3_eq, evAppend3_eq, evBS3_eq, insB_eq, q_add_eq (P := PP) nf3, q_lss_eq (P := PP) nf3]; kernel_rfl
set_option maxRecDepth 20000 in
theorem KQA_tables_groupsOf (lf d : Nat) : KA_tables_groupsOf lf d (evC lf d) (kcA_tables_groupsOf lf d) = kcA_tables_groupsOf lf d := by
  unfold KA_tables_groupsOf
  refine Eq.trans (kEx_eq ?_) ?_
  · exact (runCur_eq _ _ _ (by intro y0 y2 y3 y9 y10 y11; show _ = _; (try simp only [clash3_eq, insB_eq]); kernel_rfl))
  rfl
theorem fsh_tables_groupsOf (lf d : Nat) (a0 : Value) : inside (F_tables_groupsOf lf d (evC lf d) a0) = evC lf (d + 1) 35 #[a0] := by
  unfold F_tables_groupsOf; (try simp only [KQA_tables_groupsOf lf d, LQA_tables_groupsOf, clash3_eq, insB_eq]); kernel_rfl

noncomputable def lpA_tables_first (lf d fu : Nat) (k : KT) (x0 x1 x4 x5 x6 x18 x19 : Value) : M Value := loopK (fun s1 k1 => codeK PP (evC lf d) (gtA 36) lf (codeAt (bodyOf PP 36) [true, true, true, false, true, false, false]) s1 k1) [0, 1, 4, 5, 6, 18, 19] fu [(0, x0), (1, x1), (4, x4), (5, x5), (6, x6), (18, x18), (19, x19)] k
noncomputable def kcA_tables_first (lf d : Nat) : KT := contAt PP (evC lf d) (gtA 36) lf (bodyOf PP 36) [true, true, true, false, true, false] (endK PP (resOf PP 36))
noncomputable def lpB_tables_first (lf d fu : Nat) (k : KT) (x0 x1 x4 x5 x6 x8 x18 x19 x20 x29 x30 x31 : Value) : M Value := loopK (fun s1 k1 => codeK PP (evC lf d) (gtA 36) lf (codeAt (bodyOf PP 36) [true, true, true, true, true, false, true, false, false]) s1 k1) [0, 1, 4, 5, 6, 8, 18, 19, 20, 29, 30, 31] fu [(0, x0), (1, x1), (4, x4), (5, x5), (6, x6), (8, x8), (18, x18), (19, x19), (20, x20), (29, x29), (30, x30), (31, x31)] k
noncomputable def kcB_tables_first (lf d : Nat) : KT := contAt PP (evC lf d) (gtA 36) lf (bodyOf PP 36) [true, true, true, true, true, false, true, false] (endK PP (resOf PP 36))
noncomputable def lpC_tables_first (lf d fu : Nat) (k : KT) (x0 x1 x4 x5 x6 x8 x9 x10 x11 x18 x19 x20 x29 x30 x31 x32 x42 x43 : Value) : M Value := loopK (fun s1 k1 => codeK PP (evC lf d) (gtA 36) lf (codeAt (bodyOf PP 36) [true, true, true, true, true, false, true, false, false, true, true, false, false, true, true, false, true, false, false]) s1 k1) [0, 1, 4, 5, 6, 8, 9, 10, 11, 18, 19, 20, 29, 30, 31, 32, 42, 43] fu [(0, x0), (1, x1), (4, x4), (5, x5), (6, x6), (8, x8), (9, x9), (10, x10), (11, x11), (18, x18), (19, x19), (20, x20), (29, x29), (30, x30), (31, x31), (32, x32), (42, x42), (43, x43)] k
noncomputable def kcC_tables_first (lf d fu : Nat) (k : KT) : KT := contAt PP (evC lf d) (gtA 36) lf (codeAt (bodyOf PP 36) [true, true, true, true, true, false, true, false, false]) [true, true, false, false, true, true, false, true, false] (againK (fun s1 => loopK (fun s1 k1 => codeK PP (evC lf d) (gtA 36) lf (codeAt (bodyOf PP 36) [true, true, true, true, true, false, true, false, false]) s1 k1) [0, 1, 4, 5, 6, 8, 18, 19, 20, 29, 30, 31] fu (s1.keep [0, 1, 4, 5, 6, 8, 18, 19, 20, 29, 30, 31]) k) k)
noncomputable def LA_tables_first (lf d : Nat) (rec : RT) (k : KT) : Nat → Value → Value → Value → Value → Value → Value → Value → M Value
  | 0, _, _, _, _, _, _, _ => M.fail
  | fu + 1, x0, x1, x4, x5, x6, x18, x19 =>
    optK (q_lss PP 3 x19 x18) fun v20n4 =>
    ifV v20n4 (
      optK (len2 PP #[22] [x0]) fun v25n5 =>
      insB (evMake3 PP 22 v25n5 v25n5) fun v26n6 =>
      optK (evIA3 PP 23 1 x6 x19) fun v27n7 =>
      insB (evStore3 PP 22 v27n7 v26n6) fun u8 =>
      optK (q_add PP 3 x19 (Value.int .i64 1)) fun v28n9 =>
      LA_tables_first lf d rec k fu x0 x1 x4 x5 x6 x18 v28n9) (
      k (Ex.exit 0) [(0, x0), (1, x1), (4, x4), (5, x5), (6, x6), (18, x18), (19, x19), (20, v20n4)])
noncomputable def KB_tables_first (lf d : Nat) (rec : RT) (dflt : KT) : KT := (kEx 2 (runCur [0, 1, 4, 5, 6, 8, 18, 19, 20, 29, 30, 31, 32] (fun y0 y1 y4 y5 y6 y8 y18 y19 y20 y29 y30 y31 y32 =>
  outK [y6]) (dflt (Ex.exit 2))) dflt)
noncomputable def LC_tables_first (lf d : Nat) (rec : RT) (k : KT) : Nat → Value → Value → Value → Value → Value → Value → Value → Value → Value → Value → Value → Value → Value → Value → Value → Value → Value → Value → M Value
  | 0, _, _, _, _, _, _, _, _, _, _, _, _, _, _, _, _, _, _ => M.fail
  | fu + 1, x0, x1, x4, x5, x6, x8, x9, x10, x11, x18, x19, x20, x29, x30, x31, x32, x42, x43 =>
    optK (q_lss PP 3 x43 x42) fun v44n17 =>
    ifV v44n17 (
      optK (q_neq PP 3 x43 x11) fun v48n18 =>
      ifV v48n18 (
        optK (evIA3 PP 23 1 x6 x43) fun v51n19 =>
        insB (evLoad3 PP 22 v51n19) fun v52n20 =>
        optK (evIA3 PP 22 1 v52n20 x9) fun v54n21 =>
        insB (evStore3 PP 3 v54n21 (Value.int .i64 15)) fun u22 =>
        optK (q_add PP 3 x43 (Value.int .i64 1)) fun v55n23 =>
        LC_tables_first lf d rec k fu x0 x1 x4 x5 x6 x8 x9 x10 x11 x18 x19 x20 x29 x30 x31 x32 x42 v55n23) (
        optK (q_add PP 3 x43 (Value.int .i64 1)) fun v55n24 =>
        LC_tables_first lf d rec k fu x0 x1 x4 x5 x6 x8 x9 x10 x11 x18 x19 x20 x29 x30 x31 x32 x42 v55n24)) (
      k (Ex.exit 4) [(0, x0), (1, x1), (4, x4), (5, x5), (6, x6), (8, x8), (9, x9), (10, x10), (11, x11), (18, x18), (19, x19), (20, x20), (29, x29), (30, x30), (31, x31), (32, x32), (42, x42), (43, x43), (44, v44n17)])
noncomputable def KC_tables_first (lf d : Nat) (rec : RT) (fu : Nat) (k : KT) (again : Value → Value → Value → Value → Value → Value → Value → Value → Value → Value → Value → Value → M Value) (dflt : KT) : KT := (kEx 4 (runCur [0, 1, 4, 5, 6, 8, 9, 10, 11, 18, 19, 20, 29, 30, 31, 32, 42, 43, 44] (fun y0 y1 y4 y5 y6 y8 y9 y10 y11 y18 y19 y20 y29 y30 y31 y32 y42 y43 y44 =>
  optK (q_add PP 3 y8 y10) fun v58n25 =>
  optK (q_sub PP 3 y1 (Value.int .i64 1)) fun v60n26 =>
  optK (min2 [v58n25, v60n26]) fun v61n27 =>
  optK (q_add PP 3 y31 (Value.int .i64 1)) fun v62n28 =>
  again y0 y1 y4 y5 y6 v61n27 y18 y19 y20 y29 y30 v62n28) (dflt (Ex.exit 4))) dflt)
noncomputable def LB_tables_first (lf d : Nat) (rec : RT) (k : KT) : Nat → Value → Value → Value → Value → Value → Value → Value → Value → Value → Value → Value → Value → M Value
  | 0, _, _, _, _, _, _, _, _, _, _, _, _ => M.fail
  | fu + 1, x0, x1, x4, x5, x6, x8, x18, x19, x20, x29, x30, x31 =>
    optK (q_lss PP 3 x31 x30) fun v32n11 =>
    ifV v32n11 (
      optK (evIA3 PP 22 1 x29 x31) fun v34n12 =>
      insB (evLoad3 PP 3 v34n12) fun v35n13 =>
      optK (q_mul PP 3 x8 x5) fun v38n14 =>
      optK (q_quo PP 3 v38n14 x1) fun v40n15 =>
      optK (len2 PP #[23] [x6]) fun v42n16 =>
      LC_tables_first lf d rec (KC_tables_first lf d rec fu k (LB_tables_first lf d rec k fu) (kcC_tables_first lf d fu k)) lf x0 x1 x4 x5 x6 x8 x31 v35n13 v40n15 x18 x19 x20 x29 x30 x31 v32n11 v42n16 (Value.int .i64 0)) (
      k (Ex.exit 2) [(0, x0), (1, x1), (4, x4), (5, x5), (6, x6), (8, x8), (18, x18), (19, x19), (20, x20), (29, x29), (30, x30), (31, x31), (32, v32n11)])
noncomputable def KA_tables_first (lf d : Nat) (rec : RT) (dflt : KT) : KT := (kEx 0 (runCur [0, 1, 4, 5, 6, 18, 19, 20] (fun y0 y1 y4 y5 y6 y18 y19 y20 =>
  optK (len2 PP #[22] [y0]) fun v30n10 =>
  LB_tables_first lf d rec (KB_tables_first lf d rec (kcB_tables_first lf d)) lf y0 y1 y4 y5 y6 (Value.int .i64 0) y18 y19 y20 y0 v30n10 (Value.int .i64 0)) (dflt (Ex.exit 0))) dflt)
noncomputable def F_tables_first (lf d : Nat) (rec : RT) (a0 a1 : Value) : M Value :=
  (inside (rec 19 #[a1])).bind fun v14n1 =>
  insB (evMake3 PP 23 v14n1 v14n1) fun v16n2 =>
  optK (len2 PP #[23] [v16n2]) fun v18n3 =>
  LA_tables_first lf d rec (KA_tables_first lf d rec (kcA_tables_first lf d)) lf a0 a1 (Value.slice none 0 0) v14n1 v16n2 v18n3 (Value.int .i64 0)
theorem LQA_tables_first (lf d : Nat) (k : KT) : ∀ fu : Nat, LA_tables_first lf d (evC lf d) k fu = lpA_tables_first lf d fu k
  | 0 => by funext x0 x1 x4 x5 x6 x18 x19; kernel_rfl
  | fu + 1 => by
    have ih := LQA_tables_first lf d k fu
    funext x0 x1 x4 x5 x6 x18 x19; simp only [LA_tables_first, ih, clash3_eq, evIA3_eq (P := PP) Tryd.underlying23 gs22, evMake3_eq, evStore3_eq (P := PP) gs22, insB_eq, q_add_eq (P := PP) nf3, q_lss_eq (P := PP) nf3]; kernel_rfl
set_option maxRecDepth 20000 in
theorem KQB_tables_first (lf d : Nat) : KB_tables_first lf d (evC lf d) (kcB_tables_first lf d) = kcB_tables_first lf d := by
  unfold KB_tables_first
  refine Eq.trans (kEx_eq ?_) ?_
  · exact (runCur_eq _ _ _ (by intro y0 y1 y4 y5 y6 y8 y18 y19 y20 y29 y30 y31 y32; show _ = _; (try simp only [clash3_eq, insB_eq]); kernel_rfl))
  rfl
theorem LQC_tables_first (lf d : Nat) (k : KT) : ∀ fu : Nat, LC_tables_first lf d (evC lf d) k fu = lpC_tables_first lf d fu k
  | 0 => by funext x0 x1 x4 x5 x6 x8 x9 x10 x11 x18 x19 x20 x29 x30 x31 x32 x42 x43; kernel_rfl
  | fu + 1 => by
    have ih := LQC_tables_first lf d k fu
    funext x0 x1 x4 x5 x6 x8 x9 x10 x11 x18 x19 x20 x29 x30 x31 x32 x42 x43; simp only [LC_tables_first, ih, clash3_eq, evIA3_eq (P := PP) Tryd.underlying22 gs3, evIA3_eq (P := PP) Tryd.underlying23 gs22, evLoad3_eq (P := PP) ga22, evStore3_eq (P := PP) gs3, insB_eq, q_add_eq (P := PP) nf3, q_lss_eq (P := PP) nf3, q_neq_eq (P := PP) nf3]; kernel_rfl
set_option maxRecDepth 20000 in
theorem KQC_tables_first (lf d fu : Nat) (k : KT) (again : Value → Value → Value → Value → Value → Value → Value → Value → Value → Value → Value → Value → M Value) (ha : again = lpB_tables_first lf d fu k) : KC_tables_first lf d (evC lf d) fu k again (kcC_tables_first lf d fu k) = kcC_tables_first lf d fu k := by
  subst ha
  unfold KC_tables_first
  refine Eq.trans (kEx_eq ?_) ?_
  · exact (runCur_eq _ _ _ (by intro y0 y1 y4 y5 y6 y8 y9 y10 y11 y18 y19 y20 y29 y30 y31 y32 y42 y43 y44; show _ = _; (try simp only [clash3_eq, insB_eq, q_add_eq (P := PP) nf3, q_sub_eq (P := PP) nf3]); kernel_rfl))
  rfl
theorem LQB_tables_first (lf d : Nat) (k : KT) : ∀ fu : Nat, LB_tables_first lf d (evC lf d) k fu = lpB_tables_first lf d fu k
  | 0 => by funext x0 x1 x4 x5 x6 x8 x18 x19 x20 x29 x30 x31; kernel_rfl
  | fu + 1 => by
    have ih := LQB_tables_first lf d k fu
    funext x0 x1 x4 x5 x6 x8 x18 x19 x20 x29 x30 x31; simp only [LB_tables_first, ih, KQC_tables_first lf d fu k _ rfl, LQC_tables_first, clash3_eq, evIA3_eq (P := PP) Tryd.underlying22 gs3, evLoad3_eq (P := PP) ga3, insB_eq, q_lss_eq (P := PP) nf3, q_mul_eq (P := PP) nf3, q_quo_eq (P := PP) nf3]; kernel_rfl
set_option maxRecDepth 20000 in
theorem KQA_tables_first (lf d : Nat) : KA_tables_first lf d (evC lf d) (kcA_tables_first lf d) = kcA_tables_first lf d := by
  unfold KA_tables_first
  refine Eq.trans (kEx_eq ?_) ?_
  · exact (runCur_eq _ _ _ (by intro y0 y1 y4 y5 y6 y18 y19 y20; show _ = _; (try simp only [KQB_tables_first lf d, LQB_tables_first, clash3_eq, insB_eq]); kernel_rfl))
  rfl
theorem fsh_tables_first (lf d : Nat) (a0 a1 : Value) : inside (F_tables_first lf d (evC lf d) a0 a1) = evC lf (d + 1) 36 #[a0, a1] := by
  unfold F_tables_first; (try simp only [KQA_tables_first lf d, LQA_tables_first, clash3_eq, evMake3_eq, insB_eq]); kernel_rfl

noncomputable def lpA_tables_round (lf d fu : Nat) (k : KT) (x0 x1 x2 x6 x7 x8 x9 x27 x28 : Value) : M Value := loopK (fun s1 k1 => codeK PP (evC lf d) (gtA 37) lf (codeAt (bodyOf PP 37) [true, true, true, false, true, false, false]) s1 k1) [0, 1, 2, 6, 7, 8, 9, 27, 28] fu [(0, x0), (1, x1), (2, x2), (6, x6), (7, x7), (8, x8), (9, x9), (27, x27), (28, x28)] k
noncomputable def kcA_tables_round (lf d : Nat) : KT := contAt PP (evC lf d) (gtA 37) lf (bodyOf PP 37) [true, true, true, false, true, false] (endK PP (resOf PP 37))
noncomputable def lpB_tables_round (lf d fu : Nat) (k : KT) (x0 x1 x2 x6 x7 x8 x9 x27 x28 x29 x37 x38 x39 : Value) : M Value := loopK (fun s1 k1 => codeK PP (evC lf d) (gtA 37) lf (codeAt (bodyOf PP 37) [true, true, true, true, false, true, false, false]) s1 k1) [0, 1, 2, 6, 7, 8, 9, 27, 28, 29, 37, 38, 39] fu [(0, x0), (1, x1), (2, x2), (6, x6), (7, x7), (8, x8), (9, x9), (27, x27), (28, x28), (29, x29), (37, x37), (38, x38), (39, x39)] k
noncomputable def kcB_tables_round (lf d : Nat) : KT := contAt PP (evC lf d) (gtA 37) lf (bodyOf PP 37) [true, true, true, true, false, true, false] (endK PP (resOf PP 37))
noncomputable def lpC_tables_round (lf d fu : Nat) (k : KT) (x0 x1 x2 x6 x7 x8 x9 x18 x27 x28 x29 x37 x38 x39 x40 x70 x71 x72 : Value) : M Value := loopK (fun s1 k1 => codeK PP (evC lf d) (gtA 37) lf (codeAt (bodyOf PP 37) [true, true, true, true, true, true, false, true, false, false]) s1 k1) [0, 1, 2, 6, 7, 8, 9, 18, 27, 28, 29, 37, 38, 39, 40, 70, 71, 72] fu [(0, x0), (1, x1), (2, x2), (6, x6), (7, x7), (8, x8), (9, x9), (18, x18), (27, x27), (28, x28), (29, x29), (37, x37), (38, x38), (39, x39), (40, x40), (70, x70), (71, x71), (72, x72)] k
noncomputable def kcC_tables_round (lf d : Nat) : KT := contAt PP (evC lf d) (gtA 37) lf (bodyOf PP 37) [true, true, true, true, true, true, false, true, false] (endK PP (resOf PP 37))
noncomputable def LA_tables_round (lf d : Nat) (rec : RT) (k : KT) : Nat → Value → Value → Value → Value → Value → Value → Value → Value → Value → M Value
  | 0, _, _, _, _, _, _, _, _, _ => M.fail
  | fu + 1, x0, x1, x2, x6, x7, x8, x9, x27, x28 =>
    optK (q_lss PP 3 x28 x27) fun v29n4 =>
    ifV v29n4 (
      insB (evMake3 PP 22 x2 x2) fun v34n5 =>
      optK (evIA3 PP 23 1 x9 x28) fun v35n6 =>
      insB (evStore3 PP 22 v35n6 v34n5) fun u7 =>
      optK (q_add PP 3 x28 (Value.int .i64 1)) fun v36n8 =>
      LA_tables_round lf d rec k fu x0 x1 x2 x6 x7 x8 x9 x27 v36n8) (
      k (Ex.exit 0) [(0, x0), (1, x1), (2, x2), (6, x6), (7, x7), (8, x8), (9, x9), (27, x27), (28, x28), (29, v29n4)])
noncomputable def LB_tables_round (lf d : Nat) (rec : RT) (k : KT) : Nat → Value → Value → Value → Value → Value → Value → Value → Value → Value → Value → Value → Value → Value → M Value
  | 0, _, _, _, _, _, _, _, _, _, _, _, _, _ => M.fail
  | fu + 1, x0, x1, x2, x6, x7, x8, x9, x27, x28, x29, x37, x38, x39 =>
    optK (q_lss PP 3 x39 x38) fun v40n10 =>
    ifV v40n10 (
      optK (evIA3 PP 23 1 x37 x39) fun v41n11 =>
      insB (evLoad3 PP 22 v41n11) fun v42n12 =>
      (inside (rec 50 #[v42n12, x1])).bind fun v45n13 =>
      insB (evBS3 PP 22 1 [(0, v45n13)]) fun v48n14 =>
      insB (evAppend3 PP 22 x8 v48n14) fun v49n15 =>
      (inside (rec 34 #[v42n12, x2])).bind fun v53n16 =>
      optK (evExtract v53n16 0) fun v54n17 =>
      optK (evExtract v53n16 1) fun v55n18 =>
      optK (evIA3 PP 23 1 x9 v45n13) fun v59n19 =>
      insB (evLoad3 PP 22 v59n19) fun v60n20 =>
      (inside (rec 51 #[v60n20, v54n17])).bind fun v62n21 =>
      optK (evExtract v62n21 0) fun v63n22 =>
      optK (evExtract v62n21 1) fun v64n23 =>
      optK (evIA3 PP 23 1 x9 v45n13) fun v68n24 =>
      insB (evStore3 PP 22 v68n24 v63n22) fun u25 =>
      optK (q_add PP 3 x39 (Value.int .i64 1)) fun v69n26 =>
      LB_tables_round lf d rec k fu x0 x1 x2 x6 x7 v49n15 x9 x27 x28 x29 x37 x38 v69n26) (
      k (Ex.exit 2) [(0, x0), (1, x1), (2, x2), (6, x6), (7, x7), (8, x8), (9, x9), (27, x27), (28, x28), (29, x29), (37, x37), (38, x38), (39, x39), (40, v40n10)])
noncomputable def LC_tables_round (lf d : Nat) (rec : RT) (k : KT) : Nat → Value → Value → Value → Value → Value → Value → Value → Value → Value → Value → Value → Value → Value → Value → Value → Value → Value → Value → M Value
  | 0, _, _, _, _, _, _, _, _, _, _, _, _, _, _, _, _, _, _ => M.fail
  | fu + 1, x0, x1, x2, x6, x7, x8, x9, x18, x27, x28, x29, x37, x38, x39, x40, x70, x71, x72 =>
    optK (q_lss PP 3 x72 x71) fun v73n28 =>
    ifV v73n28 (
      optK (evIA3 PP 23 1 x70 x72) fun v74n29 =>
      insB (evLoad3 PP 22 v74n29) fun v75n30 =>
      (inside (rec 39 #[v75n30])).bind fun v78n31 =>
      optK (evExtract v78n31 0) fun v79n32 =>
      optK (evExtract v78n31 1) fun v80n33 =>
      insB (evBS3 PP 23 1 [(0, v79n32)]) fun v83n34 =>
      insB (evAppend3 PP 23 x18 v83n34) fun v84n35 =>
      optK (q_add PP 3 x72 (Value.int .i64 1)) fun v85n36 =>
      LC_tables_round lf d rec k fu x0 x1 x2 x6 x7 x8 x9 v84n35 x27 x28 x29 x37 x38 x39 x40 x70 x71 v85n36) (
      k (Ex.exit 4) [(0, x0), (1, x1), (2, x2), (6, x6), (7, x7), (8, x8), (9, x9), (18, x18), (27, x27), (28, x28), (29, x29), (37, x37), (38, x38), (39, x39), (40, x40), (70, x70), (71, x71), (72, x72), (73, v73n28)])
noncomputable def KC_tables_round (lf d : Nat) (rec : RT) (dflt : KT) : KT := (kEx 4 (runCur [0, 1, 2, 6, 7, 8, 9, 18, 27, 28, 29, 37, 38, 39, 40, 70, 71, 72, 73] (fun y0 y1 y2 y6 y7 y8 y9 y18 y27 y28 y29 y37 y38 y39 y40 y70 y71 y72 y73 =>
  outK [y8, y18]) (dflt (Ex.exit 4))) dflt)
noncomputable def KB_tables_round (lf d : Nat) (rec : RT) (dflt : KT) : KT := (kEx 2 (runCur [0, 1, 2, 6, 7, 8, 9, 27, 28, 29, 37, 38, 39, 40] (fun y0 y1 y2 y6 y7 y8 y9 y27 y28 y29 y37 y38 y39 y40 =>
  optK (len2 PP #[23] [y9]) fun v71n27 =>
  LC_tables_round lf d rec (KC_tables_round lf d rec (kcC_tables_round lf d)) lf y0 y1 y2 y6 y7 y8 y9 (Value.slice none 0 0) y27 y28 y29 y37 y38 y39 y40 y9 v71n27 (Value.int .i64 0)) (dflt (Ex.exit 2))) dflt)
noncomputable def KA_tables_round (lf d : Nat) (rec : RT) (dflt : KT) : KT := (kEx 0 (runCur [0, 1, 2, 6, 7, 8, 9, 27, 28, 29] (fun y0 y1 y2 y6 y7 y8 y9 y27 y28 y29 =>
  optK (len2 PP #[23] [y0]) fun v38n9 =>
  LB_tables_round lf d rec (KB_tables_round lf d rec (kcB_tables_round lf d)) lf y0 y1 y2 y6 y7 y8 y9 y27 y28 y29 y0 v38n9 (Value.int .i64 0)) (dflt (Ex.exit 0))) dflt)
noncomputable def F_tables_round (lf d : Nat) (rec : RT) (a0 a1 a2 : Value) : M Value :=
  optK (len2 PP #[23] [a1]) fun v24n1 =>
  insB (evMake3 PP 23 v24n1 v24n1) fun v25n2 =>
  optK (len2 PP #[23] [v25n2]) fun v27n3 =>
  LA_tables_round lf d rec (KA_tables_round lf d rec (kcA_tables_round lf d)) lf a0 a1 a2 (Value.slice none 0 0) (Value.slice none 0 0) (Value.slice none 0 0) v25n2 v27n3 (Value.int .i64 0)
theorem LQA_tables_round (lf d : Nat) (k : KT) : ∀ fu : Nat, LA_tables_round lf d (evC lf d) k fu = lpA_tables_round lf d fu k
  | 0 => by funext x0 x1 x2 x6 x7 x8 x9 x27 x28; kernel_rfl
  | fu + 1 => by
    have ih := LQA_tables_round lf d k fu
    funext x0 x1 x2 x6 x7 x8 x9 x27 x28; simp only [LA_tables_round, ih, clash3_eq, evIA3_eq (P := PP) Tryd.underlying23 gs22, evMake3_eq, evStore3_eq (P := PP) gs22, insB_eq, q_add_eq (P := PP) nf3, q_lss_eq (P := PP) nf3]; kernel_rfl
theorem LQB_tables_round (lf d : Nat) (k : KT) : ∀ fu : Nat, LB_tables_round lf d (evC lf d) k fu = lpB_tables_round lf d fu k
  | 0 => by funext x0 x1 x2 x6 x7 x8 x9 x27 x28 x29 x37 x38 x39; kernel_rfl
  | fu + 1 => by
    have ih := LQB_tables_round lf d k fu
    funext x0 x1 x2 x6 x7 x8 x9 x27 x28 x29 x37 x38 x39; simp only [LB_tables_round, ih, clash3_eq, evAppend3_eq, evBS3_eq, evIA3_eq (P := PP) Tryd.underlying23 gs22, evLoad3_eq (P := PP) ga22, evStore3_eq (P := PP) gs22, insB_eq, q_add_eq (P := PP) nf3, q_lss_eq (P := PP) nf3]; kernel_rfl
theorem LQC_tables_round (lf d : Nat) (k : KT) : ∀ fu : Nat, LC_tables_round lf d (evC lf d) k fu = lpC_tables_round lf d fu k
  | 0 => by funext x0 x1 x2 x6 x7 x8 x9 x18 x27 x28 x29 x37 x38 x39 x40 x70 x71 x72; kernel_rfl
  | fu + 1 => by
    have ih := LQC_tables_round lf d k fu
    funext x0 x1 x2 x6 x7 x8 x9 x18 x27 x28 x29 x37 x38 x39 x40 x70 x71 x72; simp only [LC_tables_round, ih, clash3_eq, evAppend3_eq, evBS3_eq, evIA3_eq (P := PP) Tryd.underlying23 gs22, evLoad3_eq (P := PP) ga22, insB_eq, q_add_eq (P := PP) nf3, q_lss_eq (P := PP) nf3]; kernel_rfl
set_option maxRecDepth 20000 in
theorem KQC_tables_round (lf d : Nat) : KC_tables_round lf d (evC lf d) (kcC_tables_round lf d) = kcC_tables_round lf d := by
  unfold KC_tables_round
  refine Eq.trans (kEx_eq ?_) ?_
  · exact (runCur_eq _ _ _ (by intro y0 y1 y2 y6 y7 y8 y9 y18 y27 y28 y29 y37 y38 y39 y40 y70 y71 y72 y73; show _ = _; (try simp only [clash3_eq, insB_eq]); kernel_rfl))
  rfl
set_option maxRecDepth 20000 in
theorem KQB_tables_round (lf d : Nat) : KB_tables_round lf d (evC lf d) (kcB_tables_round lf d) = kcB_tables_round lf d := by
  unfold KB_tables_round
  refine Eq.trans (kEx_eq ?_) ?_
  · exact (runCur_eq _ _ _ (by intro y0 y1 y2 y6 y7 y8 y9 y27 y28 y29 y37 y38 y39 y40; show _ = _; (try simp only [KQC_tables_round lf d, LQC_tables_round, clash3_eq, insB_eq]); kernel_rfl))
  rfl
set_option maxRecDepth 20000 in
theorem KQA_tables_round (lf d : Nat) : KA_tables_round lf d (evC lf d) (kcA_tables_round lf d) = kcA_tables_round lf d := by
  unfold KA_tables_round
  refine Eq.trans (kEx_eq ?_) ?_
  · exact (runCur_eq _ _ _ (by intro y0 y1 y2 y6 y7 y8 y9 y27 y28 y29; show _ = _; (try simp only [KQB_tables_round lf d, LQB_tables_round, clash3_eq, insB_eq]); kernel_rfl))
  rfl
theorem fsh_tables_round (lf d : Nat) (a0 a1 a2 : Value) : inside (F_tables_round lf d (evC lf d) a0 a1 a2) = evC lf (d + 1) 37 #[a0, a1, a2] := by
  unfold F_tables_round; (try simp only [KQA_tables_round lf d, LQA_tables_round, clash3_eq, evMake3_eq, insB_eq]); kernel_rfl

noncomputable def lpA_lens_Of (lf d fu : Nat) (k : KT) (x0 x2 x3 x4 x20 x24 x25 x26 : Value) : M Value := loopK (fun s1 k1 => codeK PP (evC lf d) (gtA 39) lf (codeAt (bodyOf PP 39) [true, true, true, false, true, false, false]) s1 k1) [0, 2, 3, 4, 20, 24, 25, 26] fu [(0, x0), (2, x2), (3, x3), (4, x4), (20, x20), (24, x24), (25, x25), (26, x26)] k
noncomputable def kcA_lens_Of (lf d : Nat) : KT := contAt PP (evC lf d) (gtA 39) lf (bodyOf PP 39) [true, true, true, false, true, false] (endK PP (resOf PP 39))
noncomputable def lpB_lens_Of (lf d fu : Nat) (k : KT) (x0 x2 x3 x4 x20 x24 x25 x26 x27 : Value) : M Value := loopK (fun s1 k1 => codeK PP (evC lf d) (gtA 39) lf (codeAt (bodyOf PP 39) [true, true, true, true, false, false]) s1 k1) [0, 2, 3, 4, 20, 24, 25, 26, 27] fu [(0, x0), (2, x2), (3, x3), (4, x4), (20, x20), (24, x24), (25, x25), (26, x26), (27, x27)] k
noncomputable def kcB_lens_Of (lf d : Nat) : KT := contAt PP (evC lf d) (gtA 39) lf (bodyOf PP 39) [true, true, true, true, false] (endK PP (resOf PP 39))
noncomputable def LA_lens_Of (lf d : Nat) (rec : RT) (k : KT) : Nat → Value → Value → Value → Value → Value → Value → Value → Value → M Value
  | 0, _, _, _, _, _, _, _, _ => M.fail
  | fu + 1, x0, x2, x3, x4, x20, x24, x25, x26 =>
    optK (q_lss PP 3 x26 x25) fun v27n10 =>
    ifV v27n10 (
      optK (evIA3 PP 22 1 x24 x26) fun v29n11 =>
      insB (evLoad3 PP 3 v29n11) fun v30n12 =>
      optK (max2 [v30n12, (Value.int .i64 1)]) fun v34n13 =>
      optK (evIA3 PP 22 1 x4 x26) fun v35n14 =>
      insB (evStore3 PP 3 v35n14 v34n13) fun u15 =>
      optK (q_add PP 3 x26 (Value.int .i64 1)) fun v36n16 =>
      LA_lens_Of lf d rec k fu x0 x2 x3 x4 x20 x24 x25 v36n16) (
      k (Ex.exit 0) [(0, x0), (2, x2), (3, x3), (4, x4), (20, x20), (24, x24), (25, x25), (26, x26), (27, v27n10)])
noncomputable def LB_lens_Of (lf d : Nat) (rec : RT) (k : KT) : Nat → Value → Value → Value → Value → Value → Value → Value → Value → Value → M Value
  | 0, _, _, _, _, _, _, _, _, _ => M.fail
  | fu + 1, x0, x2, x3, x4, x20, x24, x25, x26, x27 =>
    (inside (rec 53 #[x4])).bind fun v38n17 =>
    (inside (rec 54 #[v38n17])).bind fun v40n18 =>
    optK (q_leq PP 3 v40n18 (Value.int .i64 20)) fun v41n19 =>
    ifV v41n19 (
      (inside (rec 55 #[v38n17])).bind fun v43n20 =>
      k Ex.ret [(0, x0), (2, v43n20), (3, (Value.int .i64 0)), (4, x4), (7, v38n17), (20, x20), (24, x24), (25, x25), (26, x26), (27, x27), (41, v41n19)]) (
      (inside (rec 56 #[x4])).bind fun v45n21 =>
      LB_lens_Of lf d rec k fu x0 x2 x3 v45n21 x20 x24 x25 x26 x27)
noncomputable def KB_lens_Of (lf d : Nat) (rec : RT) (dflt : KT) : KT := (kRt (runCur [0, 2, 3, 4, 7, 20, 24, 25, 26, 27, 41] (fun y0 y2 y3 y4 y7 y20 y24 y25 y26 y27 y41 =>
  outK [y2, y3]) (dflt Ex.ret)) dflt)
noncomputable def KA_lens_Of (lf d : Nat) (rec : RT) (dflt : KT) : KT := (kEx 0 (runCur [0, 2, 3, 4, 20, 24, 25, 26, 27] (fun y0 y2 y3 y4 y20 y24 y25 y26 y27 =>
  LB_lens_Of lf d rec (KB_lens_Of lf d rec (kcB_lens_Of lf d)) lf y0 y2 y3 y4 y20 y24 y25 y26 y27) (dflt (Ex.exit 0))) dflt)
noncomputable def F_lens_Of (lf d : Nat) (rec : RT) (a0 : Value) : M Value :=
  optK (len2 PP #[22] [a0]) fun v9n1 =>
  optK (q_lss PP 3 v9n1 (Value.int .i64 3)) fun v10n2 =>
  ifV v10n2 (
    outK [(Value.slice none 0 0), (Value.int .i64 1)]) (
    optK (len2 PP #[22] [a0]) fun v13n3 =>
    optK (q_gtr PP 3 v13n3 (Value.int .i64 258)) fun v14n4 =>
    ifV v14n4 (
      outK [(Value.slice none 0 0), (Value.int .i64 1)]) (
      (inside (rec 52 #[a0, (Value.int .i64 0), (Value.int .i64 1099511627776)])).bind fun v18n5 =>
      optK (un3 PP .not v18n5) fun v19n6 =>
      ifV v19n6 (
        outK [(Value.slice none 0 0), (Value.int .i64 1)]) (
        optK (len2 PP #[22] [a0]) fun v22n7 =>
        insB (evMake3 PP 22 v22n7 v22n7) fun v23n8 =>
        optK (len2 PP #[22] [a0]) fun v25n9 =>
        LA_lens_Of lf d rec (KA_lens_Of lf d rec (kcA_lens_Of lf d)) lf a0 (Value.slice none 0 0) (Value.int .i64 0) v23n8 v19n6 a0 v25n9 (Value.int .i64 0))))
theorem LQA_lens_Of (lf d : Nat) (k : KT) : ∀ fu : Nat, LA_lens_Of lf d (evC lf d) k fu = lpA_lens_Of lf d fu k
  | 0 => by funext x0 x2 x3 x4 x20 x24 x25 x26; kernel_rfl
  | fu + 1 => by
    have ih := LQA_lens_Of lf d k fu
    funext x0 x2 x3 x4 x20 x24 x25 x26; simp only [LA_lens_Of, ih, clash3_eq, evIA3_eq (P := PP) Tryd.underlying22 gs3, evLoad3_eq (P := PP) ga3, evStore3_eq (P := PP) gs3, insB_eq, q_add_eq (P := PP) nf3, q_lss_eq (P := PP) nf3]; kernel_rfl
theorem LQB_lens_Of (lf d : Nat) (k : KT) : ∀ fu : Nat, LB_lens_Of lf d (evC lf d) k fu = lpB_lens_Of lf d fu k
  | 0 => by funext x0 x2 x3 x4 x20 x24 x25 x26 x27; kernel_rfl
  | fu + 1 => by
    have ih := LQB_lens_Of lf d k fu
    funext x0 x2 x3 x4 x20 x24 x25 x26 x27; simp only [LB_lens_Of, ih, clash3_eq, insB_eq, q_leq_eq (P := PP) nf3]; kernel_rfl
set_option maxRecDepth 20000 in
theorem KQB_lens_Of (lf d : Nat) : KB_lens_Of lf d (evC lf d) (kcB_lens_Of lf d) = kcB_lens_Of lf d := by
  unfold KB_lens_Of
  refine Eq.trans (kRt_eq ?_) ?_
  · exact (runCur_eq _ _ _ (by intro y0 y2 y3 y4 y7 y20 y24 y25 y26 y27 y41; show _ = _; (try simp only [clash3_eq, insB_eq]); kernel_rfl))
  rfl
set_option maxRecDepth 20000 in
theorem KQA_lens_Of (lf d : Nat) : KA_lens_Of lf d (evC lf d) (kcA_lens_Of lf d) = kcA_lens_Of lf d := by
  unfold KA_lens_Of
  refine Eq.trans (kEx_eq ?_) ?_
  · exact (runCur_eq _ _ _ (by intro y0 y2 y3 y4 y20 y24 y25 y26 y27; show _ = _; (try simp only [KQB_lens_Of lf d, LQB_lens_Of, clash3_eq, insB_eq]); kernel_rfl))
  rfl
theorem fsh_lens_Of (lf d : Nat) (a0 : Value) : inside (F_lens_Of lf d (evC lf d) a0) = evC lf (d + 1) 39 #[a0] := by
  unfold F_lens_Of; (try simp only [KQA_lens_Of lf d, LQA_lens_Of, clash3_eq, evMake3_eq, insB_eq, q_gtr_eq (P := PP) nf3, q_lss_eq (P := PP) nf3, un3_eq]); kernel_rfl

noncomputable def F_freq_part_int (lf d : Nat) (rec : RT) (a0 a1 a2 : Value) : M Value :=
  optK (q_mul PP 3 a1 a2) fun v10n1 =>
  optK (len2 PP #[22] [a0]) fun v12n2 =>
  optK (q_add PP 3 a1 (Value.int .i64 1)) fun v14n3 =>
  optK (q_mul PP 3 v14n3 a2) fun v16n4 =>
  optK (min2 [v12n2, v16n4]) fun v17n5 =>
  slice2 PP 22 a0 (some v10n1) (some v17n5) none fun v18n6 =>
  (inside (rec 55 #[v18n6])).bind fun v19n7 =>
  outK [v19n7]
theorem fsh_freq_part_int (lf d : Nat) (a0 a1 a2 : Value) : inside (F_freq_part_int lf d (evC lf d) a0 a1 a2) = evC lf (d + 1) 47 #[a0, a1, a2] := by
  unfold F_freq_part_int; (try simp only [clash3_eq, insB_eq, q_add_eq (P := PP) nf3, q_mul_eq (P := PP) nf3]); kernel_rfl

noncomputable def F_freq_all (lf d : Nat) (rec : RT) (a0 : Value) : M Value :=
  (inside (rec 59 #[a0, (Value.func (.func 60) #[] #[])])).bind fun v4n1 =>
  optK (un3 PP .not v4n1) fun v5n2 =>
  outK [v5n2]
theorem fsh_freq_all (lf d : Nat) (a0 : Value) : inside (F_freq_all lf d (evC lf d) a0) = evC lf (d + 1) 48 #[a0] := by
  unfold F_freq_all; (try simp only [clash3_eq, insB_eq, un3_eq]); kernel_rfl

noncomputable def F_freq_together (lf d : Nat) (rec : RT) (a0 a1 : Value) : M Value :=
  optK (q_add PP 3 a0 a1) fun v7n1 =>
  optK (min2 [v7n1, (Value.int .i64 1099511627776)]) fun v8n2 =>
  outK [v8n2]
theorem fsh_freq_together (lf d : Nat) (a0 a1 : Value) : inside (F_freq_together lf d (evC lf d) a0 a1) = evC lf (d + 1) 49 #[a0, a1] := by
  unfold F_freq_together; (try simp only [clash3_eq, insB_eq, q_add_eq (P := PP) nf3]); kernel_rfl

noncomputable def lpA_tables_pick (lf d fu : Nat) (k : KT) (x0 x1 x4 x5 x6 x11 x12 x13 : Value) : M Value := loopK (fun s1 k1 => codeK PP (evC lf d) (gtA 50) lf (codeAt (bodyOf PP 50) [true, true, false, true, false, false]) s1 k1) [0, 1, 4, 5, 6, 11, 12, 13] fu [(0, x0), (1, x1), (4, x4), (5, x5), (6, x6), (11, x11), (12, x12), (13, x13)] k
noncomputable def kcA_tables_pick (lf d : Nat) : KT := contAt PP (evC lf d) (gtA 50) lf (bodyOf PP 50) [true, true, false, true, false] (endK PP (resOf PP 50))
noncomputable def LA_tables_pick (lf d : Nat) (rec : RT) (k : KT) : Nat → Value → Value → Value → Value → Value → Value → Value → Value → M Value
  | 0, _, _, _, _, _, _, _, _ => M.fail
  | fu + 1, x0, x1, x4, x5, x6, x11, x12, x13 =>
    optK (q_lss PP 3 x13 x12) fun v14n2 =>
    ifV v14n2 (
      optK (evIA3 PP 23 1 x11 x13) fun v16n3 =>
      insB (evLoad3 PP 22 v16n3) fun v17n4 =>
      (inside (rec 31 #[x0, v17n4])).bind fun v21n5 =>
      optK (evExtract v21n5 0) fun v22n6 =>
      optK (evExtract v21n5 1) fun v23n7 =>
      optK (q_lss PP 3 v22n6 x6) fun v26n8 =>
      ifV v26n8 (
        optK (q_add PP 3 x13 (Value.int .i64 1)) fun v29n9 =>
        LA_tables_pick lf d rec k fu x0 x1 x4 x13 v22n6 x11 x12 v29n9) (
        optK (q_add PP 3 x13 (Value.int .i64 1)) fun v29n10 =>
        LA_tables_pick lf d rec k fu x0 x1 x4 x5 x6 x11 x12 v29n10)) (
      k (Ex.exit 0) [(0, x0), (1, x1), (4, x4), (5, x5), (6, x6), (11, x11), (12, x12), (13, x13), (14, v14n2)])
noncomputable def KA_tables_pick (lf d : Nat) (rec : RT) (dflt : KT) : KT := (kEx 0 (runCur [0, 1, 4, 5, 6, 11, 12, 13, 14] (fun y0 y1 y4 y5 y6 y11 y12 y13 y14 =>
  outK [y5]) (dflt (Ex.exit 0))) dflt)
noncomputable def F_tables_pick (lf d : Nat) (rec : RT) (a0 a1 : Value) : M Value :=
  optK (len2 PP #[23] [a1]) fun v12n1 =>
  LA_tables_pick lf d rec (KA_tables_pick lf d rec (kcA_tables_pick lf d)) lf a0 a1 (Value.int .i64 0) (Value.int .i64 0) (Value.int .i64 1099511627776) a1 v12n1 (Value.int .i64 0)
theorem LQA_tables_pick (lf d : Nat) (k : KT) : ∀ fu : Nat, LA_tables_pick lf d (evC lf d) k fu = lpA_tables_pick lf d fu k
  | 0 => by funext x0 x1 x4 x5 x6 x11 x12 x13; kernel_rfl
  | fu + 1 => by
    have ih := LQA_tables_pick lf d k fu
    funext x0 x1 x4 x5 x6 x11 x12 x13; simp only [LA_tables_pick, ih, clash3_eq, evIA3_eq (P := PP) Tryd.underlying23 gs22, evLoad3_eq (P := PP) ga22, insB_eq, q_add_eq (P := PP) nf3, q_lss_eq (P := PP) nf3]; kernel_rfl
set_option maxRecDepth 20000 in
theorem KQA_tables_pick (lf d : Nat) : KA_tables_pick lf d (evC lf d) (kcA_tables_pick lf d) = kcA_tables_pick lf d := by
  unfold KA_tables_pick
  refine Eq.trans (kEx_eq ?_) ?_
  · exact (runCur_eq _ _ _ (by intro y0 y1 y4 y5 y6 y11 y12 y13 y14; show _ = _; (try simp only [clash3_eq, insB_eq]); kernel_rfl))
  rfl
theorem fsh_tables_pick (lf d : Nat) (a0 a1 : Value) : inside (F_tables_pick lf d (evC lf d) a0 a1) = evC lf (d + 1) 50 #[a0, a1] := by
  unfold F_tables_pick; (try simp only [KQA_tables_pick lf d, LQA_tables_pick, clash3_eq, insB_eq]); kernel_rfl

noncomputable def lpA_freq_Add (lf d fu : Nat) (k : KT) (x0 x1 x4 x5 x6 x22 x27 x28 : Value) : M Value := loopK (fun s1 k1 => codeK PP (evC lf d) (gtA 51) lf (codeAt (bodyOf PP 51) [true, true, true, false, true, false, false]) s1 k1) [0, 1, 4, 5, 6, 22, 27, 28] fu [(0, x0), (1, x1), (4, x4), (5, x5), (6, x6), (22, x22), (27, x27), (28, x28)] k
noncomputable def kcA_freq_Add (lf d : Nat) : KT := contAt PP (evC lf d) (gtA 51) lf (bodyOf PP 51) [true, true, true, false, true, false] (endK PP (resOf PP 51))
noncomputable def LA_freq_Add (lf d : Nat) (rec : RT) (k : KT) : Nat → Value → Value → Value → Value → Value → Value → Value → Value → M Value
  | 0, _, _, _, _, _, _, _, _ => M.fail
  | fu + 1, x0, x1, x4, x5, x6, x22, x27, x28 =>
    optK (q_lss PP 3 x28 x27) fun v29n11 =>
    ifV v29n11 (
      optK (evIA3 PP 22 1 x0 x28) fun v35n12 =>
      insB (evLoad3 PP 3 v35n12) fun v36n13 =>
      optK (evIA3 PP 22 1 x1 x28) fun v39n14 =>
      insB (evLoad3 PP 3 v39n14) fun v40n15 =>
      (inside (rec 49 #[v36n13, v40n15])).bind fun v41n16 =>
      optK (evIA3 PP 22 1 x6 x28) fun v42n17 =>
      insB (evStore3 PP 3 v42n17 v41n16) fun u18 =>
      optK (q_add PP 3 x28 (Value.int .i64 1)) fun v43n19 =>
      LA_freq_Add lf d rec k fu x0 x1 x4 x5 x6 x22 x27 v43n19) (
      k (Ex.exit 0) [(0, x0), (1, x1), (4, x4), (5, x5), (6, x6), (22, x22), (27, x27), (28, x28), (29, v29n11)])
noncomputable def KA_freq_Add (lf d : Nat) (rec : RT) (dflt : KT) : KT := (kEx 0 (runCur [0, 1, 4, 5, 6, 22, 27, 28, 29] (fun y0 y1 y4 y5 y6 y22 y27 y28 y29 =>
  outK [y6, (Value.int .i64 0)]) (dflt (Ex.exit 0))) dflt)
noncomputable def F_freq_Add (lf d : Nat) (rec : RT) (a0 a1 : Value) : M Value :=
  optK (len2 PP #[22] [a0]) fun v9n1 =>
  optK (len2 PP #[22] [a1]) fun v11n2 =>
  optK (q_neq PP 3 v9n1 v11n2) fun v12n3 =>
  ifV v12n3 (
    outK [(Value.slice none 0 0), (Value.int .i64 1)]) (
    (inside (rec 48 #[a0])).bind fun v15n4 =>
    optK (un3 PP .not v15n4) fun v16n5 =>
    ifV v16n5 (
      outK [(Value.slice none 0 0), (Value.int .i64 1)]) (
      (inside (rec 48 #[a1])).bind fun v20n6 =>
      optK (un3 PP .not v20n6) fun v21n7 =>
      ifV v21n7 (
        outK [(Value.slice none 0 0), (Value.int .i64 1)]) (
        optK (len2 PP #[22] [a0]) fun v24n8 =>
        insB (evMake3 PP 22 v24n8 v24n8) fun v25n9 =>
        optK (len2 PP #[22] [v25n9]) fun v27n10 =>
        LA_freq_Add lf d rec (KA_freq_Add lf d rec (kcA_freq_Add lf d)) lf a0 a1 (Value.slice none 0 0) (Value.int .i64 0) v25n9 v21n7 v27n10 (Value.int .i64 0))))
theorem LQA_freq_Add (lf d : Nat) (k : KT) : ∀ fu : Nat, LA_freq_Add lf d (evC lf d) k fu = lpA_freq_Add lf d fu k
  | 0 => by funext x0 x1 x4 x5 x6 x22 x27 x28; kernel_rfl
  | fu + 1 => by
    have ih := LQA_freq_Add lf d k fu
    funext x0 x1 x4 x5 x6 x22 x27 x28; simp only [LA_freq_Add, ih, clash3_eq, evIA3_eq (P := PP) Tryd.underlying22 gs3, evLoad3_eq (P := PP) ga3, evStore3_eq (P := PP) gs3, insB_eq, q_add_eq (P := PP) nf3, q_lss_eq (P := PP) nf3]; kernel_rfl
set_option maxRecDepth 20000 in
theorem KQA_freq_Add (lf d : Nat) : KA_freq_Add lf d (evC lf d) (kcA_freq_Add lf d) = kcA_freq_Add lf d := by
  unfold KA_freq_Add
  refine Eq.trans (kEx_eq ?_) ?_
  · exact (runCur_eq _ _ _ (by intro y0 y1 y4 y5 y6 y22 y27 y28 y29; show _ = _; (try simp only [clash3_eq, insB_eq]); kernel_rfl))
  rfl
theorem fsh_freq_Add (lf d : Nat) (a0 a1 : Value) : inside (F_freq_Add lf d (evC lf d) a0 a1) = evC lf (d + 1) 51 #[a0, a1] := by
  unfold F_freq_Add; (try simp only [KQA_freq_Add lf d, LQA_freq_Add, clash3_eq, evMake3_eq, insB_eq, q_neq_eq (P := PP) nf3, un3_eq]); kernel_rfl

noncomputable def F_lens_between (lf d : Nat) (rec : RT) (a0 a1 a2 : Value) : M Value :=
  insB (evBox3 PP 3 a1) fun v4n1 =>
  insB (evBox3 PP 3 a2) fun v5n2 =>
  (inside (rec 59 #[a0, (Value.func (Go.Fn.func 62) #[] #[v4n1, v5n2])])).bind fun v9n3 =>
  optK (un3 PP .not v9n3) fun v10n4 =>
  outK [v10n4]
theorem fsh_lens_between (lf d : Nat) (a0 a1 a2 : Value) : inside (F_lens_between lf d (evC lf d) a0 a1 a2) = evC lf (d + 1) 52 #[a0, a1, a2] := by
  unfold F_lens_between; (try simp only [clash3_eq, evBox3_eq, insB_eq, un3_eq]); kernel_rfl

noncomputable def lpA_lens_depths (lf d fu : Nat) (k : KT) (x0 x2 x3 x11 x12 : Value) : M Value := loopK (fun s1 k1 => codeK PP (evC lf d) (gtA 53) lf (codeAt (bodyOf PP 53) [true, true, false, true, false, false]) s1 k1) [0, 2, 3, 11, 12] fu [(0, x0), (2, x2), (3, x3), (11, x11), (12, x12)] k
noncomputable def kcA_lens_depths (lf d : Nat) : KT := contAt PP (evC lf d) (gtA 53) lf (bodyOf PP 53) [true, true, false, true, false] (endK PP (resOf PP 53))
noncomputable def lpB_lens_depths (lf d fu : Nat) (k : KT) (x0 x2 x3 x5 x6 x11 x12 x13 : Value) : M Value := loopK (fun s1 k1 => codeK PP (evC lf d) (gtA 53) lf (codeAt (bodyOf PP 53) [true, true, true, true, false, true, false, false]) s1 k1) [0, 2, 3, 5, 6, 11, 12, 13] fu [(0, x0), (2, x2), (3, x3), (5, x5), (6, x6), (11, x11), (12, x12), (13, x13)] k
noncomputable def kcB_lens_depths (lf d : Nat) : KT := contAt PP (evC lf d) (gtA 53) lf (bodyOf PP 53) [true, true, true, true, false, true, false] (endK PP (resOf PP 53))
noncomputable def LA_lens_depths (lf d : Nat) (rec : RT) (k : KT) : Nat → Value → Value → Value → Value → Value → M Value
  | 0, _, _, _, _, _ => M.fail
  | fu + 1, x0, x2, x3, x11, x12 =>
    optK (q_lss PP 3 x12 x11) fun v13n4 =>
    ifV v13n4 (
      (inside (rec 64 #[x3])).bind fun v15n5 =>
      (inside (rec 64 #[x3])).bind fun v19n6 =>
      (inside (rec 65 #[x3, v15n5, v19n6])).bind fun v20n7 =>
      optK (q_add PP 3 x12 (Value.int .i64 1)) fun v21n8 =>
      LA_lens_depths lf d rec k fu x0 x2 x3 x11 v21n8) (
      k (Ex.exit 0) [(0, x0), (2, x2), (3, x3), (11, x11), (12, x12), (13, v13n4)])
noncomputable def LB_lens_depths (lf d : Nat) (rec : RT) (k : KT) : Nat → Value → Value → Value → Value → Value → Value → Value → Value → M Value
  | 0, _, _, _, _, _, _, _, _ => M.fail
  | fu + 1, x0, x2, x3, x5, x6, x11, x12, x13 =>
    optK (q_geq PP 3 x6 (Value.int .i64 0)) fun v32n16 =>
    ifV v32n16 (
      optK (nil2 x3) fun v39n17 =>
      optK (evFA3 PP 72 1 v39n17 1) fun v40n18 =>
      insB (evLoad3 PP 22 v40n18) fun v41n19 =>
      optK (evIA3 PP 22 1 v41n19 x6) fun v43n20 =>
      insB (evLoad3 PP 3 v43n20) fun v44n21 =>
      optK (evIA3 PP 22 1 x5 v44n21) fun v45n22 =>
      insB (evLoad3 PP 3 v45n22) fun v46n23 =>
      optK (q_add PP 3 v46n23 (Value.int .i64 1)) fun v47n24 =>
      optK (evIA3 PP 22 1 x5 x6) fun v48n25 =>
      insB (evStore3 PP 3 v48n25 v47n24) fun u26 =>
      optK (q_sub PP 3 x6 (Value.int .i64 1)) fun v34n27 =>
      LB_lens_depths lf d rec k fu x0 x2 x3 x5 v34n27 x11 x12 x13) (
      k (Ex.exit 2) [(0, x0), (2, x2), (3, x3), (5, x5), (6, x6), (11, x11), (12, x12), (13, x13), (32, v32n16)])
noncomputable def KB_lens_depths (lf d : Nat) (rec : RT) (dflt : KT) : KT := (kEx 2 (runCur [0, 2, 3, 5, 6, 11, 12, 13, 32] (fun y0 y2 y3 y5 y6 y11 y12 y13 y32 =>
  optK (len2 PP #[22] [y0]) fun v51n28 =>
  slice2 PP 22 y5 none (some v51n28) none fun v52n29 =>
  outK [v52n29]) (dflt (Ex.exit 2))) dflt)
noncomputable def KA_lens_depths (lf d : Nat) (rec : RT) (dflt : KT) : KT := (kEx 0 (runCur [0, 2, 3, 11, 12, 13] (fun y0 y2 y3 y11 y12 y13 =>
  optK (nil2 y3) fun v23n9 =>
  optK (evFA3 PP 72 0 v23n9 0) fun v24n10 =>
  insB (evLoad3 PP 22 v24n10) fun v25n11 =>
  optK (len2 PP #[22] [v25n11]) fun v26n12 =>
  insB (evMake3 PP 22 v26n12 v26n12) fun v27n13 =>
  optK (len2 PP #[22] [v27n13]) fun v29n14 =>
  optK (q_sub PP 3 v29n14 (Value.int .i64 2)) fun v30n15 =>
  LB_lens_depths lf d rec (KB_lens_depths lf d rec (kcB_lens_depths lf d)) lf y0 y2 y3 v27n13 v30n15 y11 y12 y13) (dflt (Ex.exit 0))) dflt)
noncomputable def F_lens_depths (lf d : Nat) (rec : RT) (a0 : Value) : M Value :=
  (inside (rec 63 #[a0])).bind fun v8n1 =>
  optK (len2 PP #[22] [a0]) fun v10n2 =>
  optK (q_sub PP 3 v10n2 (Value.int .i64 1)) fun v11n3 =>
  LA_lens_depths lf d rec (KA_lens_depths lf d rec (kcA_lens_depths lf d)) lf a0 (Value.slice none 0 0) v8n1 v11n3 (Value.int .i64 0)
theorem LQA_lens_depths (lf d : Nat) (k : KT) : ∀ fu : Nat, LA_lens_depths lf d (evC lf d) k fu = lpA_lens_depths lf d fu k
  | 0 => by funext x0 x2 x3 x11 x12; kernel_rfl
  | fu + 1 => by
    have ih := LQA_lens_depths lf d k fu
    funext x0 x2 x3 x11 x12; simp only [LA_lens_depths, ih, clash3_eq, insB_eq, q_add_eq (P := PP) nf3, q_lss_eq (P := PP) nf3]; kernel_rfl
theorem LQB_lens_depths (lf d : Nat) (k : KT) : ∀ fu : Nat, LB_lens_depths lf d (evC lf d) k fu = lpB_lens_depths lf d fu k
  | 0 => by funext x0 x2 x3 x5 x6 x11 x12 x13; kernel_rfl
  | fu + 1 => by
    have ih := LQB_lens_depths lf d k fu
    funext x0 x2 x3 x5 x6 x11 x12 x13; simp only [LB_lens_depths, ih, clash3_eq, evFA3_eq (P := PP) gf72f1, evIA3_eq (P := PP) Tryd.underlying22 gs3, evLoad3_eq (P := PP) ga22, evLoad3_eq (P := PP) ga3, evStore3_eq (P := PP) gs3, insB_eq, q_add_eq (P := PP) nf3, q_geq_eq (P := PP) nf3, q_sub_eq (P := PP) nf3]; kernel_rfl
set_option maxRecDepth 20000 in
theorem KQB_lens_depths (lf d : Nat) : KB_lens_depths lf d (evC lf d) (kcB_lens_depths lf d) = kcB_lens_depths lf d := by
  unfold KB_lens_depths
  refine Eq.trans (kEx_eq ?_) ?_
  · exact (runCur_eq _ _ _ (by intro y0 y2 y3 y5 y6 y11 y12 y13 y32; show _ = _; (try simp only [clash3_eq, insB_eq]); kernel_rfl))
  rfl
set_option maxRecDepth 20000 in
theorem KQA_lens_depths (lf d : Nat) : KA_lens_depths lf d (evC lf d) (kcA_lens_depths lf d) = kcA_lens_depths lf d := by
  unfold KA_lens_depths
  refine Eq.trans (kEx_eq ?_) ?_
  · exact (runCur_eq _ _ _ (by intro y0 y2 y3 y11 y12 y13; show _ = _; (try simp only [KQB_lens_depths lf d, LQB_lens_depths, clash3_eq, evFA3_eq (P := PP) gf72f0, evLoad3_eq (P := PP) ga22, evMake3_eq, insB_eq, q_sub_eq (P := PP) nf3]); kernel_rfl))
  rfl
theorem fsh_lens_depths (lf d : Nat) (a0 : Value) : inside (F_lens_depths lf d (evC lf d) a0) = evC lf (d + 1) 53 #[a0] := by
  unfold F_lens_depths; (try simp only [KQA_lens_depths lf d, LQA_lens_depths, clash3_eq, insB_eq, q_sub_eq (P := PP) nf3]); kernel_rfl

noncomputable def lpA_lens_Longest (lf d fu : Nat) (k : KT) (x0 x2 x3 x6 x7 x8 : Value) : M Value := loopK (fun s1 k1 => codeK PP (evC lf d) (gtA 54) lf (codeAt (bodyOf PP 54) [true, true, false, true, false, false]) s1 k1) [0, 2, 3, 6, 7, 8] fu [(0, x0), (2, x2), (3, x3), (6, x6), (7, x7), (8, x8)] k
noncomputable def kcA_lens_Longest (lf d : Nat) : KT := contAt PP (evC lf d) (gtA 54) lf (bodyOf PP 54) [true, true, false, true, false] (endK PP (resOf PP 54))
noncomputable def LA_lens_Longest (lf d : Nat) (rec : RT) (k : KT) : Nat → Value → Value → Value → Value → Value → Value → M Value
  | 0, _, _, _, _, _, _ => M.fail
  | fu + 1, x0, x2, x3, x6, x7, x8 =>
    optK (q_lss PP 3 x8 x7) fun v9n2 =>
    ifV v9n2 (
      optK (evIA3 PP 22 1 x6 x8) fun v10n3 =>
      insB (evLoad3 PP 3 v10n3) fun v11n4 =>
      optK (max2 [x3, v11n4]) fun v14n5 =>
      optK (q_add PP 3 x8 (Value.int .i64 1)) fun v15n6 =>
      LA_lens_Longest lf d rec k fu x0 x2 v14n5 x6 x7 v15n6) (
      k (Ex.exit 0) [(0, x0), (2, x2), (3, x3), (6, x6), (7, x7), (8, x8), (9, v9n2)])
noncomputable def KA_lens_Longest (lf d : Nat) (rec : RT) (dflt : KT) : KT := (kEx 0 (runCur [0, 2, 3, 6, 7, 8, 9] (fun y0 y2 y3 y6 y7 y8 y9 =>
  outK [y3]) (dflt (Ex.exit 0))) dflt)
noncomputable def F_lens_Longest (lf d : Nat) (rec : RT) (a0 : Value) : M Value :=
  optK (len2 PP #[22] [a0]) fun v7n1 =>
  LA_lens_Longest lf d rec (KA_lens_Longest lf d rec (kcA_lens_Longest lf d)) lf a0 (Value.int .i64 0) (Value.int .i64 0) a0 v7n1 (Value.int .i64 0)
theorem LQA_lens_Longest (lf d : Nat) (k : KT) : ∀ fu : Nat, LA_lens_Longest lf d (evC lf d) k fu = lpA_lens_Longest lf d fu k
  | 0 => by funext x0 x2 x3 x6 x7 x8; kernel_rfl
  | fu + 1 => by
    have ih := LQA_lens_Longest lf d k fu
    funext x0 x2 x3 x6 x7 x8; simp only [LA_lens_Longest, ih, clash3_eq, evIA3_eq (P := PP) Tryd.underlying22 gs3, evLoad3_eq (P := PP) ga3, insB_eq, q_add_eq (P := PP) nf3, q_lss_eq (P := PP) nf3]; kernel_rfl
set_option maxRecDepth 20000 in
theorem KQA_lens_Longest (lf d : Nat) : KA_lens_Longest lf d (evC lf d) (kcA_lens_Longest lf d) = kcA_lens_Longest lf d := by
  unfold KA_lens_Longest
  refine Eq.trans (kEx_eq ?_) ?_
  · exact (runCur_eq _ _ _ (by intro y0 y2 y3 y6 y7 y8 y9; show _ = _; (try simp only [clash3_eq, insB_eq]); kernel_rfl))
  rfl
theorem fsh_lens_Longest (lf d : Nat) (a0 : Value) : inside (F_lens_Longest lf d (evC lf d) a0) = evC lf (d + 1) 54 #[a0] := by
  unfold F_lens_Longest; (try simp only [KQA_lens_Longest lf d, LQA_lens_Longest, clash3_eq, insB_eq]); kernel_rfl

noncomputable def F_slices_Clone_int_int (lf d : Nat) (rec : RT) (a0 : Value) : M Value :=
  optK (bin2 PP .eql 22 a0 (Value.slice none 0 0)) fun v4n1 =>
  ifV v4n1 (
    outK [(Value.slice none 0 0)]) (
    insB (evBS3 PP 22 0 []) fun v5n2 =>
    insB (evAppend3 PP 22 v5n2 a0) fun v7n3 =>
    outK [v7n3])
theorem fsh_slices_Clone_int_int (lf d : Nat) (a0 : Value) : inside (F_slices_Clone_int_int lf d (evC lf d) a0) = evC lf (d + 1) 55 #[a0] := by
  unfold F_slices_Clone_int_int; (try simp only [clash3_eq, evAppend3_eq, evBS3_eq, insB_eq]); kernel_rfl

noncomputable def lpA_lens_Halved (lf d fu : Nat) (k : KT) (x0 x2 x3 x9 x10 x11 : Value) : M Value := loopK (fun s1 k1 => codeK PP (evC lf d) (gtA 56) lf (codeAt (bodyOf PP 56) [true, true, false, true, false, false]) s1 k1) [0, 2, 3, 9, 10, 11] fu [(0, x0), (2, x2), (3, x3), (9, x9), (10, x10), (11, x11)] k
noncomputable def kcA_lens_Halved (lf d : Nat) : KT := contAt PP (evC lf d) (gtA 56) lf (bodyOf PP 56) [true, true, false, true, false] (endK PP (resOf PP 56))
noncomputable def LA_lens_Halved (lf d : Nat) (rec : RT) (k : KT) : Nat → Value → Value → Value → Value → Value → Value → M Value
  | 0, _, _, _, _, _, _ => M.fail
  | fu + 1, x0, x2, x3, x9, x10, x11 =>
    optK (q_lss PP 3 x11 x10) fun v12n4 =>
    ifV v12n4 (
      optK (evIA3 PP 22 1 x9 x11) fun v14n5 =>
      insB (evLoad3 PP 3 v14n5) fun v15n6 =>
      optK (max2 [v15n6, (Value.int .i64 0)]) fun v19n7 =>
      optK (q_quo PP 3 v19n7 (Value.int .i64 2)) fun v20n8 =>
      optK (q_add PP 3 v20n8 (Value.int .i64 1)) fun v21n9 =>
      optK (evIA3 PP 22 1 x3 x11) fun v22n10 =>
      insB (evStore3 PP 3 v22n10 v21n9) fun u11 =>
      optK (q_add PP 3 x11 (Value.int .i64 1)) fun v23n12 =>
      LA_lens_Halved lf d rec k fu x0 x2 x3 x9 x10 v23n12) (
      k (Ex.exit 0) [(0, x0), (2, x2), (3, x3), (9, x9), (10, x10), (11, x11), (12, v12n4)])
noncomputable def KA_lens_Halved (lf d : Nat) (rec : RT) (dflt : KT) : KT := (kEx 0 (runCur [0, 2, 3, 9, 10, 11, 12] (fun y0 y2 y3 y9 y10 y11 y12 =>
  outK [y3]) (dflt (Ex.exit 0))) dflt)
noncomputable def F_lens_Halved (lf d : Nat) (rec : RT) (a0 : Value) : M Value :=
  optK (len2 PP #[22] [a0]) fun v7n1 =>
  insB (evMake3 PP 22 v7n1 v7n1) fun v8n2 =>
  optK (len2 PP #[22] [a0]) fun v10n3 =>
  LA_lens_Halved lf d rec (KA_lens_Halved lf d rec (kcA_lens_Halved lf d)) lf a0 (Value.slice none 0 0) v8n2 a0 v10n3 (Value.int .i64 0)
theorem LQA_lens_Halved (lf d : Nat) (k : KT) : ∀ fu : Nat, LA_lens_Halved lf d (evC lf d) k fu = lpA_lens_Halved lf d fu k
  | 0 => by funext x0 x2 x3 x9 x10 x11; kernel_rfl
  | fu + 1 => by
    have ih := LQA_lens_Halved lf d k fu
    funext x0 x2 x3 x9 x10 x11; simp only [LA_lens_Halved, ih, clash3_eq, evIA3_eq (P := PP) Tryd.underlying22 gs3, evLoad3_eq (P := PP) ga3, evStore3_eq (P := PP) gs3, insB_eq, q_add_eq (P := PP) nf3, q_lss_eq (P := PP) nf3, q_quo_eq (P := PP) nf3]; kernel_rfl
set_option maxRecDepth 20000 in
theorem KQA_lens_Halved (lf d : Nat) : KA_lens_Halved lf d (evC lf d) (kcA_lens_Halved lf d) = kcA_lens_Halved lf d := by
  unfold KA_lens_Halved
  refine Eq.trans (kEx_eq ?_) ?_
  · exact (runCur_eq _ _ _ (by intro y0 y2 y3 y9 y10 y11 y12; show _ = _; (try simp only [clash3_eq, insB_eq]); kernel_rfl))
  rfl
theorem fsh_lens_Halved (lf d : Nat) (a0 : Value) : inside (F_lens_Halved lf d (evC lf d) a0) = evC lf (d + 1) 56 #[a0] := by
  unfold F_lens_Halved; (try simp only [KQA_lens_Halved lf d, LQA_lens_Halved, clash3_eq, evMake3_eq, insB_eq]); kernel_rfl

noncomputable def F_slices_ContainsFunc_int_int (lf d : Nat) (rec : RT) (a0 a1 : Value) : M Value :=
  (inside (rec 68 #[a0, a1])).bind fun v7n1 =>
  optK (q_geq PP 3 v7n1 (Value.int .i64 0)) fun v8n2 =>
  outK [v8n2]
theorem fsh_slices_ContainsFunc_int_int (lf d : Nat) (a0 a1 : Value) : inside (F_slices_ContainsFunc_int_int lf d (evC lf d) a0 a1) = evC lf (d + 1) 59 #[a0, a1] := by
  unfold F_slices_ContainsFunc_int_int; (try simp only [clash3_eq, insB_eq, q_geq_eq (P := PP) nf3]); kernel_rfl

noncomputable def F_freq_all_1 (lf d : Nat) (rec : RT) (a0 : Value) : M Value :=
  (inside (rec 61 #[a0])).bind fun v4n1 =>
  optK (un3 PP .not v4n1) fun v5n2 =>
  outK [v5n2]
theorem fsh_freq_all_1 (lf d : Nat) (a0 : Value) : inside (F_freq_all_1 lf d (evC lf d) a0) = evC lf (d + 1) 60 #[a0] := by
  unfold F_freq_all_1; (try simp only [clash3_eq, insB_eq, un3_eq]); kernel_rfl

noncomputable def F_freq_may (lf d : Nat) (rec : RT) (a0 : Value) : M Value :=
  optK (q_geq PP 3 a0 (Value.int .i64 0)) fun v4n1 =>
  ifV v4n1 (
    optK (q_leq PP 3 a0 (Value.int .i64 1099511627776)) fun v7n2 =>
    outK [v7n2]) (
    outK [(Value.bool false)])
theorem fsh_freq_may (lf d : Nat) (a0 : Value) : inside (F_freq_may lf d (evC lf d) a0) = evC lf (d + 1) 61 #[a0] := by
  unfold F_freq_may; (try simp only [clash3_eq, insB_eq, q_geq_eq (P := PP) nf3, q_leq_eq (P := PP) nf3]); kernel_rfl

noncomputable def F_lens_between_1 (lf d : Nat) (rec : RT) (a0 a1 a2 : Value) : M Value :=
  insB (evLoad3 PP 3 a1) fun v6n1 =>
  optK (q_lss PP 3 a0 v6n1) fun v7n2 =>
  ifV v7n2 (
    outK [(Value.bool true)]) (
    insB (evLoad3 PP 3 a2) fun v10n3 =>
    optK (q_gtr PP 3 a0 v10n3) fun v11n4 =>
    outK [v11n4])
theorem fsh_lens_between_1 (lf d : Nat) (a0 a1 a2 : Value) : inside (F_lens_between_1 lf d (evC lf d) a0 a1 a2) = evC lf (d + 1) 62 #[a0, a1, a2] := by
  unfold F_lens_between_1; (try simp only [clash3_eq, evLoad3_eq (P := PP) ga3, insB_eq, q_gtr_eq (P := PP) nf3, q_lss_eq (P := PP) nf3]); kernel_rfl

noncomputable def lpA_lens_treesOf (lf d fu : Nat) (k : KT) (x0 x1 x2 x3 x12 x13 : Value) : M Value := loopK (fun s1 k1 => codeK PP (evC lf d) (gtA 63) lf (codeAt (bodyOf PP 63) [true, true, false, true, false, false]) s1 k1) [0, 1, 2, 3, 12, 13] fu [(0, x0), (1, x1), (2, x2), (3, x3), (12, x12), (13, x13)] k
noncomputable def kcA_lens_treesOf (lf d : Nat) : KT := contAt PP (evC lf d) (gtA 63) lf (bodyOf PP 63) [true, true, false, true, false] (endK PP (resOf PP 63))
noncomputable def LA_lens_treesOf (lf d : Nat) (rec : RT) (k : KT) : Nat → Value → Value → Value → Value → Value → Value → M Value
  | 0, _, _, _, _, _, _ => M.fail
  | fu + 1, x0, x1, x2, x3, x12, x13 =>
    optK (q_lss PP 3 x13 x12) fun v14n14 =>
    ifV v14n14 (
      optK (nil2 x3) fun v18n15 =>
      optK (evFA3 PP 72 2 v18n15 2) fun v19n16 =>
      insB (evLoad3 PP 22 v19n16) fun v20n17 =>
      insB (evBS3 PP 22 1 [(0, x13)]) fun v22n18 =>
      insB (evAppend3 PP 22 v20n17 v22n18) fun v23n19 =>
      optK (nil2 x3) fun v24n20 =>
      optK (evFA3 PP 72 2 v24n20 2) fun v25n21 =>
      insB (evStore3 PP 22 v25n21 v23n19) fun u22 =>
      optK (nil2 x3) fun v28n23 =>
      optK (evFA3 PP 72 1 v28n23 1) fun v29n24 =>
      insB (evLoad3 PP 22 v29n24) fun v30n25 =>
      insB (evBS3 PP 22 1 [(0, (Value.int .i64 (-1)))]) fun v31n26 =>
      insB (evAppend3 PP 22 v30n25 v31n26) fun v32n27 =>
      optK (nil2 x3) fun v33n28 =>
      optK (evFA3 PP 72 1 v33n28 1) fun v34n29 =>
      insB (evStore3 PP 22 v34n29 v32n27) fun u30 =>
      optK (q_add PP 3 x13 (Value.int .i64 1)) fun v35n31 =>
      LA_lens_treesOf lf d rec k fu x0 x1 x2 x3 x12 v35n31) (
      k (Ex.exit 0) [(0, x0), (1, x1), (2, x2), (3, x3), (12, x12), (13, x13), (14, v14n14)])
noncomputable def KA_lens_treesOf (lf d : Nat) (rec : RT) (dflt : KT) : KT := (kEx 0 (runCur [0, 1, 2, 3, 12, 13, 14] (fun y0 y1 y2 y3 y12 y13 y14 =>
  optK (nil2 y3) fun v37n32 =>
  optK (evFA3 PP 72 2 v37n32 2) fun v38n33 =>
  insB (evLoad3 PP 22 v38n33) fun v39n34 =>
  (inside (rec 69 #[v39n34, (Value.func (Go.Fn.func 70) #[] #[y1])])).bind fun v41n35 =>
  outK [y3]) (dflt (Ex.exit 0))) dflt)
noncomputable def F_lens_treesOf (lf d : Nat) (rec : RT) (a0 : Value) : M Value :=
  insB (evBox3 PP 22 a0) fun v1n1 =>
  (timed (
    insB (evLoad3 PP 22 v1n1) fun v5n3 => M.ret v5n3)).bind fun vtn2 =>
  (timed (
    (inside (rec 55 #[vtn2.1])).bind fun v6n5 => M.ret v6n5)).bind fun vtn4 =>
  (timed (
    insB (evLoad3 PP 22 v1n1) fun v7n7 => M.ret v7n7)).bind fun vtn6 =>
  optK (len2 PP #[22] [vtn6.1]) fun v8n8 =>
  insB (evBuildZ PP 72 [Value.slice none 0 0, Value.slice none 0 0, Value.slice none 0 0, Value.int .i64 0] [(0, vtn4.1), (3, v8n8)]) fun v9n9 =>
  (timed (
    insB (evBox3 PP 72 v9n9) fun v10n11 => M.ret v10n11)).bind fun vtn10 =>
  chkT ((!(clash3 vtn4.2 vtn6.2) && true) && true) (
    insB (evLoad3 PP 22 v1n1) fun v11n12 =>
    optK (len2 PP #[22] [v11n12]) fun v12n13 =>
    LA_lens_treesOf lf d rec (KA_lens_treesOf lf d rec (kcA_lens_treesOf lf d)) lf a0 v1n1 (Value.pointer none) vtn10.1 v12n13 (Value.int .i64 0))
theorem LQA_lens_treesOf (lf d : Nat) (k : KT) : ∀ fu : Nat, LA_lens_treesOf lf d (evC lf d) k fu = lpA_lens_treesOf lf d fu k
  | 0 => by funext x0 x1 x2 x3 x12 x13; kernel_rfl
  | fu + 1 => by
    have ih := LQA_lens_treesOf lf d k fu
    funext x0 x1 x2 x3 x12 x13; simp only [LA_lens_treesOf, ih, clash3_eq, evAppend3_eq, evBS3_eq, evFA3_eq (P := PP) gf72f1, evFA3_eq (P := PP) gf72f2, evLoad3_eq (P := PP) ga22, evStore3_eq (P := PP) gs22, insB_eq, q_add_eq (P := PP) nf3, q_lss_eq (P := PP) nf3]; kernel_rfl
set_option maxRecDepth 20000 in
theorem KQA_lens_treesOf (lf d : Nat) : KA_lens_treesOf lf d (evC lf d) (kcA_lens_treesOf lf d) = kcA_lens_treesOf lf d := by
  unfold KA_lens_treesOf
  refine Eq.trans (kEx_eq ?_) ?_
  · exact (runCur_eq _ _ _ (by intro y0 y1 y2 y3 y12 y13 y14; show _ = _; (try simp only [clash3_eq, evFA3_eq (P := PP) gf72f2, evLoad3_eq (P := PP) ga22, insB_eq]); kernel_rfl))
  rfl
theorem fsh_lens_treesOf (lf d : Nat) (a0 : Value) : inside (F_lens_treesOf lf d (evC lf d) a0) = evC lf (d + 1) 63 #[a0] := by
  unfold F_lens_treesOf; (try simp only [KQA_lens_treesOf lf d, LQA_lens_treesOf, bz72, clash3_eq, evBox3_eq, evLoad3_eq (P := PP) ga22, insB_eq]); kernel_rfl

noncomputable def F_lens_trees_least (lf d : Nat) (rec : RT) (a0 : Value) : M Value :=
  optK (nil2 a0) fun v5n1 =>
  optK (evFA3 PP 72 3 v5n1 3) fun v6n2 =>
  insB (evLoad3 PP 3 v6n2) fun v7n3 =>
  optK (nil2 a0) fun v9n4 =>
  optK (evFA3 PP 72 0 v9n4 0) fun v10n5 =>
  insB (evLoad3 PP 22 v10n5) fun v11n6 =>
  optK (len2 PP #[22] [v11n6]) fun v12n7 =>
  optK (q_eql PP 3 v7n3 v12n7) fun v13n8 =>
  ifV v13n8 (
    optK (nil2 a0) fun v48n9 =>
    optK (evFA3 PP 72 2 v48n9 2) fun v49n10 =>
    insB (evLoad3 PP 22 v49n10) fun v50n11 =>
    optK (evIA3 PP 22 1 v50n11 (Value.int .i64 0)) fun v51n12 =>
    insB (evLoad3 PP 3 v51n12) fun v52n13 =>
    optK (nil2 a0) fun v55n14 =>
    optK (evFA3 PP 72 2 v55n14 2) fun v56n15 =>
    insB (evLoad3 PP 22 v56n15) fun v57n16 =>
    slice2 PP 22 v57n16 (some (Value.int .i64 1)) none none fun v58n17 =>
    optK (nil2 a0) fun v59n18 =>
    optK (evFA3 PP 72 2 v59n18 2) fun v60n19 =>
    insB (evStore3 PP 22 v60n19 v58n17) fun u20 =>
    outK [v52n13]) (
    optK (nil2 a0) fun v16n21 =>
    optK (evFA3 PP 72 2 v16n21 2) fun v17n22 =>
    insB (evLoad3 PP 22 v17n22) fun v18n23 =>
    optK (len2 PP #[22] [v18n23]) fun v19n24 =>
    optK (q_gtr PP 3 v19n24 (Value.int .i64 0)) fun v20n25 =>
    ifV v20n25 (
      optK (nil2 a0) fun v23n26 =>
      optK (evFA3 PP 72 0 v23n26 0) fun v24n27 =>
      insB (evLoad3 PP 22 v24n27) fun v25n28 =>
      optK (nil2 a0) fun v27n29 =>
      optK (evFA3 PP 72 2 v27n29 2) fun v28n30 =>
      insB (evLoad3 PP 22 v28n30) fun v29n31 =>
      optK (evIA3 PP 22 1 v29n31 (Value.int .i64 0)) fun v30n32 =>
      insB (evLoad3 PP 3 v30n32) fun v31n33 =>
      optK (evIA3 PP 22 1 v25n28 v31n33) fun v32n34 =>
      insB (evLoad3 PP 3 v32n34) fun v33n35 =>
      optK (nil2 a0) fun v35n36 =>
      optK (evFA3 PP 72 0 v35n36 0) fun v36n37 =>
      insB (evLoad3 PP 22 v36n37) fun v37n38 =>
      optK (nil2 a0) fun v39n39 =>
      optK (evFA3 PP 72 3 v39n39 3) fun v40n40 =>
      insB (evLoad3 PP 3 v40n40) fun v41n41 =>
      optK (evIA3 PP 22 1 v37n38 v41n41) fun v42n42 =>
      insB (evLoad3 PP 3 v42n42) fun v43n43 =>
      optK (q_leq PP 3 v33n35 v43n43) fun v44n44 =>
      ifV v44n44 (
        optK (nil2 a0) fun v48n45 =>
        optK (evFA3 PP 72 2 v48n45 2) fun v49n46 =>
        insB (evLoad3 PP 22 v49n46) fun v50n47 =>
        optK (evIA3 PP 22 1 v50n47 (Value.int .i64 0)) fun v51n48 =>
        insB (evLoad3 PP 3 v51n48) fun v52n49 =>
        optK (nil2 a0) fun v55n50 =>
        optK (evFA3 PP 72 2 v55n50 2) fun v56n51 =>
        insB (evLoad3 PP 22 v56n51) fun v57n52 =>
        slice2 PP 22 v57n52 (some (Value.int .i64 1)) none none fun v58n53 =>
        optK (nil2 a0) fun v59n54 =>
        optK (evFA3 PP 72 2 v59n54 2) fun v60n55 =>
        insB (evStore3 PP 22 v60n55 v58n53) fun u56 =>
        outK [v52n49]) (
        optK (nil2 a0) fun v63n57 =>
        optK (evFA3 PP 72 3 v63n57 3) fun v64n58 =>
        insB (evLoad3 PP 3 v64n58) fun v65n59 =>
        optK (q_add PP 3 v65n59 (Value.int .i64 1)) fun v66n60 =>
        optK (nil2 a0) fun v67n61 =>
        optK (evFA3 PP 72 3 v67n61 3) fun v68n62 =>
        insB (evStore3 PP 3 v68n62 v66n60) fun u63 =>
        optK (nil2 a0) fun v70n64 =>
        optK (evFA3 PP 72 3 v70n64 3) fun v71n65 =>
        insB (evLoad3 PP 3 v71n65) fun v72n66 =>
        optK (q_sub PP 3 v72n66 (Value.int .i64 1)) fun v73n67 =>
        outK [v73n67])) (
      optK (nil2 a0) fun v63n68 =>
      optK (evFA3 PP 72 3 v63n68 3) fun v64n69 =>
      insB (evLoad3 PP 3 v64n69) fun v65n70 =>
      optK (q_add PP 3 v65n70 (Value.int .i64 1)) fun v66n71 =>
      optK (nil2 a0) fun v67n72 =>
      optK (evFA3 PP 72 3 v67n72 3) fun v68n73 =>
      insB (evStore3 PP 3 v68n73 v66n71) fun u74 =>
      optK (nil2 a0) fun v70n75 =>
      optK (evFA3 PP 72 3 v70n75 3) fun v71n76 =>
      insB (evLoad3 PP 3 v71n76) fun v72n77 =>
      optK (q_sub PP 3 v72n77 (Value.int .i64 1)) fun v73n78 =>
      outK [v73n78]))
theorem fsh_lens_trees_least (lf d : Nat) (a0 : Value) : inside (F_lens_trees_least lf d (evC lf d) a0) = evC lf (d + 1) 64 #[a0] := by
  unfold F_lens_trees_least; (try simp only [clash3_eq, evFA3_eq (P := PP) gf72f0, evFA3_eq (P := PP) gf72f2, evFA3_eq (P := PP) gf72f3, evIA3_eq (P := PP) Tryd.underlying22 gs3, evLoad3_eq (P := PP) ga22, evLoad3_eq (P := PP) ga3, evStore3_eq (P := PP) gs22, evStore3_eq (P := PP) gs3, insB_eq, q_add_eq (P := PP) nf3, q_eql_eq (P := PP) nf3, q_gtr_eq (P := PP) nf3, q_leq_eq (P := PP) nf3, q_sub_eq (P := PP) nf3]); kernel_rfl

noncomputable def F_lens_trees_join (lf d : Nat) (rec : RT) (a0 a1 a2 : Value) : M Value :=
  optK (nil2 a0) fun v7n1 =>
  optK (evFA3 PP 72 1 v7n1 1) fun v8n2 =>
  insB (evLoad3 PP 22 v8n2) fun v9n3 =>
  optK (nil2 a0) fun v12n4 =>
  optK (evFA3 PP 72 0 v12n4 0) fun v13n5 =>
  insB (evLoad3 PP 22 v13n5) fun v14n6 =>
  optK (len2 PP #[22] [v14n6]) fun v15n7 =>
  optK (evIA3 PP 22 1 v9n3 a1) fun v16n8 =>
  insB (evStore3 PP 3 v16n8 v15n7) fun u9 =>
  optK (nil2 a0) fun v18n10 =>
  optK (evFA3 PP 72 1 v18n10 1) fun v19n11 =>
  insB (evLoad3 PP 22 v19n11) fun v20n12 =>
  optK (nil2 a0) fun v23n13 =>
  optK (evFA3 PP 72 0 v23n13 0) fun v24n14 =>
  insB (evLoad3 PP 22 v24n14) fun v25n15 =>
  optK (len2 PP #[22] [v25n15]) fun v26n16 =>
  optK (evIA3 PP 22 1 v20n12 a2) fun v27n17 =>
  insB (evStore3 PP 3 v27n17 v26n16) fun u18 =>
  optK (nil2 a0) fun v30n19 =>
  optK (evFA3 PP 72 0 v30n19 0) fun v31n20 =>
  insB (evLoad3 PP 22 v31n20) fun v32n21 =>
  optK (nil2 a0) fun v34n22 =>
  optK (evFA3 PP 72 0 v34n22 0) fun v35n23 =>
  insB (evLoad3 PP 22 v35n23) fun v36n24 =>
  optK (evIA3 PP 22 1 v36n24 a1) fun v38n25 =>
  insB (evLoad3 PP 3 v38n25) fun v39n26 =>
  optK (nil2 a0) fun v41n27 =>
  optK (evFA3 PP 72 0 v41n27 0) fun v42n28 =>
  insB (evLoad3 PP 22 v42n28) fun v43n29 =>
  optK (evIA3 PP 22 1 v43n29 a2) fun v45n30 =>
  insB (evLoad3 PP 3 v45n30) fun v46n31 =>
  optK (q_add PP 3 v39n26 v46n31) fun v47n32 =>
  insB (evBS3 PP 22 1 [(0, v47n32)]) fun v48n33 =>
  insB (evAppend3 PP 22 v32n21 v48n33) fun v49n34 =>
  optK (nil2 a0) fun v50n35 =>
  optK (evFA3 PP 72 0 v50n35 0) fun v51n36 =>
  insB (evStore3 PP 22 v51n36 v49n34) fun u37 =>
  optK (nil2 a0) fun v54n38 =>
  optK (evFA3 PP 72 1 v54n38 1) fun v55n39 =>
  insB (evLoad3 PP 22 v55n39) fun v56n40 =>
  insB (evBS3 PP 22 1 [(0, (Value.int .i64 (-1)))]) fun v57n41 =>
  insB (evAppend3 PP 22 v56n40 v57n41) fun v58n42 =>
  optK (nil2 a0) fun v59n43 =>
  optK (evFA3 PP 72 1 v59n43 1) fun v60n44 =>
  insB (evStore3 PP 22 v60n44 v58n42) fun u45 =>
  outK []
theorem fsh_lens_trees_join (lf d : Nat) (a0 a1 a2 : Value) : inside (F_lens_trees_join lf d (evC lf d) a0 a1 a2) = evC lf (d + 1) 65 #[a0, a1, a2] := by
  unfold F_lens_trees_join; (try simp only [clash3_eq, evAppend3_eq, evBS3_eq, evFA3_eq (P := PP) gf72f0, evFA3_eq (P := PP) gf72f1, evIA3_eq (P := PP) Tryd.underlying22 gs3, evLoad3_eq (P := PP) ga22, evLoad3_eq (P := PP) ga3, evStore3_eq (P := PP) gs22, evStore3_eq (P := PP) gs3, insB_eq, q_add_eq (P := PP) nf3]); kernel_rfl

noncomputable def lpA_slices_IndexFunc_int_int (lf d fu : Nat) (k : KT) (x0 x1 x4 x7 x8 : Value) : M Value := loopK (fun s1 k1 => codeK PP (evC lf d) (gtA 68) lf (codeAt (bodyOf PP 68) [true, false, true, false, false]) s1 k1) [0, 1, 4, 7, 8] fu [(0, x0), (1, x1), (4, x4), (7, x7), (8, x8)] k
noncomputable def kcA_slices_IndexFunc_int_int (lf d : Nat) : KT := contAt PP (evC lf d) (gtA 68) lf (bodyOf PP 68) [true, false, true, false] (endK PP (resOf PP 68))
noncomputable def LA_slices_IndexFunc_int_int (lf d : Nat) (rec : RT) (k : KT) : Nat → Value → Value → Value → Value → Value → M Value
  | 0, _, _, _, _, _ => M.fail
  | fu + 1, x0, x1, x4, x7, x8 =>
    optK (q_lss PP 3 x8 x7) fun v9n2 =>
    ifV v9n2 (
      optK (evIA3 PP 22 1 x0 x8) fun v14n3 =>
      insB (evLoad3 PP 3 v14n3) fun v15n4 =>
      callV PP rec x1 [v15n4] fun v16n5 =>
      ifV v16n5 (
        k Ex.ret [(0, x0), (1, x1), (4, x8), (5, x8), (7, x7), (8, x8), (9, v9n2), (16, v16n5)]) (
        optK (q_add PP 3 x8 (Value.int .i64 1)) fun v18n6 =>
        LA_slices_IndexFunc_int_int lf d rec k fu x0 x1 x4 x7 v18n6)) (
      k (Ex.exit 0) [(0, x0), (1, x1), (4, x4), (7, x7), (8, x8), (9, v9n2)])
noncomputable def KA_slices_IndexFunc_int_int (lf d : Nat) (rec : RT) (dflt : KT) : KT := (kEx 0 (runCur [0, 1, 4, 7, 8, 9] (fun y0 y1 y4 y7 y8 y9 =>
  outK [(Value.int .i64 (-1))]) (dflt (Ex.exit 0))) (kRt (runCur [0, 1, 4, 5, 7, 8, 9, 16] (fun y0 y1 y4 y5 y7 y8 y9 y16 =>
  outK [y4]) (dflt Ex.ret)) dflt))
noncomputable def F_slices_IndexFunc_int_int (lf d : Nat) (rec : RT) (a0 a1 : Value) : M Value :=
  optK (len2 PP #[22] [a0]) fun v7n1 =>
  LA_slices_IndexFunc_int_int lf d rec (KA_slices_IndexFunc_int_int lf d rec (kcA_slices_IndexFunc_int_int lf d)) lf a0 a1 (Value.int .i64 0) v7n1 (Value.int .i64 0)
theorem LQA_slices_IndexFunc_int_int (lf d : Nat) (k : KT) : ∀ fu : Nat, LA_slices_IndexFunc_int_int lf d (evC lf d) k fu = lpA_slices_IndexFunc_int_int lf d fu k
  | 0 => by funext x0 x1 x4 x7 x8; kernel_rfl
  | fu + 1 => by
    have ih := LQA_slices_IndexFunc_int_int lf d k fu
    funext x0 x1 x4 x7 x8; simp only [LA_slices_IndexFunc_int_int, ih, clash3_eq, evIA3_eq (P := PP) Tryd.underlying22 gs3, evLoad3_eq (P := PP) ga3, insB_eq, q_add_eq (P := PP) nf3, q_lss_eq (P := PP) nf3]; kernel_rfl
set_option maxRecDepth 20000 in
theorem KQA_slices_IndexFunc_int_int (lf d : Nat) : KA_slices_IndexFunc_int_int lf d (evC lf d) (kcA_slices_IndexFunc_int_int lf d) = kcA_slices_IndexFunc_int_int lf d := by
  unfold KA_slices_IndexFunc_int_int
  refine Eq.trans (kEx_eq ?_) ?_
  · exact (runCur_eq _ _ _ (by intro y0 y1 y4 y7 y8 y9; show _ = _; (try simp only [clash3_eq, insB_eq]); kernel_rfl))
  refine Eq.trans (kRt_eq ?_) ?_
  · exact (runCur_eq _ _ _ (by intro y0 y1 y4 y5 y7 y8 y9 y16; show _ = _; (try simp only [clash3_eq, insB_eq]); kernel_rfl))
  rfl
theorem fsh_slices_IndexFunc_int_int (lf d : Nat) (a0 a1 : Value) : inside (F_slices_IndexFunc_int_int lf d (evC lf d) a0 a1) = evC lf (d + 1) 68 #[a0, a1] := by
  unfold F_slices_IndexFunc_int_int; (try simp only [KQA_slices_IndexFunc_int_int lf d, LQA_slices_IndexFunc_int_int, clash3_eq, insB_eq]); kernel_rfl

noncomputable def F_slices_SortStableFunc_int_int (lf d : Nat) (rec : RT) (a0 a1 : Value) : M Value :=
  optK (len2 PP #[22] [a0]) fun v6n1 =>
  (inside (rec 73 #[a0, v6n1, a1])).bind fun v8n2 =>
  outK []
theorem fsh_slices_SortStableFunc_int_int (lf d : Nat) (a0 a1 : Value) : inside (F_slices_SortStableFunc_int_int lf d (evC lf d) a0 a1) = evC lf (d + 1) 69 #[a0, a1] := by
  unfold F_slices_SortStableFunc_int_int; (try simp only [clash3_eq, insB_eq]); kernel_rfl

noncomputable def F_lens_treesOf_1 (lf d : Nat) (rec : RT) (a0 a1 a2 : Value) : M Value :=
  insB (evLoad3 PP 22 a2) fun v6n1 =>
  optK (evIA3 PP 22 1 v6n1 a0) fun v8n2 =>
  insB (evLoad3 PP 3 v8n2) fun v9n3 =>
  insB (evLoad3 PP 22 a2) fun v10n4 =>
  optK (evIA3 PP 22 1 v10n4 a1) fun v12n5 =>
  insB (evLoad3 PP 3 v12n5) fun v13n6 =>
  (inside (rec 71 #[v9n3, v13n6])).bind fun v14n7 =>
  outK [v14n7]
theorem fsh_lens_treesOf_1 (lf d : Nat) (a0 a1 a2 : Value) : inside (F_lens_treesOf_1 lf d (evC lf d) a0 a1 a2) = evC lf (d + 1) 70 #[a0, a1, a2] := by
  unfold F_lens_treesOf_1; (try simp only [clash3_eq, evIA3_eq (P := PP) Tryd.underlying22 gs3, evLoad3_eq (P := PP) ga22, evLoad3_eq (P := PP) ga3, insB_eq]); kernel_rfl

noncomputable def F_cmp_Compare_int (lf d : Nat) (rec : RT) (a0 a1 : Value) : M Value :=
  (inside (rec 74 #[a0])).bind fun v8n1 =>
  (inside (rec 74 #[a1])).bind fun v10n2 =>
  ifV v8n1 (
    ifV v10n2 (
      outK [(Value.int .i64 0)]) (
      outK [(Value.int .i64 (-1))])) (
    ifV v10n2 (
      outK [(Value.int .i64 1)]) (
      optK (q_lss PP 3 a0 a1) fun v16n3 =>
      ifV v16n3 (
        outK [(Value.int .i64 (-1))]) (
        optK (q_gtr PP 3 a0 a1) fun v19n4 =>
        ifV v19n4 (
          outK [(Value.int .i64 1)]) (
          outK [(Value.int .i64 0)]))))
theorem fsh_cmp_Compare_int (lf d : Nat) (a0 a1 : Value) : inside (F_cmp_Compare_int lf d (evC lf d) a0 a1) = evC lf (d + 1) 71 #[a0, a1] := by
  unfold F_cmp_Compare_int; (try simp only [clash3_eq, insB_eq, q_gtr_eq (P := PP) nf3, q_lss_eq (P := PP) nf3]); kernel_rfl

noncomputable def lpA_slices_stableCmpFunc_int (lf d fu : Nat) (k : KT) (x0 x1 x2 x6 x7 x8 : Value) : M Value := loopK (fun s1 k1 => codeK PP (evC lf d) (gtA 73) lf (codeAt (bodyOf PP 73) [true, true, false, false, false]) s1 k1) [0, 1, 2, 6, 7, 8] fu [(0, x0), (1, x1), (2, x2), (6, x6), (7, x7), (8, x8)] k
noncomputable def kcA_slices_stableCmpFunc_int (lf d : Nat) : KT := contAt PP (evC lf d) (gtA 73) lf (bodyOf PP 73) [true, true, false, false] (endK PP (resOf PP 73))
noncomputable def lpB_slices_stableCmpFunc_int (lf d fu : Nat) (k : KT) (x0 x1 x2 x6 x7 x8 x13 : Value) : M Value := loopK (fun s1 k1 => codeK PP (evC lf d) (gtA 73) lf (codeAt (bodyOf PP 73) [true, true, true, true, false, false]) s1 k1) [0, 1, 2, 6, 7, 8, 13] fu [(0, x0), (1, x1), (2, x2), (6, x6), (7, x7), (8, x8), (13, x13)] k
noncomputable def kcB_slices_stableCmpFunc_int (lf d : Nat) : KT := contAt PP (evC lf d) (gtA 73) lf (bodyOf PP 73) [true, true, true, true, false] (endK PP (resOf PP 73))
noncomputable def lpC_slices_stableCmpFunc_int (lf d fu : Nat) (k : KT) (x0 x1 x2 x6 x7 x8 x13 x30 : Value) : M Value := loopK (fun s1 k1 => codeK PP (evC lf d) (gtA 73) lf (codeAt (bodyOf PP 73) [true, true, true, true, false, false, true, false, true, false, false, false]) s1 k1) [0, 1, 2, 6, 7, 8, 13, 30] fu [(0, x0), (1, x1), (2, x2), (6, x6), (7, x7), (8, x8), (13, x13), (30, x30)] k
noncomputable def kcC_slices_stableCmpFunc_int (lf d fu : Nat) (k : KT) : KT := contAt PP (evC lf d) (gtA 73) lf (codeAt (bodyOf PP 73) [true, true, true, true, false, false]) [true, false, true, false, false] (againK (fun s1 => loopK (fun s1 k1 => codeK PP (evC lf d) (gtA 73) lf (codeAt (bodyOf PP 73) [true, true, true, true, false, false]) s1 k1) [0, 1, 2, 6, 7, 8, 13] fu (s1.keep [0, 1, 2, 6, 7, 8, 13]) k) k)
noncomputable def LA_slices_stableCmpFunc_int (lf d : Nat) (rec : RT) (k : KT) : Nat → Value → Value → Value → Value → Value → Value → M Value
  | 0, _, _, _, _, _, _ => M.fail
  | fu + 1, x0, x1, x2, x6, x7, x8 =>
    optK (q_leq PP 3 x8 x1) fun v13n1 =>
    ifV v13n1 (
      (inside (rec 75 #[x0, x7, x8, x2])).bind fun v18n2 =>
      optK (q_add PP 3 x8 x6) fun v22n3 =>
      LA_slices_stableCmpFunc_int lf d rec k fu x0 x1 x2 x6 x8 v22n3) (
      k (Ex.exit 0) [(0, x0), (1, x1), (2, x2), (6, x6), (7, x7), (8, x8), (13, v13n1)])
noncomputable def KB_slices_stableCmpFunc_int (lf d : Nat) (rec : RT) (dflt : KT) : KT := (kEx 2 (runCur [0, 1, 2, 6, 7, 8, 13, 30] (fun y0 y1 y2 y6 y7 y8 y13 y30 =>
  outK []) (dflt (Ex.exit 2))) dflt)
noncomputable def LC_slices_stableCmpFunc_int (lf d : Nat) (rec : RT) (k : KT) : Nat → Value → Value → Value → Value → Value → Value → Value → Value → M Value
  | 0, _, _, _, _, _, _, _, _ => M.fail
  | fu + 1, x0, x1, x2, x6, x7, x8, x13, x30 =>
    optK (q_leq PP 3 x8 x1) fun v35n7 =>
    ifV v35n7 (
      optK (q_add PP 3 x7 x6) fun v40n8 =>
      (inside (rec 76 #[x0, x7, v40n8, x8, x2])).bind fun v43n9 =>
      optK (q_mul PP 3 (Value.int .i64 2) x6) fun v47n10 =>
      optK (q_add PP 3 x8 v47n10) fun v48n11 =>
      LC_slices_stableCmpFunc_int lf d rec k fu x0 x1 x2 x6 x8 v48n11 x13 x30) (
      k (Ex.exit 4) [(0, x0), (1, x1), (2, x2), (6, x6), (7, x7), (8, x8), (13, x13), (30, x30), (35, v35n7)])
noncomputable def KC_slices_stableCmpFunc_int (lf d : Nat) (rec : RT) (fu : Nat) (k : KT) (again : Value → Value → Value → Value → Value → Value → Value → M Value) (dflt : KT) : KT := (kEx 4 (runCur [0, 1, 2, 6, 7, 8, 13, 30, 35] (fun y0 y1 y2 y6 y7 y8 y13 y30 y35 =>
  optK (q_add PP 3 y7 y6) fun v51n12 =>
  optK (q_lss PP 3 v51n12 y1) fun v54n13 =>
  ifV v54n13 (
    (inside (rec 76 #[y0, y7, v51n12, y1, y2])).bind fun v60n14 =>
    optK (q_mul PP 3 y6 (Value.int .i64 2)) fun v62n15 =>
    again y0 y1 y2 v62n15 y7 y8 y13) (
    optK (q_mul PP 3 y6 (Value.int .i64 2)) fun v62n16 =>
    again y0 y1 y2 v62n16 y7 y8 y13)) (dflt (Ex.exit 4))) dflt)
noncomputable def LB_slices_stableCmpFunc_int (lf d : Nat) (rec : RT) (k : KT) : Nat → Value → Value → Value → Value → Value → Value → Value → M Value
  | 0, _, _, _, _, _, _, _ => M.fail
  | fu + 1, x0, x1, x2, x6, x7, x8, x13 =>
    optK (q_lss PP 3 x6 x1) fun v30n5 =>
    ifV v30n5 (
      optK (q_mul PP 3 (Value.int .i64 2) x6) fun v32n6 =>
      LC_slices_stableCmpFunc_int lf d rec (KC_slices_stableCmpFunc_int lf d rec fu k (LB_slices_stableCmpFunc_int lf d rec k fu) (kcC_slices_stableCmpFunc_int lf d fu k)) lf x0 x1 x2 x6 (Value.int .i64 0) v32n6 x13 v30n5) (
      k (Ex.exit 2) [(0, x0), (1, x1), (2, x2), (6, x6), (7, x7), (8, x8), (13, x13), (30, v30n5)])
noncomputable def KA_slices_stableCmpFunc_int (lf d : Nat) (rec : RT) (dflt : KT) : KT := (kEx 0 (runCur [0, 1, 2, 6, 7, 8, 13] (fun y0 y1 y2 y6 y7 y8 y13 =>
  (inside (rec 75 #[y0, y7, y1, y2])).bind fun v27n4 =>
  LB_slices_stableCmpFunc_int lf d rec (KB_slices_stableCmpFunc_int lf d rec (kcB_slices_stableCmpFunc_int lf d)) lf y0 y1 y2 y6 y7 y8 y13) (dflt (Ex.exit 0))) dflt)
noncomputable def F_slices_stableCmpFunc_int (lf d : Nat) (rec : RT) (a0 a1 a2 : Value) : M Value :=
  LA_slices_stableCmpFunc_int lf d rec (KA_slices_stableCmpFunc_int lf d rec (kcA_slices_stableCmpFunc_int lf d)) lf a0 a1 a2 (Value.int .i64 20) (Value.int .i64 0) (Value.int .i64 20)
theorem LQA_slices_stableCmpFunc_int (lf d : Nat) (k : KT) : ∀ fu : Nat, LA_slices_stableCmpFunc_int lf d (evC lf d) k fu = lpA_slices_stableCmpFunc_int lf d fu k
  | 0 => by funext x0 x1 x2 x6 x7 x8; kernel_rfl
  | fu + 1 => by
    have ih := LQA_slices_stableCmpFunc_int lf d k fu
    funext x0 x1 x2 x6 x7 x8; simp only [LA_slices_stableCmpFunc_int, ih, clash3_eq, insB_eq, q_add_eq (P := PP) nf3, q_leq_eq (P := PP) nf3]; kernel_rfl
set_option maxRecDepth 20000 in
theorem KQB_slices_stableCmpFunc_int (lf d : Nat) : KB_slices_stableCmpFunc_int lf d (evC lf d) (kcB_slices_stableCmpFunc_int lf d) = kcB_slices_stableCmpFunc_int lf d := by
  unfold KB_slices_stableCmpFunc_int
  refine Eq.trans (kEx_eq ?_) ?_
  · exact (runCur_eq _ _ _ (by intro y0 y1 y2 y6 y7 y8 y13 y30; show _ = _; (try simp only [clash3_eq, insB_eq]); kernel_rfl))
  rfl
theorem LQC_slices_stableCmpFunc_int (lf d : Nat) (k : KT) : ∀ fu : Nat, LC_slices_stableCmpFunc_int lf d (evC lf d) k fu = lpC_slices_stableCmpFunc_int lf d fu k
  | 0 => by funext x0 x1 x2 x6 x7 x8 x13 x30; kernel_rfl
  | fu + 1 => by
    have ih := LQC_slices_stableCmpFunc_int lf d k fu
    funext x0 x1 x2 x6 x7 x8 x13 x30; simp only [LC_slices_stableCmpFunc_int, ih, clash3_eq, insB_eq, q_add_eq (P := PP) nf3, q_leq_eq (P := PP) nf3, q_mul_eq (P := PP) nf3]; kernel_rfl
set_option maxRecDepth 20000 in
theorem KQC_slices_stableCmpFunc_int (lf d fu : Nat) (k : KT) (again : Value → Value → Value → Value → Value → Value → Value → M Value) (ha : again = lpB_slices_stableCmpFunc_int lf d fu k) : KC_slices_stableCmpFunc_int lf d (evC lf d) fu k again (kcC_slices_stableCmpFunc_int lf d fu k) = kcC_slices_stableCmpFunc_int lf d fu k := by
  subst ha
  unfold KC_slices_stableCmpFunc_int
  refine Eq.trans (kEx_eq ?_) ?_
  · exact (runCur_eq _ _ _ (by intro y0 y1 y2 y6 y7 y8 y13 y30 y35; show _ = _; (try simp only [clash3_eq, insB_eq, q_add_eq (P := PP) nf3, q_lss_eq (P := PP) nf3, q_mul_eq (P := PP) nf3]); kernel_rfl))
  rfl
theorem LQB_slices_stableCmpFunc_int (lf d : Nat) (k : KT) : ∀ fu : Nat, LB_slices_stableCmpFunc_int lf d (evC lf d) k fu = lpB_slices_stableCmpFunc_int lf d fu k
  | 0 => by funext x0 x1 x2 x6 x7 x8 x13; kernel_rfl
  | fu + 1 => by
    have ih := LQB_slices_stableCmpFunc_int lf d k fu
    funext x0 x1 x2 x6 x7 x8 x13; simp only [LB_slices_stableCmpFunc_int, ih, KQC_slices_stableCmpFunc_int lf d fu k _ rfl, LQC_slices_stableCmpFunc_int, clash3_eq, insB_eq, q_lss_eq (P := PP) nf3, q_mul_eq (P := PP) nf3]; kernel_rfl
set_option maxRecDepth 20000 in
theorem KQA_slices_stableCmpFunc_int (lf d : Nat) : KA_slices_stableCmpFunc_int lf d (evC lf d) (kcA_slices_stableCmpFunc_int lf d) = kcA_slices_stableCmpFunc_int lf d := by
  unfold KA_slices_stableCmpFunc_int
  refine Eq.trans (kEx_eq ?_) ?_
  · exact (runCur_eq _ _ _ (by intro y0 y1 y2 y6 y7 y8 y13; show _ = _; (try simp only [KQB_slices_stableCmpFunc_int lf d, LQB_slices_stableCmpFunc_int, clash3_eq, insB_eq]); kernel_rfl))
  rfl
theorem fsh_slices_stableCmpFunc_int (lf d : Nat) (a0 a1 a2 : Value) : inside (F_slices_stableCmpFunc_int lf d (evC lf d) a0 a1 a2) = evC lf (d + 1) 73 #[a0, a1, a2] := by
  unfold F_slices_stableCmpFunc_int; (try simp only [KQA_slices_stableCmpFunc_int lf d, LQA_slices_stableCmpFunc_int, clash3_eq, insB_eq]); kernel_rfl

noncomputable def F_cmp_isNaN_int (lf d : Nat) (rec : RT) (a0 : Value) : M Value :=
  optK (q_neq PP 3 a0 a0) fun v5n1 =>
  outK [v5n1]
theorem fsh_cmp_isNaN_int (lf d : Nat) (a0 : Value) : inside (F_cmp_isNaN_int lf d (evC lf d) a0) = evC lf (d + 1) 74 #[a0] := by
  unfold F_cmp_isNaN_int; (try simp only [clash3_eq, insB_eq, q_neq_eq (P := PP) nf3]); kernel_rfl

noncomputable def lpA_slices_insertionSortCmpFunc_int (lf d fu : Nat) (k : KT) (x0 x1 x2 x3 x8 : Value) : M Value := loopK (fun s1 k1 => codeK PP (evC lf d) (gtA 75) lf (codeAt (bodyOf PP 75) [true, false, false]) s1 k1) [0, 1, 2, 3, 8] fu [(0, x0), (1, x1), (2, x2), (3, x3), (8, x8)] k
noncomputable def kcA_slices_insertionSortCmpFunc_int (lf d : Nat) : KT := contAt PP (evC lf d) (gtA 75) lf (bodyOf PP 75) [true, false] (endK PP (resOf PP 75))
noncomputable def lpB_slices_insertionSortCmpFunc_int (lf d fu : Nat) (k : KT) (x0 x1 x2 x3 x8 x9 x14 : Value) : M Value := loopK (fun s1 k1 => codeK PP (evC lf d) (gtA 75) lf (codeAt (bodyOf PP 75) [true, false, false, true, false, false, true, false, false]) s1 k1) [0, 1, 2, 3, 8, 9, 14] fu [(0, x0), (1, x1), (2, x2), (3, x3), (8, x8), (9, x9), (14, x14)] k
noncomputable def kcB_slices_insertionSortCmpFunc_int (lf d fu : Nat) (k : KT) : KT := contAt PP (evC lf d) (gtA 75) lf (codeAt (bodyOf PP 75) [true, false, false]) [true, false, false, true, false] (againK (fun s1 => loopK (fun s1 k1 => codeK PP (evC lf d) (gtA 75) lf (codeAt (bodyOf PP 75) [true, false, false]) s1 k1) [0, 1, 2, 3, 8] fu (s1.keep [0, 1, 2, 3, 8]) k) k)
noncomputable def KA_slices_insertionSortCmpFunc_int (lf d : Nat) (rec : RT) (dflt : KT) : KT := (kEx 0 (runCur [0, 1, 2, 3, 8, 14] (fun y0 y1 y2 y3 y8 y14 =>
  outK []) (dflt (Ex.exit 0))) dflt)
noncomputable def LB_slices_insertionSortCmpFunc_int (lf d : Nat) (rec : RT) (k : KT) : Nat → Value → Value → Value → Value → Value → Value → Value → M Value
  | 0, _, _, _, _, _, _, _ => M.fail
  | fu + 1, x0, x1, x2, x3, x8, x9, x14 =>
    optK (q_gtr PP 3 x9 x1) fun v20n3 =>
    ifV v20n3 (
      optK (evIA3 PP 22 1 x0 x9) fun v25n4 =>
      insB (evLoad3 PP 3 v25n4) fun v26n5 =>
      optK (q_sub PP 3 x9 (Value.int .i64 1)) fun v29n6 =>
      optK (evIA3 PP 22 1 x0 v29n6) fun v30n7 =>
      insB (evLoad3 PP 3 v30n7) fun v31n8 =>
      callV PP rec x3 [v26n5, v31n8] fun v32n9 =>
      optK (q_lss PP 3 v32n9 (Value.int .i64 0)) fun v33n10 =>
      ifV v33n10 (
        optK (q_sub PP 3 x9 (Value.int .i64 1)) fun v41n11 =>
        optK (q_sub PP 3 x9 (Value.int .i64 1)) fun v44n12 =>
        optK (evIA3 PP 22 1 x0 v44n12) fun v45n13 =>
        insB (evLoad3 PP 3 v45n13) fun v46n14 =>
        optK (evIA3 PP 22 1 x0 x9) fun v49n15 =>
        insB (evLoad3 PP 3 v49n15) fun v50n16 =>
        optK (evIA3 PP 22 1 x0 x9) fun v51n17 =>
        insB (evStore3 PP 3 v51n17 v46n14) fun u18 =>
        optK (evIA3 PP 22 1 x0 v41n11) fun v52n19 =>
        insB (evStore3 PP 3 v52n19 v50n16) fun u20 =>
        optK (q_sub PP 3 x9 (Value.int .i64 1)) fun v36n21 =>
        LB_slices_insertionSortCmpFunc_int lf d rec k fu x0 x1 x2 x3 x8 v36n21 x14) (
        k (Ex.exit 2) [(0, x0), (1, x1), (2, x2), (3, x3), (8, x8), (9, x9), (14, x14), (34, v33n10)])) (
      k (Ex.exit 2) [(0, x0), (1, x1), (2, x2), (3, x3), (8, x8), (9, x9), (14, x14), (34, (Value.bool false))])
noncomputable def KB_slices_insertionSortCmpFunc_int (lf d : Nat) (rec : RT) (fu : Nat) (k : KT) (again : Value → Value → Value → Value → Value → M Value) (dflt : KT) : KT := (kEx 2 (runCur [0, 1, 2, 3, 8, 9, 14, 34] (fun y0 y1 y2 y3 y8 y9 y14 y34 =>
  optK (q_add PP 3 y8 (Value.int .i64 1)) fun v16n22 =>
  again y0 y1 y2 y3 v16n22) (dflt (Ex.exit 2))) dflt)
noncomputable def LA_slices_insertionSortCmpFunc_int (lf d : Nat) (rec : RT) (k : KT) : Nat → Value → Value → Value → Value → Value → M Value
  | 0, _, _, _, _, _ => M.fail
  | fu + 1, x0, x1, x2, x3, x8 =>
    optK (q_lss PP 3 x8 x2) fun v14n2 =>
    ifV v14n2 (
      LB_slices_insertionSortCmpFunc_int lf d rec (KB_slices_insertionSortCmpFunc_int lf d rec fu k (LA_slices_insertionSortCmpFunc_int lf d rec k fu) (kcB_slices_insertionSortCmpFunc_int lf d fu k)) lf x0 x1 x2 x3 x8 x8 v14n2) (
      k (Ex.exit 0) [(0, x0), (1, x1), (2, x2), (3, x3), (8, x8), (14, v14n2)])
noncomputable def F_slices_insertionSortCmpFunc_int (lf d : Nat) (rec : RT) (a0 a1 a2 a3 : Value) : M Value :=
  optK (q_add PP 3 a1 (Value.int .i64 1)) fun v11n1 =>
  LA_slices_insertionSortCmpFunc_int lf d rec (KA_slices_insertionSortCmpFunc_int lf d rec (kcA_slices_insertionSortCmpFunc_int lf d)) lf a0 a1 a2 a3 v11n1
set_option maxRecDepth 20000 in
theorem KQA_slices_insertionSortCmpFunc_int (lf d : Nat) : KA_slices_insertionSortCmpFunc_int lf d (evC lf d) (kcA_slices_insertionSortCmpFunc_int lf d) = kcA_slices_insertionSortCmpFunc_int lf d := by
  unfold KA_slices_insertionSortCmpFunc_int
  refine Eq.trans (kEx_eq ?_) ?_
  · exact (runCur_eq _ _ _ (by intro y0 y1 y2 y3 y8 y14; show _ = _; (try simp only [clash3_eq, insB_eq]); kernel_rfl))
  rfl
theorem LQB_slices_insertionSortCmpFunc_int (lf d : Nat) (k : KT) : ∀ fu : Nat, LB_slices_insertionSortCmpFunc_int lf d (evC lf d) k fu = lpB_slices_insertionSortCmpFunc_int lf d fu k
  | 0 => by funext x0 x1 x2 x3 x8 x9 x14; kernel_rfl
  | fu + 1 => by
    have ih := LQB_slices_insertionSortCmpFunc_int lf d k fu
    funext x0 x1 x2 x3 x8 x9 x14; simp only [LB_slices_insertionSortCmpFunc_int, ih, clash3_eq, evIA3_eq (P := PP) Tryd.underlying22 gs3, evLoad3_eq (P := PP) ga3, evStore3_eq (P := PP) gs3, insB_eq, q_gtr_eq (P := PP) nf3, q_lss_eq (P := PP) nf3, q_sub_eq (P := PP) nf3]; kernel_rfl
set_option maxRecDepth 20000 in
theorem KQB_slices_insertionSortCmpFunc_int (lf d fu : Nat) (k : KT) (again : Value → Value → Value → Value → Value → M Value) (ha : again = lpA_slices_insertionSortCmpFunc_int lf d fu k) : KB_slices_insertionSortCmpFunc_int lf d (evC lf d) fu k again (kcB_slices_insertionSortCmpFunc_int lf d fu k) = kcB_slices_insertionSortCmpFunc_int lf d fu k := by
  subst ha
  unfold KB_slices_insertionSortCmpFunc_int
  refine Eq.trans (kEx_eq ?_) ?_
  · exact (runCur_eq _ _ _ (by intro y0 y1 y2 y3 y8 y9 y14 y34; show _ = _; (try simp only [clash3_eq, insB_eq, q_add_eq (P := PP) nf3]); kernel_rfl))
  rfl
theorem LQA_slices_insertionSortCmpFunc_int (lf d : Nat) (k : KT) : ∀ fu : Nat, LA_slices_insertionSortCmpFunc_int lf d (evC lf d) k fu = lpA_slices_insertionSortCmpFunc_int lf d fu k
  | 0 => by funext x0 x1 x2 x3 x8; kernel_rfl
  | fu + 1 => by
    have ih := LQA_slices_insertionSortCmpFunc_int lf d k fu
    funext x0 x1 x2 x3 x8; simp only [LA_slices_insertionSortCmpFunc_int, ih, KQB_slices_insertionSortCmpFunc_int lf d fu k _ rfl, LQB_slices_insertionSortCmpFunc_int, clash3_eq, insB_eq, q_lss_eq (P := PP) nf3]; kernel_rfl
theorem fsh_slices_insertionSortCmpFunc_int (lf d : Nat) (a0 a1 a2 a3 : Value) : inside (F_slices_insertionSortCmpFunc_int lf d (evC lf d) a0 a1 a2 a3) = evC lf (d + 1) 75 #[a0, a1, a2, a3] := by
  unfold F_slices_insertionSortCmpFunc_int; (try simp only [KQA_slices_insertionSortCmpFunc_int lf d, LQA_slices_insertionSortCmpFunc_int, clash3_eq, insB_eq, q_add_eq (P := PP) nf3]); kernel_rfl

noncomputable def lpA_slices_symMergeCmpFunc_int (lf d fu : Nat) (k : KT) (x0 x1 x2 x3 x4 x10 x11 x28 : Value) : M Value := loopK (fun s1 k1 => codeK PP (evC lf d) (gtA 76) lf (codeAt (bodyOf PP 76) [false, true, false, true, true, false, false, false]) s1 k1) [0, 1, 2, 3, 4, 10, 11, 28] fu [(0, x0), (1, x1), (2, x2), (3, x3), (4, x4), (10, x10), (11, x11), (28, x28)] k
noncomputable def kcA_slices_symMergeCmpFunc_int (lf d : Nat) : KT := contAt PP (evC lf d) (gtA 76) lf (bodyOf PP 76) [false, true, false, true, true, false, false] (endK PP (resOf PP 76))
noncomputable def lpB_slices_symMergeCmpFunc_int (lf d fu : Nat) (k : KT) (x0 x1 x2 x3 x4 x14 x15 x28 x80 : Value) : M Value := loopK (fun s1 k1 => codeK PP (evC lf d) (gtA 76) lf (codeAt (bodyOf PP 76) [true, false, true, false, true, true, false, false, false]) s1 k1) [0, 1, 2, 3, 4, 14, 15, 28, 80] fu [(0, x0), (1, x1), (2, x2), (3, x3), (4, x4), (14, x14), (15, x15), (28, x28), (80, x80)] k
noncomputable def kcB_slices_symMergeCmpFunc_int (lf d : Nat) : KT := contAt PP (evC lf d) (gtA 76) lf (bodyOf PP 76) [true, false, true, false, true, true, false, false] (endK PP (resOf PP 76))
noncomputable def lpC_slices_symMergeCmpFunc_int (lf d fu : Nat) (k : KT) (x0 x1 x2 x3 x4 x18 x19 x20 x21 x22 x28 x80 x140 : Value) : M Value := loopK (fun s1 k1 => codeK PP (evC lf d) (gtA 76) lf (codeAt (bodyOf PP 76) [true, true, true, true, true, true, true, false, false, false]) s1 k1) [0, 1, 2, 3, 4, 18, 19, 20, 21, 22, 28, 80, 140] fu [(0, x0), (1, x1), (2, x2), (3, x3), (4, x4), (18, x18), (19, x19), (20, x20), (21, x21), (22, x22), (28, x28), (80, x80), (140, x140)] k
noncomputable def kcC_slices_symMergeCmpFunc_int (lf d : Nat) : KT := contAt PP (evC lf d) (gtA 76) lf (bodyOf PP 76) [true, true, true, true, true, true, true, false, false] (endK PP (resOf PP 76))
noncomputable def lpD_slices_symMergeCmpFunc_int (lf d fu : Nat) (k : KT) (x0 x1 x2 x3 x4 x10 x11 x13 x28 x33 : Value) : M Value := loopK (fun s1 k1 => codeK PP (evC lf d) (gtA 76) lf (codeAt (bodyOf PP 76) [false, true, false, true, true, true, false, true, false, false]) s1 k1) [0, 1, 2, 3, 4, 10, 11, 13, 28, 33] fu [(0, x0), (1, x1), (2, x2), (3, x3), (4, x4), (10, x10), (11, x11), (13, x13), (28, x28), (33, x33)] k
noncomputable def kcD_slices_symMergeCmpFunc_int (lf d : Nat) : KT := contAt PP (evC lf d) (gtA 76) lf (bodyOf PP 76) [false, true, false, true, true, true, false, true, false] (endK PP (resOf PP 76))
noncomputable def lpE_slices_symMergeCmpFunc_int (lf d fu : Nat) (k : KT) (x0 x1 x2 x3 x4 x14 x15 x17 x28 x80 x85 : Value) : M Value := loopK (fun s1 k1 => codeK PP (evC lf d) (gtA 76) lf (codeAt (bodyOf PP 76) [true, false, true, false, true, true, true, false, true, false, false]) s1 k1) [0, 1, 2, 3, 4, 14, 15, 17, 28, 80, 85] fu [(0, x0), (1, x1), (2, x2), (3, x3), (4, x4), (14, x14), (15, x15), (17, x17), (28, x28), (80, x80), (85, x85)] k
noncomputable def kcE_slices_symMergeCmpFunc_int (lf d : Nat) : KT := contAt PP (evC lf d) (gtA 76) lf (bodyOf PP 76) [true, false, true, false, true, true, true, false, true, false] (endK PP (resOf PP 76))
noncomputable def LA_slices_symMergeCmpFunc_int (lf d : Nat) (rec : RT) (k : KT) : Nat → Value → Value → Value → Value → Value → Value → Value → Value → M Value
  | 0, _, _, _, _, _, _, _, _ => M.fail
  | fu + 1, x0, x1, x2, x3, x4, x10, x11, x28 =>
    optK (q_lss PP 3 x10 x11) fun v33n14 =>
    ifV v33n14 (
      optK (q_add PP 3 x10 x11) fun v36n15 =>
      conv3 PP 3 84 .i64 .u64 v36n15 fun v37n16 =>
      optK (q_shr PP 84 v37n16 (Value.int .u64 1)) fun v38n17 =>
      conv3 PP 84 3 .u64 .i64 v38n17 fun v39n18 =>
      optK (evIA3 PP 22 1 x0 v39n18) fun v43n19 =>
      insB (evLoad3 PP 3 v43n19) fun v44n20 =>
      optK (evIA3 PP 22 1 x0 x1) fun v47n21 =>
      insB (evLoad3 PP 3 v47n21) fun v48n22 =>
      callV PP rec x4 [v44n20, v48n22] fun v49n23 =>
      optK (q_lss PP 3 v49n23 (Value.int .i64 0)) fun v50n24 =>
      ifV v50n24 (
        optK (q_add PP 3 v39n18 (Value.int .i64 1)) fun v52n25 =>
        LA_slices_symMergeCmpFunc_int lf d rec k fu x0 x1 x2 x3 x4 v52n25 x11 x28) (
        LA_slices_symMergeCmpFunc_int lf d rec k fu x0 x1 x2 x3 x4 x10 v39n18 x28)) (
      k (Ex.exit 0) [(0, x0), (1, x1), (2, x2), (3, x3), (4, x4), (10, x10), (11, x11), (28, x28), (33, v33n14)])
noncomputable def LB_slices_symMergeCmpFunc_int (lf d : Nat) (rec : RT) (k : KT) : Nat → Value → Value → Value → Value → Value → Value → Value → Value → Value → M Value
  | 0, _, _, _, _, _, _, _, _, _ => M.fail
  | fu + 1, x0, x1, x2, x3, x4, x14, x15, x28, x80 =>
    optK (q_lss PP 3 x14 x15) fun v85n26 =>
    ifV v85n26 (
      optK (q_add PP 3 x14 x15) fun v88n27 =>
      conv3 PP 3 84 .i64 .u64 v88n27 fun v89n28 =>
      optK (q_shr PP 84 v89n28 (Value.int .u64 1)) fun v90n29 =>
      conv3 PP 84 3 .u64 .i64 v90n29 fun v91n30 =>
      optK (evIA3 PP 22 1 x0 x2) fun v95n31 =>
      insB (evLoad3 PP 3 v95n31) fun v96n32 =>
      optK (evIA3 PP 22 1 x0 v91n30) fun v99n33 =>
      insB (evLoad3 PP 3 v99n33) fun v100n34 =>
      callV PP rec x4 [v96n32, v100n34] fun v101n35 =>
      optK (q_lss PP 3 v101n35 (Value.int .i64 0)) fun v102n36 =>
      optK (un3 PP .not v102n36) fun v103n37 =>
      ifV v103n37 (
        optK (q_add PP 3 v91n30 (Value.int .i64 1)) fun v105n38 =>
        LB_slices_symMergeCmpFunc_int lf d rec k fu x0 x1 x2 x3 x4 v105n38 x15 x28 x80) (
        LB_slices_symMergeCmpFunc_int lf d rec k fu x0 x1 x2 x3 x4 x14 v91n30 x28 x80)) (
      k (Ex.exit 4) [(0, x0), (1, x1), (2, x2), (3, x3), (4, x4), (14, x14), (15, x15), (28, x28), (80, x80), (85, v85n26)])
noncomputable def LC_slices_symMergeCmpFunc_int (lf d : Nat) (rec : RT) (k : KT) : Nat → Value → Value → Value → Value → Value → Value → Value → Value → Value → Value → Value → Value → Value → M Value
  | 0, _, _, _, _, _, _, _, _, _, _, _, _, _ => M.fail
  | fu + 1, x0, x1, x2, x3, x4, x18, x19, x20, x21, x22, x28, x80, x140 =>
    optK (q_lss PP 3 x20 x21) fun v151n39 =>
    ifV v151n39 (
      optK (q_add PP 3 x20 x21) fun v154n40 =>
      conv3 PP 3 84 .i64 .u64 v154n40 fun v155n41 =>
      optK (q_shr PP 84 v155n41 (Value.int .u64 1)) fun v156n42 =>
      conv3 PP 84 3 .u64 .i64 v156n42 fun v157n43 =>
      optK (q_sub PP 3 x22 v157n43) fun v162n44 =>
      optK (evIA3 PP 22 1 x0 v162n44) fun v163n45 =>
      insB (evLoad3 PP 3 v163n45) fun v164n46 =>
      optK (evIA3 PP 22 1 x0 v157n43) fun v167n47 =>
      insB (evLoad3 PP 3 v167n47) fun v168n48 =>
      callV PP rec x4 [v164n46, v168n48] fun v169n49 =>
      optK (q_lss PP 3 v169n49 (Value.int .i64 0)) fun v170n50 =>
      optK (un3 PP .not v170n50) fun v171n51 =>
      ifV v171n51 (
        optK (q_add PP 3 v157n43 (Value.int .i64 1)) fun v173n52 =>
        LC_slices_symMergeCmpFunc_int lf d rec k fu x0 x1 x2 x3 x4 x18 x19 v173n52 x21 x22 x28 x80 x140) (
        LC_slices_symMergeCmpFunc_int lf d rec k fu x0 x1 x2 x3 x4 x18 x19 x20 v157n43 x22 x28 x80 x140)) (
      k (Ex.exit 8) [(0, x0), (1, x1), (2, x2), (3, x3), (4, x4), (18, x18), (19, x19), (20, x20), (21, x21), (22, x22), (28, x28), (80, x80), (140, x140), (151, v151n39)])
noncomputable def KC_slices_symMergeCmpFunc_int (lf d : Nat) (rec : RT) (dflt : KT) : KT := (kEx 8 (runCur [0, 1, 2, 3, 4, 18, 19, 20, 21, 22, 28, 80, 140, 151] (fun y0 y1 y2 y3 y4 y18 y19 y20 y21 y22 y28 y80 y140 y151 =>
  optK (q_sub PP 3 y19 y20) fun v177n53 =>
  optK (q_lss PP 3 y20 y2) fun v180n54 =>
  ifV v180n54 (
    optK (q_lss PP 3 y2 v177n53) fun v184n55 =>
    ifV v184n55 (
      (inside (rec 77 #[y0, y20, y2, v177n53, y4])).bind fun v191n56 =>
      optK (q_lss PP 3 y1 y20) fun v194n57 =>
      ifV v194n57 (
        optK (q_lss PP 3 y20 y18) fun v198n58 =>
        ifV v198n58 (
          (inside (rec 76 #[y0, y1, y20, y18, y4])).bind fun v205n59 =>
          optK (q_lss PP 3 y18 v177n53) fun v208n60 =>
          ifV v208n60 (
            optK (q_lss PP 3 v177n53 y3) fun v212n61 =>
            ifV v212n61 (
              (inside (rec 76 #[y0, y18, v177n53, y3, y4])).bind fun v219n62 =>
              outK []) (
              outK [])) (
            outK [])) (
          optK (q_lss PP 3 y18 v177n53) fun v208n63 =>
          ifV v208n63 (
            optK (q_lss PP 3 v177n53 y3) fun v212n64 =>
            ifV v212n64 (
              (inside (rec 76 #[y0, y18, v177n53, y3, y4])).bind fun v219n65 =>
              outK []) (
              outK [])) (
            outK []))) (
        optK (q_lss PP 3 y18 v177n53) fun v208n66 =>
        ifV v208n66 (
          optK (q_lss PP 3 v177n53 y3) fun v212n67 =>
          ifV v212n67 (
            (inside (rec 76 #[y0, y18, v177n53, y3, y4])).bind fun v219n68 =>
            outK []) (
            outK [])) (
          outK []))) (
      optK (q_lss PP 3 y1 y20) fun v194n69 =>
      ifV v194n69 (
        optK (q_lss PP 3 y20 y18) fun v198n70 =>
        ifV v198n70 (
          (inside (rec 76 #[y0, y1, y20, y18, y4])).bind fun v205n71 =>
          optK (q_lss PP 3 y18 v177n53) fun v208n72 =>
          ifV v208n72 (
            optK (q_lss PP 3 v177n53 y3) fun v212n73 =>
            ifV v212n73 (
              (inside (rec 76 #[y0, y18, v177n53, y3, y4])).bind fun v219n74 =>
              outK []) (
              outK [])) (
            outK [])) (
          optK (q_lss PP 3 y18 v177n53) fun v208n75 =>
          ifV v208n75 (
            optK (q_lss PP 3 v177n53 y3) fun v212n76 =>
            ifV v212n76 (
              (inside (rec 76 #[y0, y18, v177n53, y3, y4])).bind fun v219n77 =>
              outK []) (
              outK [])) (
            outK []))) (
        optK (q_lss PP 3 y18 v177n53) fun v208n78 =>
        ifV v208n78 (
          optK (q_lss PP 3 v177n53 y3) fun v212n79 =>
          ifV v212n79 (
            (inside (rec 76 #[y0, y18, v177n53, y3, y4])).bind fun v219n80 =>
            outK []) (
            outK [])) (
          outK [])))) (
    optK (q_lss PP 3 y1 y20) fun v194n81 =>
    ifV v194n81 (
      optK (q_lss PP 3 y20 y18) fun v198n82 =>
      ifV v198n82 (
        (inside (rec 76 #[y0, y1, y20, y18, y4])).bind fun v205n83 =>
        optK (q_lss PP 3 y18 v177n53) fun v208n84 =>
        ifV v208n84 (
          optK (q_lss PP 3 v177n53 y3) fun v212n85 =>
          ifV v212n85 (
            (inside (rec 76 #[y0, y18, v177n53, y3, y4])).bind fun v219n86 =>
            outK []) (
            outK [])) (
          outK [])) (
        optK (q_lss PP 3 y18 v177n53) fun v208n87 =>
        ifV v208n87 (
          optK (q_lss PP 3 v177n53 y3) fun v212n88 =>
          ifV v212n88 (
            (inside (rec 76 #[y0, y18, v177n53, y3, y4])).bind fun v219n89 =>
            outK []) (
            outK [])) (
          outK []))) (
      optK (q_lss PP 3 y18 v177n53) fun v208n90 =>
      ifV v208n90 (
        optK (q_lss PP 3 v177n53 y3) fun v212n91 =>
        ifV v212n91 (
          (inside (rec 76 #[y0, y18, v177n53, y3, y4])).bind fun v219n92 =>
          outK []) (
          outK [])) (
        outK [])))) (dflt (Ex.exit 8))) dflt)
noncomputable def LD_slices_symMergeCmpFunc_int (lf d : Nat) (rec : RT) (k : KT) : Nat → Value → Value → Value → Value → Value → Value → Value → Value → Value → Value → M Value
  | 0, _, _, _, _, _, _, _, _, _, _ => M.fail
  | fu + 1, x0, x1, x2, x3, x4, x10, x11, x13, x28, x33 =>
    optK (q_sub PP 3 x10 (Value.int .i64 1)) fun v57n93 =>
    optK (q_lss PP 3 x13 v57n93) fun v58n94 =>
    ifV v58n94 (
      optK (q_add PP 3 x13 (Value.int .i64 1)) fun v65n95 =>
      optK (q_add PP 3 x13 (Value.int .i64 1)) fun v68n96 =>
      optK (evIA3 PP 22 1 x0 v68n96) fun v69n97 =>
      insB (evLoad3 PP 3 v69n97) fun v70n98 =>
      optK (evIA3 PP 22 1 x0 x13) fun v73n99 =>
      insB (evLoad3 PP 3 v73n99) fun v74n100 =>
      optK (evIA3 PP 22 1 x0 x13) fun v75n101 =>
      insB (evStore3 PP 3 v75n101 v70n98) fun u102 =>
      optK (evIA3 PP 22 1 x0 v65n95) fun v76n103 =>
      insB (evStore3 PP 3 v76n103 v74n100) fun u104 =>
      optK (q_add PP 3 x13 (Value.int .i64 1)) fun v60n105 =>
      LD_slices_symMergeCmpFunc_int lf d rec k fu x0 x1 x2 x3 x4 x10 x11 v60n105 x28 x33) (
      k (Ex.exit 2) [(0, x0), (1, x1), (2, x2), (3, x3), (4, x4), (10, x10), (11, x11), (13, x13), (28, x28), (33, x33), (58, v58n94)])
noncomputable def KD_slices_symMergeCmpFunc_int (lf d : Nat) (rec : RT) (dflt : KT) : KT := (kEx 2 (runCur [0, 1, 2, 3, 4, 10, 11, 13, 28, 33, 58] (fun y0 y1 y2 y3 y4 y10 y11 y13 y28 y33 y58 =>
  outK []) (dflt (Ex.exit 2))) dflt)
noncomputable def LE_slices_symMergeCmpFunc_int (lf d : Nat) (rec : RT) (k : KT) : Nat → Value → Value → Value → Value → Value → Value → Value → Value → Value → Value → Value → M Value
  | 0, _, _, _, _, _, _, _, _, _, _, _ => M.fail
  | fu + 1, x0, x1, x2, x3, x4, x14, x15, x17, x28, x80, x85 =>
    optK (q_gtr PP 3 x17 x14) fun v110n106 =>
    ifV v110n106 (
      optK (q_sub PP 3 x17 (Value.int .i64 1)) fun v117n107 =>
      optK (q_sub PP 3 x17 (Value.int .i64 1)) fun v120n108 =>
      optK (evIA3 PP 22 1 x0 v120n108) fun v121n109 =>
      insB (evLoad3 PP 3 v121n109) fun v122n110 =>
      optK (evIA3 PP 22 1 x0 x17) fun v125n111 =>
      insB (evLoad3 PP 3 v125n111) fun v126n112 =>
      optK (evIA3 PP 22 1 x0 x17) fun v127n113 =>
      insB (evStore3 PP 3 v127n113 v122n110) fun u114 =>
      optK (evIA3 PP 22 1 x0 v117n107) fun v128n115 =>
      insB (evStore3 PP 3 v128n115 v126n112) fun u116 =>
      optK (q_sub PP 3 x17 (Value.int .i64 1)) fun v112n117 =>
      LE_slices_symMergeCmpFunc_int lf d rec k fu x0 x1 x2 x3 x4 x14 x15 v112n117 x28 x80 x85) (
      k (Ex.exit 6) [(0, x0), (1, x1), (2, x2), (3, x3), (4, x4), (14, x14), (15, x15), (17, x17), (28, x28), (80, x80), (85, x85), (110, v110n106)])
noncomputable def KE_slices_symMergeCmpFunc_int (lf d : Nat) (rec : RT) (dflt : KT) : KT := (kEx 6 (runCur [0, 1, 2, 3, 4, 14, 15, 17, 28, 80, 85, 110] (fun y0 y1 y2 y3 y4 y14 y15 y17 y28 y80 y85 y110 =>
  outK []) (dflt (Ex.exit 6))) dflt)
noncomputable def KA_slices_symMergeCmpFunc_int (lf d : Nat) (rec : RT) (dflt : KT) : KT := (kEx 0 (runCur [0, 1, 2, 3, 4, 10, 11, 28, 33] (fun y0 y1 y2 y3 y4 y10 y11 y28 y33 =>
  LD_slices_symMergeCmpFunc_int lf d rec (KD_slices_symMergeCmpFunc_int lf d rec (kcD_slices_symMergeCmpFunc_int lf d)) lf y0 y1 y2 y3 y4 y10 y11 y1 y28 y33) (dflt (Ex.exit 0))) dflt)
noncomputable def KB_slices_symMergeCmpFunc_int (lf d : Nat) (rec : RT) (dflt : KT) : KT := (kEx 4 (runCur [0, 1, 2, 3, 4, 14, 15, 28, 80, 85] (fun y0 y1 y2 y3 y4 y14 y15 y28 y80 y85 =>
  LE_slices_symMergeCmpFunc_int lf d rec (KE_slices_symMergeCmpFunc_int lf d rec (kcE_slices_symMergeCmpFunc_int lf d)) lf y0 y1 y2 y3 y4 y14 y15 y2 y28 y80 y85) (dflt (Ex.exit 4))) dflt)
noncomputable def F_slices_symMergeCmpFunc_int (lf d : Nat) (rec : RT) (a0 a1 a2 a3 a4 : Value) : M Value :=
  optK (q_sub PP 3 a2 a1) fun v27n1 =>
  optK (q_eql PP 3 v27n1 (Value.int .i64 1)) fun v28n2 =>
  ifV v28n2 (
    LA_slices_symMergeCmpFunc_int lf d rec (KA_slices_symMergeCmpFunc_int lf d rec (kcA_slices_symMergeCmpFunc_int lf d)) lf a0 a1 a2 a3 a4 a2 a3 v28n2) (
    optK (q_sub PP 3 a3 a2) fun v79n3 =>
    optK (q_eql PP 3 v79n3 (Value.int .i64 1)) fun v80n4 =>
    ifV v80n4 (
      LB_slices_symMergeCmpFunc_int lf d rec (KB_slices_symMergeCmpFunc_int lf d rec (kcB_slices_symMergeCmpFunc_int lf d)) lf a0 a1 a2 a3 a4 a1 a2 v28n2 v80n4) (
      optK (q_add PP 3 a1 a3) fun v131n5 =>
      conv3 PP 3 84 .i64 .u64 v131n5 fun v132n6 =>
      optK (q_shr PP 84 v132n6 (Value.int .u64 1)) fun v133n7 =>
      conv3 PP 84 3 .u64 .i64 v133n7 fun v134n8 =>
      optK (q_add PP 3 v134n8 a2) fun v137n9 =>
      optK (q_gtr PP 3 a2 v134n8) fun v140n10 =>
      ifV v140n10 (
        optK (q_sub PP 3 v137n9 a3) fun v143n11 =>
        optK (q_sub PP 3 v137n9 (Value.int .i64 1)) fun v148n12 =>
        LC_slices_symMergeCmpFunc_int lf d rec (KC_slices_symMergeCmpFunc_int lf d rec (kcC_slices_symMergeCmpFunc_int lf d)) lf a0 a1 a2 a3 a4 v134n8 v137n9 v143n11 v134n8 v148n12 v28n2 v80n4 v140n10) (
        optK (q_sub PP 3 v137n9 (Value.int .i64 1)) fun v148n13 =>
        LC_slices_symMergeCmpFunc_int lf d rec (KC_slices_symMergeCmpFunc_int lf d rec (kcC_slices_symMergeCmpFunc_int lf d)) lf a0 a1 a2 a3 a4 v134n8 v137n9 a1 a2 v148n13 v28n2 v80n4 v140n10)))
theorem LQA_slices_symMergeCmpFunc_int (lf d : Nat) (k : KT) : ∀ fu : Nat, LA_slices_symMergeCmpFunc_int lf d (evC lf d) k fu = lpA_slices_symMergeCmpFunc_int lf d fu k
  | 0 => by funext x0 x1 x2 x3 x4 x10 x11 x28; kernel_rfl
  | fu + 1 => by
    have ih := LQA_slices_symMergeCmpFunc_int lf d k fu
    funext x0 x1 x2 x3 x4 x10 x11 x28; simp only [LA_slices_symMergeCmpFunc_int, ih, clash3_eq, conv3_eq cw3x84, conv3_eq cw84x3, evIA3_eq (P := PP) Tryd.underlying22 gs3, evLoad3_eq (P := PP) ga3, insB_eq, q_add_eq (P := PP) nf3, q_lss_eq (P := PP) nf3, q_shr_eq (P := PP) nf84]; kernel_rfl
theorem LQB_slices_symMergeCmpFunc_int (lf d : Nat) (k : KT) : ∀ fu : Nat, LB_slices_symMergeCmpFunc_int lf d (evC lf d) k fu = lpB_slices_symMergeCmpFunc_int lf d fu k
  | 0 => by funext x0 x1 x2 x3 x4 x14 x15 x28 x80; kernel_rfl
  | fu + 1 => by
    have ih := LQB_slices_symMergeCmpFunc_int lf d k fu
    funext x0 x1 x2 x3 x4 x14 x15 x28 x80; simp only [LB_slices_symMergeCmpFunc_int, ih, clash3_eq, conv3_eq cw3x84, conv3_eq cw84x3, evIA3_eq (P := PP) Tryd.underlying22 gs3, evLoad3_eq (P := PP) ga3, insB_eq, q_add_eq (P := PP) nf3, q_lss_eq (P := PP) nf3, q_shr_eq (P := PP) nf84, un3_eq]; kernel_rfl
theorem LQC_slices_symMergeCmpFunc_int (lf d : Nat) (k : KT) : ∀ fu : Nat, LC_slices_symMergeCmpFunc_int lf d (evC lf d) k fu = lpC_slices_symMergeCmpFunc_int lf d fu k
  | 0 => by funext x0 x1 x2 x3 x4 x18 x19 x20 x21 x22 x28 x80 x140; kernel_rfl
  | fu + 1 => by
    have ih := LQC_slices_symMergeCmpFunc_int lf d k fu
    funext x0 x1 x2 x3 x4 x18 x19 x20 x21 x22 x28 x80 x140; simp only [LC_slices_symMergeCmpFunc_int, ih, clash3_eq, conv3_eq cw3x84, conv3_eq cw84x3, evIA3_eq (P := PP) Tryd.underlying22 gs3, evLoad3_eq (P := PP) ga3, insB_eq, q_add_eq (P := PP) nf3, q_lss_eq (P := PP) nf3, q_shr_eq (P := PP) nf84, q_sub_eq (P := PP) nf3, un3_eq]; kernel_rfl
set_option maxRecDepth 20000 in
theorem KQC_slices_symMergeCmpFunc_int (lf d : Nat) : KC_slices_symMergeCmpFunc_int lf d (evC lf d) (kcC_slices_symMergeCmpFunc_int lf d) = kcC_slices_symMergeCmpFunc_int lf d := by
  unfold KC_slices_symMergeCmpFunc_int
  refine Eq.trans (kEx_eq ?_) ?_
  · exact (runCur_eq _ _ _ (by intro y0 y1 y2 y3 y4 y18 y19 y20 y21 y22 y28 y80 y140 y151; show _ = _; (try simp only [clash3_eq, insB_eq, q_lss_eq (P := PP) nf3, q_sub_eq (P := PP) nf3]); kernel_rfl))
  rfl
theorem LQD_slices_symMergeCmpFunc_int (lf d : Nat) (k : KT) : ∀ fu : Nat, LD_slices_symMergeCmpFunc_int lf d (evC lf d) k fu = lpD_slices_symMergeCmpFunc_int lf d fu k
  | 0 => by funext x0 x1 x2 x3 x4 x10 x11 x13 x28 x33; kernel_rfl
  | fu + 1 => by
    have ih := LQD_slices_symMergeCmpFunc_int lf d k fu
    funext x0 x1 x2 x3 x4 x10 x11 x13 x28 x33; simp only [LD_slices_symMergeCmpFunc_int, ih, clash3_eq, evIA3_eq (P := PP) Tryd.underlying22 gs3, evLoad3_eq (P := PP) ga3, evStore3_eq (P := PP) gs3, insB_eq, q_add_eq (P := PP) nf3, q_lss_eq (P := PP) nf3, q_sub_eq (P := PP) nf3]; kernel_rfl
set_option maxRecDepth 20000 in
theorem KQD_slices_symMergeCmpFunc_int (lf d : Nat) : KD_slices_symMergeCmpFunc_int lf d (evC lf d) (kcD_slices_symMergeCmpFunc_int lf d) = kcD_slices_symMergeCmpFunc_int lf d := by
  unfold KD_slices_symMergeCmpFunc_int
  refine Eq.trans (kEx_eq ?_) ?_
  · exact (runCur_eq _ _ _ (by intro y0 y1 y2 y3 y4 y10 y11 y13 y28 y33 y58; show _ = _; (try simp only [clash3_eq, insB_eq]); kernel_rfl))
  rfl
theorem LQE_slices_symMergeCmpFunc_int (lf d : Nat) (k : KT) : ∀ fu : Nat, LE_slices_symMergeCmpFunc_int lf d (evC lf d) k fu = lpE_slices_symMergeCmpFunc_int lf d fu k
  | 0 => by funext x0 x1 x2 x3 x4 x14 x15 x17 x28 x80 x85; kernel_rfl
  | fu + 1 => by
    have ih := LQE_slices_symMergeCmpFunc_int lf d k fu
    funext x0 x1 x2 x3 x4 x14 x15 x17 x28 x80 x85; simp only [LE_slices_symMergeCmpFunc_int, ih, clash3_eq, evIA3_eq (P := PP) Tryd.underlying22 gs3, evLoad3_eq (P := PP) ga3, evStore3_eq (P := PP) gs3, insB_eq, q_gtr_eq (P := PP) nf3, q_sub_eq (P := PP) nf3]; kernel_rfl
set_option maxRecDepth 20000 in
theorem KQE_slices_symMergeCmpFunc_int (lf d : Nat) : KE_slices_symMergeCmpFunc_int lf d (evC lf d) (kcE_slices_symMergeCmpFunc_int lf d) = kcE_slices_symMergeCmpFunc_int lf d := by
  unfold KE_slices_symMergeCmpFunc_int
  refine Eq.trans (kEx_eq ?_) ?_
  · exact (runCur_eq _ _ _ (by intro y0 y1 y2 y3 y4 y14 y15 y17 y28 y80 y85 y110; show _ = _; (try simp only [clash3_eq, insB_eq]); kernel_rfl))
  rfl
set_option maxRecDepth 20000 in
theorem KQA_slices_symMergeCmpFunc_int (lf d : Nat) : KA_slices_symMergeCmpFunc_int lf d (evC lf d) (kcA_slices_symMergeCmpFunc_int lf d) = kcA_slices_symMergeCmpFunc_int lf d := by
  unfold KA_slices_symMergeCmpFunc_int
  refine Eq.trans (kEx_eq ?_) ?_
  · exact (runCur_eq _ _ _ (by intro y0 y1 y2 y3 y4 y10 y11 y28 y33; show _ = _; (try simp only [KQD_slices_symMergeCmpFunc_int lf d, LQD_slices_symMergeCmpFunc_int, clash3_eq, insB_eq]); kernel_rfl))
  rfl
set_option maxRecDepth 20000 in
theorem KQB_slices_symMergeCmpFunc_int (lf d : Nat) : KB_slices_symMergeCmpFunc_int lf d (evC lf d) (kcB_slices_symMergeCmpFunc_int lf d) = kcB_slices_symMergeCmpFunc_int lf d := by
  unfold KB_slices_symMergeCmpFunc_int
  refine Eq.trans (kEx_eq ?_) ?_
  · exact (runCur_eq _ _ _ (by intro y0 y1 y2 y3 y4 y14 y15 y28 y80 y85; show _ = _; (try simp only [KQE_slices_symMergeCmpFunc_int lf d, LQE_slices_symMergeCmpFunc_int, clash3_eq, insB_eq]); kernel_rfl))
  rfl
theorem fsh_slices_symMergeCmpFunc_int (lf d : Nat) (a0 a1 a2 a3 a4 : Value) : inside (F_slices_symMergeCmpFunc_int lf d (evC lf d) a0 a1 a2 a3 a4) = evC lf (d + 1) 76 #[a0, a1, a2, a3, a4] := by
  unfold F_slices_symMergeCmpFunc_int; (try simp only [KQA_slices_symMergeCmpFunc_int lf d, LQA_slices_symMergeCmpFunc_int, KQB_slices_symMergeCmpFunc_int lf d, LQB_slices_symMergeCmpFunc_int, KQC_slices_symMergeCmpFunc_int lf d, LQC_slices_symMergeCmpFunc_int, clash3_eq, conv3_eq cw3x84, conv3_eq cw84x3, insB_eq, q_add_eq (P := PP) nf3, q_eql_eq (P := PP) nf3, q_gtr_eq (P := PP) nf3, q_shr_eq (P := PP) nf84, q_sub_eq (P := PP) nf3]); kernel_rfl

noncomputable def lpA_slices_rotateCmpFunc_int (lf d fu : Nat) (k : KT) (x0 x1 x2 x3 x4 x10 x11 : Value) : M Value := loopK (fun s1 k1 => codeK PP (evC lf d) (gtA 77) lf (codeAt (bodyOf PP 77) [true, true, false, false, false]) s1 k1) [0, 1, 2, 3, 4, 10, 11] fu [(0, x0), (1, x1), (2, x2), (3, x3), (4, x4), (10, x10), (11, x11)] k
noncomputable def kcA_slices_rotateCmpFunc_int (lf d : Nat) : KT := contAt PP (evC lf d) (gtA 77) lf (bodyOf PP 77) [true, true, false, false] (endK PP (resOf PP 77))
noncomputable def LA_slices_rotateCmpFunc_int (lf d : Nat) (rec : RT) (k : KT) : Nat → Value → Value → Value → Value → Value → Value → Value → M Value
  | 0, _, _, _, _, _, _, _ => M.fail
  | fu + 1, x0, x1, x2, x3, x4, x10, x11 =>
    optK (q_neq PP 3 x10 x11) fun v20n3 =>
    ifV v20n3 (
      optK (q_gtr PP 3 x10 x11) fun v23n4 =>
      ifV v23n4 (
        optK (q_sub PP 3 x2 x10) fun v27n5 =>
        (inside (rec 78 #[x0, v27n5, x2, x11, x4])).bind fun v31n6 =>
        optK (q_sub PP 3 x10 x11) fun v34n7 =>
        LA_slices_rotateCmpFunc_int lf d rec k fu x0 x1 x2 x3 x4 v34n7 x11) (
        optK (q_sub PP 3 x2 x10) fun v38n8 =>
        optK (q_add PP 3 x2 x11) fun v41n9 =>
        optK (q_sub PP 3 v41n9 x10) fun v43n10 =>
        (inside (rec 78 #[x0, v38n8, v43n10, x10, x4])).bind fun v46n11 =>
        optK (q_sub PP 3 x11 x10) fun v49n12 =>
        LA_slices_rotateCmpFunc_int lf d rec k fu x0 x1 x2 x3 x4 x10 v49n12)) (
      k (Ex.exit 0) [(0, x0), (1, x1), (2, x2), (3, x3), (4, x4), (10, x10), (11, x11), (20, v20n3)])
noncomputable def KA_slices_rotateCmpFunc_int (lf d : Nat) (rec : RT) (dflt : KT) : KT := (kEx 0 (runCur [0, 1, 2, 3, 4, 10, 11, 20] (fun y0 y1 y2 y3 y4 y10 y11 y20 =>
  optK (q_sub PP 3 y2 y10) fun v53n13 =>
  (inside (rec 78 #[y0, v53n13, y2, y10, y4])).bind fun v57n14 =>
  outK []) (dflt (Ex.exit 0))) dflt)
noncomputable def F_slices_rotateCmpFunc_int (lf d : Nat) (rec : RT) (a0 a1 a2 a3 a4 : Value) : M Value :=
  optK (q_sub PP 3 a2 a1) fun v14n1 =>
  optK (q_sub PP 3 a3 a2) fun v17n2 =>
  LA_slices_rotateCmpFunc_int lf d rec (KA_slices_rotateCmpFunc_int lf d rec (kcA_slices_rotateCmpFunc_int lf d)) lf a0 a1 a2 a3 a4 v14n1 v17n2
theorem LQA_slices_rotateCmpFunc_int (lf d : Nat) (k : KT) : ∀ fu : Nat, LA_slices_rotateCmpFunc_int lf d (evC lf d) k fu = lpA_slices_rotateCmpFunc_int lf d fu k
  | 0 => by funext x0 x1 x2 x3 x4 x10 x11; kernel_rfl
  | fu + 1 => by
    have ih := LQA_slices_rotateCmpFunc_int lf d k fu
    funext x0 x1 x2 x3 x4 x10 x11; simp only [LA_slices_rotateCmpFunc_int, ih, clash3_eq, insB_eq, q_add_eq (P := PP) nf3, q_gtr_eq (P := PP) nf3, q_neq_eq (P := PP) nf3, q_sub_eq (P := PP) nf3]; kernel_rfl
set_option maxRecDepth 20000 in
theorem KQA_slices_rotateCmpFunc_int (lf d : Nat) : KA_slices_rotateCmpFunc_int lf d (evC lf d) (kcA_slices_rotateCmpFunc_int lf d) = kcA_slices_rotateCmpFunc_int lf d := by
  unfold KA_slices_rotateCmpFunc_int
  refine Eq.trans (kEx_eq ?_) ?_
  · exact (runCur_eq _ _ _ (by intro y0 y1 y2 y3 y4 y10 y11 y20; show _ = _; (try simp only [clash3_eq, insB_eq, q_sub_eq (P := PP) nf3]); kernel_rfl))
  rfl
theorem fsh_slices_rotateCmpFunc_int (lf d : Nat) (a0 a1 a2 a3 a4 : Value) : inside (F_slices_rotateCmpFunc_int lf d (evC lf d) a0 a1 a2 a3 a4) = evC lf (d + 1) 77 #[a0, a1, a2, a3, a4] := by
  unfold F_slices_rotateCmpFunc_int; (try simp only [KQA_slices_rotateCmpFunc_int lf d, LQA_slices_rotateCmpFunc_int, clash3_eq, insB_eq, q_sub_eq (P := PP) nf3]); kernel_rfl

noncomputable def lpA_slices_swapRangeCmpFunc_int (lf d fu : Nat) (k : KT) (x0 x1 x2 x3 x10 : Value) : M Value := loopK (fun s1 k1 => codeK PP (evC lf d) (gtA 78) lf (codeAt (bodyOf PP 78) [true, false, false]) s1 k1) [0, 1, 2, 3, 10] fu [(0, x0), (1, x1), (2, x2), (3, x3), (10, x10)] k
noncomputable def kcA_slices_swapRangeCmpFunc_int (lf d : Nat) : KT := contAt PP (evC lf d) (gtA 78) lf (bodyOf PP 78) [true, false] (endK PP (resOf PP 78))
noncomputable def LA_slices_swapRangeCmpFunc_int (lf d : Nat) (rec : RT) (k : KT) : Nat → Value → Value → Value → Value → Value → M Value
  | 0, _, _, _, _, _ => M.fail
  | fu + 1, x0, x1, x2, x3, x10 =>
    optK (q_lss PP 3 x10 x3) fun v13n1 =>
    ifV v13n1 (
      optK (q_add PP 3 x1 x10) fun v19n2 =>
      optK (q_add PP 3 x2 x10) fun v23n3 =>
      optK (q_add PP 3 x2 x10) fun v27n4 =>
      optK (evIA3 PP 22 1 x0 v27n4) fun v28n5 =>
      insB (evLoad3 PP 3 v28n5) fun v29n6 =>
      optK (q_add PP 3 x1 x10) fun v33n7 =>
      optK (evIA3 PP 22 1 x0 v33n7) fun v34n8 =>
      insB (evLoad3 PP 3 v34n8) fun v35n9 =>
      optK (evIA3 PP 22 1 x0 v19n2) fun v36n10 =>
      insB (evStore3 PP 3 v36n10 v29n6) fun u11 =>
      optK (evIA3 PP 22 1 x0 v23n3) fun v37n12 =>
      insB (evStore3 PP 3 v37n12 v35n9) fun u13 =>
      optK (q_add PP 3 x10 (Value.int .i64 1)) fun v15n14 =>
      LA_slices_swapRangeCmpFunc_int lf d rec k fu x0 x1 x2 x3 v15n14) (
      k (Ex.exit 0) [(0, x0), (1, x1), (2, x2), (3, x3), (10, x10), (13, v13n1)])
noncomputable def KA_slices_swapRangeCmpFunc_int (lf d : Nat) (rec : RT) (dflt : KT) : KT := (kEx 0 (runCur [0, 1, 2, 3, 10, 13] (fun y0 y1 y2 y3 y10 y13 =>
  outK []) (dflt (Ex.exit 0))) dflt)
noncomputable def F_slices_swapRangeCmpFunc_int (lf d : Nat) (rec : RT) (a0 a1 a2 a3 a4 : Value) : M Value :=
  LA_slices_swapRangeCmpFunc_int lf d rec (KA_slices_swapRangeCmpFunc_int lf d rec (kcA_slices_swapRangeCmpFunc_int lf d)) lf a0 a1 a2 a3 (Value.int .i64 0)
theorem LQA_slices_swapRangeCmpFunc_int (lf d : Nat) (k : KT) : ∀ fu : Nat, LA_slices_swapRangeCmpFunc_int lf d (evC lf d) k fu = lpA_slices_swapRangeCmpFunc_int lf d fu k
  | 0 => by funext x0 x1 x2 x3 x10; kernel_rfl
  | fu + 1 => by
    have ih := LQA_slices_swapRangeCmpFunc_int lf d k fu
    funext x0 x1 x2 x3 x10; simp only [LA_slices_swapRangeCmpFunc_int, ih, clash3_eq, evIA3_eq (P := PP) Tryd.underlying22 gs3, evLoad3_eq (P := PP) ga3, evStore3_eq (P := PP) gs3, insB_eq, q_add_eq (P := PP) nf3, q_lss_eq (P := PP) nf3]; kernel_rfl
set_option maxRecDepth 20000 in
theorem KQA_slices_swapRangeCmpFunc_int (lf d : Nat) : KA_slices_swapRangeCmpFunc_int lf d (evC lf d) (kcA_slices_swapRangeCmpFunc_int lf d) = kcA_slices_swapRangeCmpFunc_int lf d := by
  unfold KA_slices_swapRangeCmpFunc_int
  refine Eq.trans (kEx_eq ?_) ?_
  · exact (runCur_eq _ _ _ (by intro y0 y1 y2 y3 y10 y13; show _ = _; (try simp only [clash3_eq, insB_eq]); kernel_rfl))
  rfl
theorem fsh_slices_swapRangeCmpFunc_int (lf d : Nat) (a0 a1 a2 a3 a4 : Value) : inside (F_slices_swapRangeCmpFunc_int lf d (evC lf d) a0 a1 a2 a3 a4) = evC lf (d + 1) 78 #[a0, a1, a2, a3, a4] := by
  unfold F_slices_swapRangeCmpFunc_int; (try simp only [KQA_slices_swapRangeCmpFunc_int lf d, LQA_slices_swapRangeCmpFunc_int, clash3_eq, insB_eq]); kernel_rfl

noncomputable def fTab (lf : Nat) : Tab := [
  (8, fun d rec => runAr 0 (inside (F_balerlaw12_three lf d rec)) (fun l => evC lf (d + 1) 8 l.toArray)),
  (9, fun d rec => runAr 2 (fun a0 a1 => inside (F_tables_Cost lf d rec a0 a1)) (fun l => evC lf (d + 1) 9 l.toArray)),
  (15, fun d rec => runAr 2 (fun a0 a1 => inside (F_tables_Of lf d rec a0 a1)) (fun l => evC lf (d + 1) 15 l.toArray)),
  (19, fun d rec => runAr 1 (fun a0 => inside (F_tables_Number lf d rec a0)) (fun l => evC lf (d + 1) 19 l.toArray)),
  (28, fun d rec => runAr 2 (fun a0 a1 => inside (F_balerplain_Ints lf d rec a0 a1)) (fun l => evC lf (d + 1) 28 l.toArray)),
  (29, fun d rec => runAr 1 (fun a0 => inside (F_freq_Groups lf d rec a0)) (fun l => evC lf (d + 1) 29 l.toArray)),
  (30, fun d rec => runAr 2 (fun a0 a1 => inside (F_freq_Group lf d rec a0 a1)) (fun l => evC lf (d + 1) 30 l.toArray)),
  (31, fun d rec => runAr 2 (fun a0 a1 => inside (F_freq_Cost lf d rec a0 a1)) (fun l => evC lf (d + 1) 31 l.toArray)),
  (34, fun d rec => runAr 2 (fun a0 a1 => inside (F_freq_Counts lf d rec a0 a1)) (fun l => evC lf (d + 1) 34 l.toArray)),
  (35, fun d rec => runAr 1 (fun a0 => inside (F_tables_groupsOf lf d rec a0)) (fun l => evC lf (d + 1) 35 l.toArray)),
  (36, fun d rec => runAr 2 (fun a0 a1 => inside (F_tables_first lf d rec a0 a1)) (fun l => evC lf (d + 1) 36 l.toArray)),
  (37, fun d rec => runAr 3 (fun a0 a1 a2 => inside (F_tables_round lf d rec a0 a1 a2)) (fun l => evC lf (d + 1) 37 l.toArray)),
  (39, fun d rec => runAr 1 (fun a0 => inside (F_lens_Of lf d rec a0)) (fun l => evC lf (d + 1) 39 l.toArray)),
  (47, fun d rec => runAr 3 (fun a0 a1 a2 => inside (F_freq_part_int lf d rec a0 a1 a2)) (fun l => evC lf (d + 1) 47 l.toArray)),
  (48, fun d rec => runAr 1 (fun a0 => inside (F_freq_all lf d rec a0)) (fun l => evC lf (d + 1) 48 l.toArray)),
  (49, fun d rec => runAr 2 (fun a0 a1 => inside (F_freq_together lf d rec a0 a1)) (fun l => evC lf (d + 1) 49 l.toArray)),
  (50, fun d rec => runAr 2 (fun a0 a1 => inside (F_tables_pick lf d rec a0 a1)) (fun l => evC lf (d + 1) 50 l.toArray)),
  (51, fun d rec => runAr 2 (fun a0 a1 => inside (F_freq_Add lf d rec a0 a1)) (fun l => evC lf (d + 1) 51 l.toArray)),
  (52, fun d rec => runAr 3 (fun a0 a1 a2 => inside (F_lens_between lf d rec a0 a1 a2)) (fun l => evC lf (d + 1) 52 l.toArray)),
  (53, fun d rec => runAr 1 (fun a0 => inside (F_lens_depths lf d rec a0)) (fun l => evC lf (d + 1) 53 l.toArray)),
  (54, fun d rec => runAr 1 (fun a0 => inside (F_lens_Longest lf d rec a0)) (fun l => evC lf (d + 1) 54 l.toArray)),
  (55, fun d rec => runAr 1 (fun a0 => inside (F_slices_Clone_int_int lf d rec a0)) (fun l => evC lf (d + 1) 55 l.toArray)),
  (56, fun d rec => runAr 1 (fun a0 => inside (F_lens_Halved lf d rec a0)) (fun l => evC lf (d + 1) 56 l.toArray)),
  (59, fun d rec => runAr 2 (fun a0 a1 => inside (F_slices_ContainsFunc_int_int lf d rec a0 a1)) (fun l => evC lf (d + 1) 59 l.toArray)),
  (60, fun d rec => runAr 1 (fun a0 => inside (F_freq_all_1 lf d rec a0)) (fun l => evC lf (d + 1) 60 l.toArray)),
  (61, fun d rec => runAr 1 (fun a0 => inside (F_freq_may lf d rec a0)) (fun l => evC lf (d + 1) 61 l.toArray)),
  (62, fun d rec => runAr 3 (fun a0 a1 a2 => inside (F_lens_between_1 lf d rec a0 a1 a2)) (fun l => evC lf (d + 1) 62 l.toArray)),
  (63, fun d rec => runAr 1 (fun a0 => inside (F_lens_treesOf lf d rec a0)) (fun l => evC lf (d + 1) 63 l.toArray)),
  (64, fun d rec => runAr 1 (fun a0 => inside (F_lens_trees_least lf d rec a0)) (fun l => evC lf (d + 1) 64 l.toArray)),
  (65, fun d rec => runAr 3 (fun a0 a1 a2 => inside (F_lens_trees_join lf d rec a0 a1 a2)) (fun l => evC lf (d + 1) 65 l.toArray)),
  (68, fun d rec => runAr 2 (fun a0 a1 => inside (F_slices_IndexFunc_int_int lf d rec a0 a1)) (fun l => evC lf (d + 1) 68 l.toArray)),
  (69, fun d rec => runAr 2 (fun a0 a1 => inside (F_slices_SortStableFunc_int_int lf d rec a0 a1)) (fun l => evC lf (d + 1) 69 l.toArray)),
  (70, fun d rec => runAr 3 (fun a0 a1 a2 => inside (F_lens_treesOf_1 lf d rec a0 a1 a2)) (fun l => evC lf (d + 1) 70 l.toArray)),
  (71, fun d rec => runAr 2 (fun a0 a1 => inside (F_cmp_Compare_int lf d rec a0 a1)) (fun l => evC lf (d + 1) 71 l.toArray)),
  (73, fun d rec => runAr 3 (fun a0 a1 a2 => inside (F_slices_stableCmpFunc_int lf d rec a0 a1 a2)) (fun l => evC lf (d + 1) 73 l.toArray)),
  (74, fun d rec => runAr 1 (fun a0 => inside (F_cmp_isNaN_int lf d rec a0)) (fun l => evC lf (d + 1) 74 l.toArray)),
  (75, fun d rec => runAr 4 (fun a0 a1 a2 a3 => inside (F_slices_insertionSortCmpFunc_int lf d rec a0 a1 a2 a3)) (fun l => evC lf (d + 1) 75 l.toArray)),
  (76, fun d rec => runAr 5 (fun a0 a1 a2 a3 a4 => inside (F_slices_symMergeCmpFunc_int lf d rec a0 a1 a2 a3 a4)) (fun l => evC lf (d + 1) 76 l.toArray)),
  (77, fun d rec => runAr 5 (fun a0 a1 a2 a3 a4 => inside (F_slices_rotateCmpFunc_int lf d rec a0 a1 a2 a3 a4)) (fun l => evC lf (d + 1) 77 l.toArray)),
  (78, fun d rec => runAr 5 (fun a0 a1 a2 a3 a4 => inside (F_slices_swapRangeCmpFunc_int lf d rec a0 a1 a2 a3 a4)) (fun l => evC lf (d + 1) 78 l.toArray))]
theorem fTab_ok (lf : Nat) : OkTab (evC lf) (fTab lf) :=
  ⟨fun d => runAr_eq _ _ _ (fsh_balerlaw12_three lf d),
  ⟨fun d => runAr_eq _ _ _ (fun a0 a1 => fsh_tables_Cost lf d a0 a1),
  ⟨fun d => runAr_eq _ _ _ (fun a0 a1 => fsh_tables_Of lf d a0 a1),
  ⟨fun d => runAr_eq _ _ _ (fun a0 => fsh_tables_Number lf d a0),
  ⟨fun d => runAr_eq _ _ _ (fun a0 a1 => fsh_balerplain_Ints lf d a0 a1),
  ⟨fun d => runAr_eq _ _ _ (fun a0 => fsh_freq_Groups lf d a0),
  ⟨fun d => runAr_eq _ _ _ (fun a0 a1 => fsh_freq_Group lf d a0 a1),
  ⟨fun d => runAr_eq _ _ _ (fun a0 a1 => fsh_freq_Cost lf d a0 a1),
  ⟨fun d => runAr_eq _ _ _ (fun a0 a1 => fsh_freq_Counts lf d a0 a1),
  ⟨fun d => runAr_eq _ _ _ (fun a0 => fsh_tables_groupsOf lf d a0),
  ⟨fun d => runAr_eq _ _ _ (fun a0 a1 => fsh_tables_first lf d a0 a1),
  ⟨fun d => runAr_eq _ _ _ (fun a0 a1 a2 => fsh_tables_round lf d a0 a1 a2),
  ⟨fun d => runAr_eq _ _ _ (fun a0 => fsh_lens_Of lf d a0),
  ⟨fun d => runAr_eq _ _ _ (fun a0 a1 a2 => fsh_freq_part_int lf d a0 a1 a2),
  ⟨fun d => runAr_eq _ _ _ (fun a0 => fsh_freq_all lf d a0),
  ⟨fun d => runAr_eq _ _ _ (fun a0 a1 => fsh_freq_together lf d a0 a1),
  ⟨fun d => runAr_eq _ _ _ (fun a0 a1 => fsh_tables_pick lf d a0 a1),
  ⟨fun d => runAr_eq _ _ _ (fun a0 a1 => fsh_freq_Add lf d a0 a1),
  ⟨fun d => runAr_eq _ _ _ (fun a0 a1 a2 => fsh_lens_between lf d a0 a1 a2),
  ⟨fun d => runAr_eq _ _ _ (fun a0 => fsh_lens_depths lf d a0),
  ⟨fun d => runAr_eq _ _ _ (fun a0 => fsh_lens_Longest lf d a0),
  ⟨fun d => runAr_eq _ _ _ (fun a0 => fsh_slices_Clone_int_int lf d a0),
  ⟨fun d => runAr_eq _ _ _ (fun a0 => fsh_lens_Halved lf d a0),
  ⟨fun d => runAr_eq _ _ _ (fun a0 a1 => fsh_slices_ContainsFunc_int_int lf d a0 a1),
  ⟨fun d => runAr_eq _ _ _ (fun a0 => fsh_freq_all_1 lf d a0),
  ⟨fun d => runAr_eq _ _ _ (fun a0 => fsh_freq_may lf d a0),
  ⟨fun d => runAr_eq _ _ _ (fun a0 a1 a2 => fsh_lens_between_1 lf d a0 a1 a2),
  ⟨fun d => runAr_eq _ _ _ (fun a0 => fsh_lens_treesOf lf d a0),
  ⟨fun d => runAr_eq _ _ _ (fun a0 => fsh_lens_trees_least lf d a0),
  ⟨fun d => runAr_eq _ _ _ (fun a0 a1 a2 => fsh_lens_trees_join lf d a0 a1 a2),
  ⟨fun d => runAr_eq _ _ _ (fun a0 a1 => fsh_slices_IndexFunc_int_int lf d a0 a1),
  ⟨fun d => runAr_eq _ _ _ (fun a0 a1 => fsh_slices_SortStableFunc_int_int lf d a0 a1),
  ⟨fun d => runAr_eq _ _ _ (fun a0 a1 a2 => fsh_lens_treesOf_1 lf d a0 a1 a2),
  ⟨fun d => runAr_eq _ _ _ (fun a0 a1 => fsh_cmp_Compare_int lf d a0 a1),
  ⟨fun d => runAr_eq _ _ _ (fun a0 a1 a2 => fsh_slices_stableCmpFunc_int lf d a0 a1 a2),
  ⟨fun d => runAr_eq _ _ _ (fun a0 => fsh_cmp_isNaN_int lf d a0),
  ⟨fun d => runAr_eq _ _ _ (fun a0 a1 a2 a3 => fsh_slices_insertionSortCmpFunc_int lf d a0 a1 a2 a3),
  ⟨fun d => runAr_eq _ _ _ (fun a0 a1 a2 a3 a4 => fsh_slices_symMergeCmpFunc_int lf d a0 a1 a2 a3 a4),
  ⟨fun d => runAr_eq _ _ _ (fun a0 a1 a2 a3 a4 => fsh_slices_rotateCmpFunc_int lf d a0 a1 a2 a3 a4),
  ⟨fun d => runAr_eq _ _ _ (fun a0 a1 a2 a3 a4 => fsh_slices_swapRangeCmpFunc_int lf d a0 a1 a2 a3 a4), trivial⟩⟩⟩⟩⟩⟩⟩⟩⟩⟩⟩⟩⟩⟩⟩⟩⟩⟩⟩⟩⟩⟩⟩⟩⟩⟩⟩⟩⟩⟩⟩⟩⟩⟩⟩⟩⟩⟩⟩⟩
noncomputable def fast (lf : Nat) : Nat → RT := fastT (evC lf) (fTab lf)
theorem fast_eq (lf d : Nat) : fast lf d = evC lf d := fastT_eq (fTab_ok lf) d

end Go.Proofs.YtdagfcflbphoiaaDoor.Fa

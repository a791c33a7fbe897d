import Derived.Test.YtdagfcflbphoiaaGreatDoorMag
import Derived.Test.YtdagfcflbphoiaaGreatDoorMae
namespace Go.Proofs.YtdagfcflbphoiaaGreatDoor.Fa
set_option linter.unusedVariables false
set_option linter.unusedSimpArgs false
open Go Go.RowKit Ev

noncomputable def zbaa (lf d fu : Nat) (k : KT) (x0 x2 x3 x11 x12 : Value) : M Value := loopK (fun s1 k1 => codeK PP (evC lf d) (gtA 139) lf (codeAt (bodyOf PP 139) [true, true, false, true, false, false]) s1 k1) [0, 2, 3, 11, 12] fu [(0, x0), (2, x2), (3, x3), (11, x11), (12, x12)] k
noncomputable def zalj (lf d : Nat) : KT := contAt PP (evC lf d) (gtA 139) lf (bodyOf PP 139) [true, true, false, true, false] (endK PP (resOf PP 139))
noncomputable def zazr (lf d fu : Nat) (k : KT) (x0 x2 x3 x5 x6 x11 x12 x13 : Value) : M Value := loopK (fun s1 k1 => codeK PP (evC lf d) (gtA 139) lf (codeAt (bodyOf PP 139) [true, true, true, true, false, true, false, false]) s1 k1) [0, 2, 3, 5, 6, 11, 12, 13] fu [(0, x0), (2, x2), (3, x3), (5, x5), (6, x6), (11, x11), (12, x12), (13, x13)] k
noncomputable def zalb (lf d : Nat) : KT := contAt PP (evC lf d) (gtA 139) lf (bodyOf PP 139) [true, true, true, true, false, true, false] (endK PP (resOf PP 139))
noncomputable def zamv (lf d : Nat) (rec : RT) (k : KT) : Nat → Value → Value → Value → Value → Value → M Value
 | 0, _, _, _, _, _ => M.fail
 | fu + 1, x0, x2, x3, x11, x12 =>
  optK (q_lss PP 3 x12 x11) fun v13n4 =>
  ifV v13n4 (
   (inside (rec 147 #[x3])).bind fun v15n5 =>
   (inside (rec 147 #[x3])).bind fun v19n6 =>
   (inside (rec 148 #[x3, v15n5, v19n6])).bind fun v20n7 =>
   optK (q_add PP 3 x12 (Value.int .i64 1)) fun v21n8 =>
   zamv lf d rec k fu x0 x2 x3 x11 v21n8) (
   k (Ex.exit 0) [(0, x0), (2, x2), (3, x3), (11, x11), (12, x12), (13, v13n4)])
noncomputable def zamp (lf d : Nat) (rec : RT) (k : KT) : Nat → Value → Value → Value → Value → Value → Value → Value → Value → M Value
 | 0, _, _, _, _, _, _, _, _ => M.fail
 | fu + 1, x0, x2, x3, x5, x6, x11, x12, x13 =>
  optK (q_geq PP 3 x6 (Value.int .i64 0)) fun v32n16 =>
  ifV v32n16 (
   optK (nil2 x3) fun v39n17 =>
   optK (evFA3 PP 164 1 v39n17 1) fun v40n18 =>
   insB (zaai PP 22 v40n18) fun v41n19 =>
   optK (evIA3 PP 22 1 v41n19 x6) fun v43n20 =>
   insB (zaai PP 3 v43n20) fun v44n21 =>
   optK (evIA3 PP 22 1 x5 v44n21) fun v45n22 =>
   insB (zaai PP 3 v45n22) fun v46n23 =>
   optK (q_add PP 3 v46n23 (Value.int .i64 1)) fun v47n24 =>
   optK (evIA3 PP 22 1 x5 x6) fun v48n25 =>
   insB (zaaq PP 3 v48n25 v47n24) fun u26 =>
   optK (q_sub PP 3 x6 (Value.int .i64 1)) fun v34n27 =>
   zamp lf d rec k fu x0 x2 x3 x5 v34n27 x11 x12 x13) (
   k (Ex.exit 2) [(0, x0), (2, x2), (3, x3), (5, x5), (6, x6), (11, x11), (12, x12), (13, x13), (32, v32n16)])
noncomputable def zask (lf d : Nat) (rec : RT) (dflt : KT) : KT := (kEx 2 (runCur [0, 2, 3, 5, 6, 11, 12, 13, 32] (fun y0 y2 y3 y5 y6 y11 y12 y13 y32 =>
 optK (len2 PP #[22] [y0]) fun v51n28 =>
 zabo PP 22 y5 none (some v51n28) none fun v52n29 =>
 outK [v52n29]) (dflt (Ex.exit 2))) dflt)
noncomputable def zasv (lf d : Nat) (rec : RT) (dflt : KT) : KT := (kEx 0 (runCur [0, 2, 3, 11, 12, 13] (fun y0 y2 y3 y11 y12 y13 =>
 optK (nil2 y3) fun v23n9 =>
 optK (evFA3 PP 164 0 v23n9 0) fun v24n10 =>
 insB (zaai PP 22 v24n10) fun v25n11 =>
 optK (len2 PP #[22] [v25n11]) fun v26n12 =>
 insB (zagt PP 22 v26n12 v26n12) fun v27n13 =>
 optK (len2 PP #[22] [v27n13]) fun v29n14 =>
 optK (q_sub PP 3 v29n14 (Value.int .i64 2)) fun v30n15 =>
 zamp lf d rec (zask lf d rec (zalb lf d)) lf y0 y2 y3 v27n13 v30n15 y11 y12 y13) (dflt (Ex.exit 0))) dflt)
noncomputable def zavd (lf d : Nat) (rec : RT) (a0 : Value) : M Value :=
 (inside (rec 146 #[a0])).bind fun v8n1 =>
 optK (len2 PP #[22] [a0]) fun v10n2 =>
 optK (q_sub PP 3 v10n2 (Value.int .i64 1)) fun v11n3 =>
 zamv lf d rec (zasv lf d rec (zalj lf d)) lf a0 (Value.slice none 0 0) v8n1 v11n3 (Value.int .i64 0)
theorem zazu (lf d : Nat) (k : KT) : ∀ fu : Nat, zamv lf d (evC lf d) k fu = zbaa lf d fu k
 | 0 => by funext x0 x2 x3 x11 x12; kernel_rfl
 | fu + 1 => by
  have ih := zazu lf d k fu
  funext x0 x2 x3 x11 x12; simp only [zamv, ih, zaag, zaah, zaap (P := PP) nf3, zaat (P := PP) nf3]; kernel_rfl
theorem zazx (lf d : Nat) (k : KT) : ∀ fu : Nat, zamp lf d (evC lf d) k fu = zazr lf d fu k
 | 0 => by funext x0 x2 x3 x5 x6 x11 x12 x13; kernel_rfl
 | fu + 1 => by
  have ih := zazx lf d k fu
  funext x0 x2 x3 x5 x6 x11 x12 x13; simp only [zamp, ih, zaag, zaal (P := PP) zbow, zaax (P := PP) Tryz.underlying22 gs3, zaaj (P := PP) ga22, zaaj (P := PP) ga3, zaao (P := PP) gs3, zaah, zaap (P := PP) nf3, zadp (P := PP) nf3, zabd (P := PP) nf3]; kernel_rfl
set_option maxRecDepth 20000 in
theorem zbmg (lf d : Nat) : zask lf d (evC lf d) (zalb lf d) = zalb lf d := by
  unfold zask
  refine Eq.trans (zaba ?_) ?_
  · exact (zaam _ _ _ (by intro y0 y2 y3 y5 y6 y11 y12 y13 y32; show _ = _; (try simp only [zaag, zaah]); kernel_rfl))
  rfl
set_option maxRecDepth 20000 in
theorem zbmj (lf d : Nat) : zasv lf d (evC lf d) (zalj lf d) = zalj lf d := by
  unfold zasv
  refine Eq.trans (zaba ?_) ?_
  · exact (zaam _ _ _ (by intro y0 y2 y3 y11 y12 y13; show _ = _; (try simp only [zbmg lf d, zazx, zaag, zaal (P := PP) zbpd, zaaj (P := PP) ga22, zaeg, zaah, zabd (P := PP) nf3]); kernel_rfl))
  rfl
theorem zbnq (lf d : Nat) (a0 : Value) : inside (zavd lf d (evC lf d) a0) = evC lf (d + 1) 139 #[a0] := by
 unfold zavd; (try simp only [zbmj lf d, zazu, zaag, zaah, zabd (P := PP) nf3]); kernel_rfl

noncomputable def zaxv (lf d fu : Nat) (k : KT) (x0 x2 x3 x6 x7 x8 : Value) : M Value := loopK (fun s1 k1 => codeK PP (evC lf d) (gtA 140) lf (codeAt (bodyOf PP 140) [true, true, false, true, false, false]) s1 k1) [0, 2, 3, 6, 7, 8] fu [(0, x0), (2, x2), (3, x3), (6, x6), (7, x7), (8, x8)] k
noncomputable def zajk (lf d : Nat) : KT := contAt PP (evC lf d) (gtA 140) lf (bodyOf PP 140) [true, true, false, true, false] (endK PP (resOf PP 140))
noncomputable def zakv (lf d : Nat) (rec : RT) (k : KT) : Nat → Value → Value → Value → Value → Value → Value → M Value
 | 0, _, _, _, _, _, _ => M.fail
 | fu + 1, x0, x2, x3, x6, x7, x8 =>
  optK (q_lss PP 3 x8 x7) fun v9n2 =>
  ifV v9n2 (
   optK (evIA3 PP 22 1 x6 x8) fun v10n3 =>
   insB (zaai PP 3 v10n3) fun v11n4 =>
   optK (max2 [x3, v11n4]) fun v14n5 =>
   optK (q_add PP 3 x8 (Value.int .i64 1)) fun v15n6 =>
   zakv lf d rec k fu x0 x2 v14n5 x6 x7 v15n6) (
   k (Ex.exit 0) [(0, x0), (2, x2), (3, x3), (6, x6), (7, x7), (8, x8), (9, v9n2)])
noncomputable def zaqw (lf d : Nat) (rec : RT) (dflt : KT) : KT := (kEx 0 (runCur [0, 2, 3, 6, 7, 8, 9] (fun y0 y2 y3 y6 y7 y8 y9 =>
 outK [y3]) (dflt (Ex.exit 0))) dflt)
noncomputable def zasq (lf d : Nat) (rec : RT) (a0 : Value) : M Value :=
 optK (len2 PP #[22] [a0]) fun v7n1 =>
 zakv lf d rec (zaqw lf d rec (zajk lf d)) lf a0 (Value.int .i64 0) (Value.int .i64 0) a0 v7n1 (Value.int .i64 0)
theorem zaye (lf d : Nat) (k : KT) : ∀ fu : Nat, zakv lf d (evC lf d) k fu = zaxv lf d fu k
 | 0 => by funext x0 x2 x3 x6 x7 x8; kernel_rfl
 | fu + 1 => by
  have ih := zaye lf d k fu
  funext x0 x2 x3 x6 x7 x8; simp only [zakv, ih, zaag, zaax (P := PP) Tryz.underlying22 gs3, zaaj (P := PP) ga3, zaah, zaap (P := PP) nf3, zaat (P := PP) nf3]; kernel_rfl
set_option maxRecDepth 20000 in
theorem zblv (lf d : Nat) : zaqw lf d (evC lf d) (zajk lf d) = zajk lf d := by
  unfold zaqw
  refine Eq.trans (zaba ?_) ?_
  · exact (zaam _ _ _ (by intro y0 y2 y3 y6 y7 y8 y9; show _ = _; (try simp only [zaag, zaah]); kernel_rfl))
  rfl
theorem zblk (lf d : Nat) (a0 : Value) : inside (zasq lf d (evC lf d) a0) = evC lf (d + 1) 140 #[a0] := by
 unfold zasq; (try simp only [zblv lf d, zaye, zaag, zaah]); kernel_rfl

noncomputable def zazj (lf d fu : Nat) (k : KT) (x0 x2 x3 x9 x10 x11 : Value) : M Value := loopK (fun s1 k1 => codeK PP (evC lf d) (gtA 141) lf (codeAt (bodyOf PP 141) [true, true, false, true, false, false]) s1 k1) [0, 2, 3, 9, 10, 11] fu [(0, x0), (2, x2), (3, x3), (9, x9), (10, x10), (11, x11)] k
noncomputable def zakr (lf d : Nat) : KT := contAt PP (evC lf d) (gtA 141) lf (bodyOf PP 141) [true, true, false, true, false] (endK PP (resOf PP 141))
noncomputable def zamj (lf d : Nat) (rec : RT) (k : KT) : Nat → Value → Value → Value → Value → Value → Value → M Value
 | 0, _, _, _, _, _, _ => M.fail
 | fu + 1, x0, x2, x3, x9, x10, x11 =>
  optK (q_lss PP 3 x11 x10) fun v12n4 =>
  ifV v12n4 (
   optK (evIA3 PP 22 1 x9 x11) fun v14n5 =>
   insB (zaai PP 3 v14n5) fun v15n6 =>
   optK (max2 [v15n6, (Value.int .i64 0)]) fun v19n7 =>
   optK (q_quo PP 3 v19n7 (Value.int .i64 2)) fun v20n8 =>
   optK (q_add PP 3 v20n8 (Value.int .i64 1)) fun v21n9 =>
   optK (evIA3 PP 22 1 x3 x11) fun v22n10 =>
   insB (zaaq PP 3 v22n10 v21n9) fun u11 =>
   optK (q_add PP 3 x11 (Value.int .i64 1)) fun v23n12 =>
   zamj lf d rec k fu x0 x2 x3 x9 x10 v23n12) (
   k (Ex.exit 0) [(0, x0), (2, x2), (3, x3), (9, x9), (10, x10), (11, x11), (12, v12n4)])
noncomputable def zasl (lf d : Nat) (rec : RT) (dflt : KT) : KT := (kEx 0 (runCur [0, 2, 3, 9, 10, 11, 12] (fun y0 y2 y3 y9 y10 y11 y12 =>
 outK [y3]) (dflt (Ex.exit 0))) dflt)
noncomputable def zavh (lf d : Nat) (rec : RT) (a0 : Value) : M Value :=
 optK (len2 PP #[22] [a0]) fun v7n1 =>
 insB (zagt PP 22 v7n1 v7n1) fun v8n2 =>
 optK (len2 PP #[22] [a0]) fun v10n3 =>
 zamj lf d rec (zasl lf d rec (zakr lf d)) lf a0 (Value.slice none 0 0) v8n2 a0 v10n3 (Value.int .i64 0)
theorem zbae (lf d : Nat) (k : KT) : ∀ fu : Nat, zamj lf d (evC lf d) k fu = zazj lf d fu k
 | 0 => by funext x0 x2 x3 x9 x10 x11; kernel_rfl
 | fu + 1 => by
  have ih := zbae lf d k fu
  funext x0 x2 x3 x9 x10 x11; simp only [zamj, ih, zaag, zaax (P := PP) Tryz.underlying22 gs3, zaaj (P := PP) ga3, zaao (P := PP) gs3, zaah, zaap (P := PP) nf3, zaat (P := PP) nf3, zato (P := PP) nf3]; kernel_rfl
set_option maxRecDepth 20000 in
theorem zbnb (lf d : Nat) : zasl lf d (evC lf d) (zakr lf d) = zakr lf d := by
  unfold zasl
  refine Eq.trans (zaba ?_) ?_
  · exact (zaam _ _ _ (by intro y0 y2 y3 y9 y10 y11 y12; show _ = _; (try simp only [zaag, zaah]); kernel_rfl))
  rfl
theorem zbmx (lf d : Nat) (a0 : Value) : inside (zavh lf d (evC lf d) a0) = evC lf (d + 1) 141 #[a0] := by
 unfold zavh; (try simp only [zbnb lf d, zbae, zaag, zaeg, zaah]); kernel_rfl

noncomputable def zaov (lf d : Nat) (rec : RT) (a0 a1 a2 : Value) : M Value :=
 insB (zaai PP 3 a1) fun v6n1 =>
 optK (q_lss PP 3 a0 v6n1) fun v7n2 =>
 ifV v7n2 (
  outK [(Value.bool true)]) (
  insB (zaai PP 3 a2) fun v10n3 =>
  optK (q_gtr PP 3 a0 v10n3) fun v11n4 =>
  outK [v11n4])
theorem zbiy (lf d : Nat) (a0 a1 a2 : Value) : inside (zaov lf d (evC lf d) a0 a1 a2) = evC lf (d + 1) 142 #[a0, a1, a2] := by
 unfold zaov; (try simp only [zaag, zaaj (P := PP) ga3, zaah, zacq (P := PP) nf3, zaat (P := PP) nf3]); kernel_rfl

noncomputable def zame (lf d : Nat) (rec : RT) (a0 : Value) : M Value :=
 optK (zacg PP 42 a0 (Value.pointer none)) fun v4n1 =>
 ifV v4n1 (
  outK [(Value.int .i64 0)]) (
  (timed (
   (inside (rec 51 #[a0])).bind fun v6n3 => M.ret v6n3)).bind fun vtn2 =>
  optK (nil2 a0) fun v8n4 =>
  optK (evFA3 PP 85 2 v8n4 2) fun v9n5 =>
  (timed (
   insB (zaai PP 3 v9n5) fun v10n7 => M.ret v10n7)).bind fun vtn6 =>
  optK (q_sub PP 3 vtn2.1 vtn6.1) fun v11n8 =>
  chkT ((!(zauw vtn2.2 vtn6.2) && true) && true) (
   outK [v11n8]))
theorem zbdn (lf d : Nat) (a0 : Value) : inside (zame lf d (evC lf d) a0) = evC lf (d + 1) 144 #[a0] := by
 unfold zame; (try simp only [zaag, zaal (P := PP) zbmq, zaaj (P := PP) ga3, zaah, zabc (P := PP) Tryz.underlying42, zabd (P := PP) nf3]); kernel_rfl

noncomputable def zanm (lf d : Nat) (rec : RT) (a0 a1 : Value) : M Value :=
 optK (nil2 a0) fun v7n1 =>
 optK (evFA3 PP 85 0 v7n1 0) fun v8n2 =>
 insB (zaai PP 9 v8n2) fun v9n3 =>
 optK (q_quo PP 3 a1 (Value.int .i64 8)) fun v11n4 =>
 optK (nil2 a0) fun v13n5 =>
 optK (evFA3 PP 85 1 v13n5 1) fun v14n6 =>
 insB (zaai PP 3 v14n6) fun v15n7 =>
 optK (q_sub PP 3 v11n4 v15n7) fun v16n8 =>
 optK (zbsf PP 9 v9n3 v16n8) fun v17n9 =>
 optK (q_rem PP 3 a1 (Value.int .i64 8)) fun v20n10 =>
 optK (q_sub PP 3 (Value.int .i64 7) v20n10) fun v21n11 =>
 optK (q_shr PP 5 v17n9 v21n11) fun v22n12 =>
 optK (q_and PP 5 v22n12 (Value.int .u8 1)) fun v23n13 =>
 conv3 PP 5 23 .u8 .u32 v23n13 fun v24n14 =>
 outK [v24n14]
theorem zbgz (lf d : Nat) (a0 a1 : Value) : inside (zanm lf d (evC lf d) a0 a1) = evC lf (d + 1) 145 #[a0, a1] := by
 unfold zanm; (try simp only [zaag, zade zcjs, zaal (P := PP) zcbp, zaal (P := PP) zbta, zaaj (P := PP) ga3, zaaj (P := PP) ga9, zcei (P := PP) Tryz.underlying9, zaah, zbky (P := PP) nf5, zato (P := PP) nf3, zbkr (P := PP) nf3, zalq (P := PP) nf5, zabd (P := PP) nf3]); kernel_rfl

noncomputable def zaxx (lf d fu : Nat) (k : KT) (x0 x1 x2 x3 x12 x13 : Value) : M Value := loopK (fun s1 k1 => codeK PP (evC lf d) (gtA 146) lf (codeAt (bodyOf PP 146) [true, true, false, true, false, false]) s1 k1) [0, 1, 2, 3, 12, 13] fu [(0, x0), (1, x1), (2, x2), (3, x3), (12, x12), (13, x13)] k
noncomputable def zajn (lf d : Nat) : KT := contAt PP (evC lf d) (gtA 146) lf (bodyOf PP 146) [true, true, false, true, false] (endK PP (resOf PP 146))
noncomputable def zalk (lf d : Nat) (rec : RT) (k : KT) : Nat → Value → Value → Value → Value → Value → Value → M Value
 | 0, _, _, _, _, _, _ => M.fail
 | fu + 1, x0, x1, x2, x3, x12, x13 =>
  optK (q_lss PP 3 x13 x12) fun v14n14 =>
  ifV v14n14 (
   optK (nil2 x3) fun v18n15 =>
   optK (evFA3 PP 164 2 v18n15 2) fun v19n16 =>
   insB (zaai PP 22 v19n16) fun v20n17 =>
   insB (evBS3 PP 22 1 [(0, x13)]) fun v22n18 =>
   insB (zach PP 22 v20n17 v22n18) fun v23n19 =>
   optK (nil2 x3) fun v24n20 =>
   optK (evFA3 PP 164 2 v24n20 2) fun v25n21 =>
   insB (zaaq PP 22 v25n21 v23n19) fun u22 =>
   optK (nil2 x3) fun v28n23 =>
   optK (evFA3 PP 164 1 v28n23 1) fun v29n24 =>
   insB (zaai PP 22 v29n24) fun v30n25 =>
   insB (evBS3 PP 22 1 [(0, (Value.int .i64 (-1)))]) fun v31n26 =>
   insB (zach PP 22 v30n25 v31n26) fun v32n27 =>
   optK (nil2 x3) fun v33n28 =>
   optK (evFA3 PP 164 1 v33n28 1) fun v34n29 =>
   insB (zaaq PP 22 v34n29 v32n27) fun u30 =>
   optK (q_add PP 3 x13 (Value.int .i64 1)) fun v35n31 =>
   zalk lf d rec k fu x0 x1 x2 x3 x12 v35n31) (
   k (Ex.exit 0) [(0, x0), (1, x1), (2, x2), (3, x3), (12, x12), (13, x13), (14, v14n14)])
noncomputable def zara (lf d : Nat) (rec : RT) (dflt : KT) : KT := (kEx 0 (runCur [0, 1, 2, 3, 12, 13, 14] (fun y0 y1 y2 y3 y12 y13 y14 =>
 optK (nil2 y3) fun v37n32 =>
 optK (evFA3 PP 164 2 v37n32 2) fun v38n33 =>
 insB (zaai PP 22 v38n33) fun v39n34 =>
 (inside (rec 149 #[v39n34, (Value.func (Go.Fn.func 150) #[] #[y1])])).bind fun v41n35 =>
 outK [y3]) (dflt (Ex.exit 0))) dflt)
noncomputable def zasy (lf d : Nat) (rec : RT) (a0 : Value) : M Value :=
 insB (zagy PP 22 a0) fun v1n1 =>
 (timed (
  insB (zaai PP 22 v1n1) fun v5n3 => M.ret v5n3)).bind fun vtn2 =>
 (timed (
  (inside (rec 72 #[vtn2.1])).bind fun v6n5 => M.ret v6n5)).bind fun vtn4 =>
 (timed (
  insB (zaai PP 22 v1n1) fun v7n7 => M.ret v7n7)).bind fun vtn6 =>
 optK (len2 PP #[22] [vtn6.1]) fun v8n8 =>
 insB (evBuildZ PP 164 [Value.slice none 0 0, Value.slice none 0 0, Value.slice none 0 0, Value.int .i64 0] [(0, vtn4.1), (3, v8n8)]) fun v9n9 =>
 (timed (
  insB (zagy PP 164 v9n9) fun v10n11 => M.ret v10n11)).bind fun vtn10 =>
 chkT ((!(zauw vtn4.2 vtn6.2) && true) && true) (
  insB (zaai PP 22 v1n1) fun v11n12 =>
  optK (len2 PP #[22] [v11n12]) fun v12n13 =>
  zalk lf d rec (zara lf d rec (zajn lf d)) lf a0 v1n1 (Value.pointer none) vtn10.1 v12n13 (Value.int .i64 0))
theorem zaxh (lf d : Nat) (k : KT) : ∀ fu : Nat, zalk lf d (evC lf d) k fu = zaxx lf d fu k
 | 0 => by funext x0 x1 x2 x3 x12 x13; kernel_rfl
 | fu + 1 => by
  have ih := zaxh lf d k fu
  funext x0 x1 x2 x3 x12 x13; simp only [zalk, ih, zaag, zacd, zaeh, zaal (P := PP) zbow, zaal (P := PP) zbok, zaaj (P := PP) ga22, zaao (P := PP) gs22, zaah, zaap (P := PP) nf3, zaat (P := PP) nf3]; kernel_rfl
set_option maxRecDepth 20000 in
theorem zblm (lf d : Nat) : zara lf d (evC lf d) (zajn lf d) = zajn lf d := by
  unfold zara
  refine Eq.trans (zaba ?_) ?_
  · exact (zaam _ _ _ (by intro y0 y1 y2 y3 y12 y13 y14; show _ = _; (try simp only [zaag, zaal (P := PP) zbok, zaaj (P := PP) ga22, zaah]); kernel_rfl))
  rfl
theorem zblb (lf d : Nat) (a0 : Value) : inside (zasy lf d (evC lf d) a0) = evC lf (d + 1) 146 #[a0] := by
 unfold zasy; (try simp only [zblm lf d, zaxh, bz164, zaag, zafd, zaaj (P := PP) ga22, zaah]); kernel_rfl

noncomputable def zamf (lf d : Nat) (rec : RT) (a0 : Value) : M Value :=
 optK (nil2 a0) fun v5n1 =>
 optK (evFA3 PP 164 3 v5n1 3) fun v6n2 =>
 insB (zaai PP 3 v6n2) fun v7n3 =>
 optK (nil2 a0) fun v9n4 =>
 optK (evFA3 PP 164 0 v9n4 0) fun v10n5 =>
 insB (zaai PP 22 v10n5) fun v11n6 =>
 optK (len2 PP #[22] [v11n6]) fun v12n7 =>
 optK (q_eql PP 3 v7n3 v12n7) fun v13n8 =>
 ifV v13n8 (
  optK (nil2 a0) fun v48n9 =>
  optK (evFA3 PP 164 2 v48n9 2) fun v49n10 =>
  insB (zaai PP 22 v49n10) fun v50n11 =>
  optK (evIA3 PP 22 1 v50n11 (Value.int .i64 0)) fun v51n12 =>
  insB (zaai PP 3 v51n12) fun v52n13 =>
  optK (nil2 a0) fun v55n14 =>
  optK (evFA3 PP 164 2 v55n14 2) fun v56n15 =>
  insB (zaai PP 22 v56n15) fun v57n16 =>
  zabo PP 22 v57n16 (some (Value.int .i64 1)) none none fun v58n17 =>
  optK (nil2 a0) fun v59n18 =>
  optK (evFA3 PP 164 2 v59n18 2) fun v60n19 =>
  insB (zaaq PP 22 v60n19 v58n17) fun u20 =>
  outK [v52n13]) (
  optK (nil2 a0) fun v16n21 =>
  optK (evFA3 PP 164 2 v16n21 2) fun v17n22 =>
  insB (zaai PP 22 v17n22) fun v18n23 =>
  optK (len2 PP #[22] [v18n23]) fun v19n24 =>
  optK (q_gtr PP 3 v19n24 (Value.int .i64 0)) fun v20n25 =>
  ifV v20n25 (
   optK (nil2 a0) fun v23n26 =>
   optK (evFA3 PP 164 0 v23n26 0) fun v24n27 =>
   insB (zaai PP 22 v24n27) fun v25n28 =>
   optK (nil2 a0) fun v27n29 =>
   optK (evFA3 PP 164 2 v27n29 2) fun v28n30 =>
   insB (zaai PP 22 v28n30) fun v29n31 =>
   optK (evIA3 PP 22 1 v29n31 (Value.int .i64 0)) fun v30n32 =>
   insB (zaai PP 3 v30n32) fun v31n33 =>
   optK (evIA3 PP 22 1 v25n28 v31n33) fun v32n34 =>
   insB (zaai PP 3 v32n34) fun v33n35 =>
   optK (nil2 a0) fun v35n36 =>
   optK (evFA3 PP 164 0 v35n36 0) fun v36n37 =>
   insB (zaai PP 22 v36n37) fun v37n38 =>
   optK (nil2 a0) fun v39n39 =>
   optK (evFA3 PP 164 3 v39n39 3) fun v40n40 =>
   insB (zaai PP 3 v40n40) fun v41n41 =>
   optK (evIA3 PP 22 1 v37n38 v41n41) fun v42n42 =>
   insB (zaai PP 3 v42n42) fun v43n43 =>
   optK (q_leq PP 3 v33n35 v43n43) fun v44n44 =>
   ifV v44n44 (
    optK (nil2 a0) fun v48n45 =>
    optK (evFA3 PP 164 2 v48n45 2) fun v49n46 =>
    insB (zaai PP 22 v49n46) fun v50n47 =>
    optK (evIA3 PP 22 1 v50n47 (Value.int .i64 0)) fun v51n48 =>
    insB (zaai PP 3 v51n48) fun v52n49 =>
    optK (nil2 a0) fun v55n50 =>
    optK (evFA3 PP 164 2 v55n50 2) fun v56n51 =>
    insB (zaai PP 22 v56n51) fun v57n52 =>
    zabo PP 22 v57n52 (some (Value.int .i64 1)) none none fun v58n53 =>
    optK (nil2 a0) fun v59n54 =>
    optK (evFA3 PP 164 2 v59n54 2) fun v60n55 =>
    insB (zaaq PP 22 v60n55 v58n53) fun u56 =>
    outK [v52n49]) (
    optK (nil2 a0) fun v63n57 =>
    optK (evFA3 PP 164 3 v63n57 3) fun v64n58 =>
    insB (zaai PP 3 v64n58) fun v65n59 =>
    optK (q_add PP 3 v65n59 (Value.int .i64 1)) fun v66n60 =>
    optK (nil2 a0) fun v67n61 =>
    optK (evFA3 PP 164 3 v67n61 3) fun v68n62 =>
    insB (zaaq PP 3 v68n62 v66n60) fun u63 =>
    optK (nil2 a0) fun v70n64 =>
    optK (evFA3 PP 164 3 v70n64 3) fun v71n65 =>
    insB (zaai PP 3 v71n65) fun v72n66 =>
    optK (q_sub PP 3 v72n66 (Value.int .i64 1)) fun v73n67 =>
    outK [v73n67])) (
   optK (nil2 a0) fun v63n68 =>
   optK (evFA3 PP 164 3 v63n68 3) fun v64n69 =>
   insB (zaai PP 3 v64n69) fun v65n70 =>
   optK (q_add PP 3 v65n70 (Value.int .i64 1)) fun v66n71 =>
   optK (nil2 a0) fun v67n72 =>
   optK (evFA3 PP 164 3 v67n72 3) fun v68n73 =>
   insB (zaaq PP 3 v68n73 v66n71) fun u74 =>
   optK (nil2 a0) fun v70n75 =>
   optK (evFA3 PP 164 3 v70n75 3) fun v71n76 =>
   insB (zaai PP 3 v71n76) fun v72n77 =>
   optK (q_sub PP 3 v72n77 (Value.int .i64 1)) fun v73n78 =>
   outK [v73n78]))
theorem zbev (lf d : Nat) (a0 : Value) : inside (zamf lf d (evC lf d) a0) = evC lf (d + 1) 147 #[a0] := by
 unfold zamf; (try simp only [zaag, zaal (P := PP) zbpd, zaal (P := PP) zbok, zaal (P := PP) zcht, zaax (P := PP) Tryz.underlying22 gs3, zaaj (P := PP) ga22, zaaj (P := PP) ga3, zaao (P := PP) gs22, zaao (P := PP) gs3, zaah, zaap (P := PP) nf3, zabk (P := PP) nf3, zacq (P := PP) nf3, zafx (P := PP) nf3, zabd (P := PP) nf3]); kernel_rfl

noncomputable def zank (lf d : Nat) (rec : RT) (a0 a1 a2 : Value) : M Value :=
 optK (nil2 a0) fun v7n1 =>
 optK (evFA3 PP 164 1 v7n1 1) fun v8n2 =>
 insB (zaai PP 22 v8n2) fun v9n3 =>
 optK (nil2 a0) fun v12n4 =>
 optK (evFA3 PP 164 0 v12n4 0) fun v13n5 =>
 insB (zaai PP 22 v13n5) fun v14n6 =>
 optK (len2 PP #[22] [v14n6]) fun v15n7 =>
 optK (evIA3 PP 22 1 v9n3 a1) fun v16n8 =>
 insB (zaaq PP 3 v16n8 v15n7) fun u9 =>
 optK (nil2 a0) fun v18n10 =>
 optK (evFA3 PP 164 1 v18n10 1) fun v19n11 =>
 insB (zaai PP 22 v19n11) fun v20n12 =>
 optK (nil2 a0) fun v23n13 =>
 optK (evFA3 PP 164 0 v23n13 0) fun v24n14 =>
 insB (zaai PP 22 v24n14) fun v25n15 =>
 optK (len2 PP #[22] [v25n15]) fun v26n16 =>
 optK (evIA3 PP 22 1 v20n12 a2) fun v27n17 =>
 insB (zaaq PP 3 v27n17 v26n16) fun u18 =>
 optK (nil2 a0) fun v30n19 =>
 optK (evFA3 PP 164 0 v30n19 0) fun v31n20 =>
 insB (zaai PP 22 v31n20) fun v32n21 =>
 optK (nil2 a0) fun v34n22 =>
 optK (evFA3 PP 164 0 v34n22 0) fun v35n23 =>
 insB (zaai PP 22 v35n23) fun v36n24 =>
 optK (evIA3 PP 22 1 v36n24 a1) fun v38n25 =>
 insB (zaai PP 3 v38n25) fun v39n26 =>
 optK (nil2 a0) fun v41n27 =>
 optK (evFA3 PP 164 0 v41n27 0) fun v42n28 =>
 insB (zaai PP 22 v42n28) fun v43n29 =>
 optK (evIA3 PP 22 1 v43n29 a2) fun v45n30 =>
 insB (zaai PP 3 v45n30) fun v46n31 =>
 optK (q_add PP 3 v39n26 v46n31) fun v47n32 =>
 insB (evBS3 PP 22 1 [(0, v47n32)]) fun v48n33 =>
 insB (zach PP 22 v32n21 v48n33) fun v49n34 =>
 optK (nil2 a0) fun v50n35 =>
 optK (evFA3 PP 164 0 v50n35 0) fun v51n36 =>
 insB (zaaq PP 22 v51n36 v49n34) fun u37 =>
 optK (nil2 a0) fun v54n38 =>
 optK (evFA3 PP 164 1 v54n38 1) fun v55n39 =>
 insB (zaai PP 22 v55n39) fun v56n40 =>
 insB (evBS3 PP 22 1 [(0, (Value.int .i64 (-1)))]) fun v57n41 =>
 insB (zach PP 22 v56n40 v57n41) fun v58n42 =>
 optK (nil2 a0) fun v59n43 =>
 optK (evFA3 PP 164 1 v59n43 1) fun v60n44 =>
 insB (zaaq PP 22 v60n44 v58n42) fun u45 =>
 outK []
theorem zbgs (lf d : Nat) (a0 a1 a2 : Value) : inside (zank lf d (evC lf d) a0 a1 a2) = evC lf (d + 1) 148 #[a0, a1, a2] := by
 unfold zank; (try simp only [zaag, zacd, zaeh, zaal (P := PP) zbpd, zaal (P := PP) zbow, zaax (P := PP) Tryz.underlying22 gs3, zaaj (P := PP) ga22, zaaj (P := PP) ga3, zaao (P := PP) gs22, zaao (P := PP) gs3, zaah, zaap (P := PP) nf3]); kernel_rfl

noncomputable def zaeb (lf d : Nat) (rec : RT) (a0 a1 : Value) : M Value :=
 optK (len2 PP #[22] [a0]) fun v6n1 =>
 (inside (rec 152 #[a0, v6n1, a1])).bind fun v8n2 =>
 outK []
theorem zaoa (lf d : Nat) (a0 a1 : Value) : inside (zaeb lf d (evC lf d) a0 a1) = evC lf (d + 1) 149 #[a0, a1] := by
 unfold zaeb; (try simp only [zaag, zaah]); kernel_rfl

noncomputable def zaow (lf d : Nat) (rec : RT) (a0 a1 a2 : Value) : M Value :=
 insB (zaai PP 22 a2) fun v6n1 =>
 optK (evIA3 PP 22 1 v6n1 a0) fun v8n2 =>
 insB (zaai PP 3 v8n2) fun v9n3 =>
 insB (zaai PP 22 a2) fun v10n4 =>
 optK (evIA3 PP 22 1 v10n4 a1) fun v12n5 =>
 insB (zaai PP 3 v12n5) fun v13n6 =>
 (inside (rec 151 #[v9n3, v13n6])).bind fun v14n7 =>
 outK [v14n7]
theorem zbiz (lf d : Nat) (a0 a1 a2 : Value) : inside (zaow lf d (evC lf d) a0 a1 a2) = evC lf (d + 1) 150 #[a0, a1, a2] := by
 unfold zaow; (try simp only [zaag, zaax (P := PP) Tryz.underlying22 gs3, zaaj (P := PP) ga22, zaaj (P := PP) ga3, zaah]); kernel_rfl

noncomputable def zanh (lf d : Nat) (rec : RT) (a0 a1 : Value) : M Value :=
 (inside (rec 153 #[a0])).bind fun v8n1 =>
 (inside (rec 153 #[a1])).bind fun v10n2 =>
 ifV v8n1 (
  ifV v10n2 (
   outK [(Value.int .i64 0)]) (
   outK [(Value.int .i64 (-1))])) (
  ifV v10n2 (
   outK [(Value.int .i64 1)]) (
   optK (q_lss PP 3 a0 a1) fun v16n3 =>
   ifV v16n3 (
    outK [(Value.int .i64 (-1))]) (
    optK (q_gtr PP 3 a0 a1) fun v19n4 =>
    ifV v19n4 (
     outK [(Value.int .i64 1)]) (
     outK [(Value.int .i64 0)]))))
theorem zbfy (lf d : Nat) (a0 a1 : Value) : inside (zanh lf d (evC lf d) a0 a1) = evC lf (d + 1) 151 #[a0, a1] := by
 unfold zanh; (try simp only [zaag, zaah, zacq (P := PP) nf3, zaat (P := PP) nf3]); kernel_rfl

noncomputable def zaiv (lf d fu : Nat) (k : KT) (x0 x1 x2 x6 x7 x8 : Value) : M Value := loopK (fun s1 k1 => codeK PP (evC lf d) (gtA 152) lf (codeAt (bodyOf PP 152) [true, true, false, false, false]) s1 k1) [0, 1, 2, 6, 7, 8] fu [(0, x0), (1, x1), (2, x2), (6, x6), (7, x7), (8, x8)] k
noncomputable def zadh (lf d : Nat) : KT := contAt PP (evC lf d) (gtA 152) lf (bodyOf PP 152) [true, true, false, false] (endK PP (resOf PP 152))
noncomputable def zaey (lf d fu : Nat) (k : KT) (x0 x1 x2 x6 x7 x8 x13 : Value) : M Value := loopK (fun s1 k1 => codeK PP (evC lf d) (gtA 152) lf (codeAt (bodyOf PP 152) [true, true, true, true, false, false]) s1 k1) [0, 1, 2, 6, 7, 8, 13] fu [(0, x0), (1, x1), (2, x2), (6, x6), (7, x7), (8, x8), (13, x13)] k
noncomputable def zadl (lf d : Nat) : KT := contAt PP (evC lf d) (gtA 152) lf (bodyOf PP 152) [true, true, true, true, false] (endK PP (resOf PP 152))
noncomputable def zais (lf d fu : Nat) (k : KT) (x0 x1 x2 x6 x7 x8 x13 x30 : Value) : M Value := loopK (fun s1 k1 => codeK PP (evC lf d) (gtA 152) lf (codeAt (bodyOf PP 152) [true, true, true, true, false, false, true, false, true, false, false, false]) s1 k1) [0, 1, 2, 6, 7, 8, 13, 30] fu [(0, x0), (1, x1), (2, x2), (6, x6), (7, x7), (8, x8), (13, x13), (30, x30)] k
noncomputable def zadj (lf d fu : Nat) (k : KT) : KT := contAt PP (evC lf d) (gtA 152) lf (codeAt (bodyOf PP 152) [true, true, true, true, false, false]) [true, false, true, false, false] (againK (fun s1 => loopK (fun s1 k1 => codeK PP (evC lf d) (gtA 152) lf (codeAt (bodyOf PP 152) [true, true, true, true, false, false]) s1 k1) [0, 1, 2, 6, 7, 8, 13] fu (s1.keep [0, 1, 2, 6, 7, 8, 13]) k) k)
noncomputable def zadr (lf d : Nat) (rec : RT) (k : KT) : Nat → Value → Value → Value → Value → Value → Value → M Value
 | 0, _, _, _, _, _, _ => M.fail
 | fu + 1, x0, x1, x2, x6, x7, x8 =>
  optK (q_leq PP 3 x8 x1) fun v13n1 =>
  ifV v13n1 (
   (inside (rec 154 #[x0, x7, x8, x2])).bind fun v18n2 =>
   optK (q_add PP 3 x8 x6) fun v22n3 =>
   zadr lf d rec k fu x0 x1 x2 x6 x8 v22n3) (
   k (Ex.exit 0) [(0, x0), (1, x1), (2, x2), (6, x6), (7, x7), (8, x8), (13, v13n1)])
noncomputable def zafk (lf d : Nat) (rec : RT) (dflt : KT) : KT := (kEx 2 (runCur [0, 1, 2, 6, 7, 8, 13, 30] (fun y0 y1 y2 y6 y7 y8 y13 y30 =>
 outK []) (dflt (Ex.exit 2))) dflt)
noncomputable def zadu (lf d : Nat) (rec : RT) (k : KT) : Nat → Value → Value → Value → Value → Value → Value → Value → Value → M Value
 | 0, _, _, _, _, _, _, _, _ => M.fail
 | fu + 1, x0, x1, x2, x6, x7, x8, x13, x30 =>
  optK (q_leq PP 3 x8 x1) fun v35n7 =>
  ifV v35n7 (
   optK (q_add PP 3 x7 x6) fun v40n8 =>
   (inside (rec 155 #[x0, x7, v40n8, x8, x2])).bind fun v43n9 =>
   optK (q_mul PP 3 (Value.int .i64 2) x6) fun v47n10 =>
   optK (q_add PP 3 x8 v47n10) fun v48n11 =>
   zadu lf d rec k fu x0 x1 x2 x6 x8 v48n11 x13 x30) (
   k (Ex.exit 4) [(0, x0), (1, x1), (2, x2), (6, x6), (7, x7), (8, x8), (13, x13), (30, x30), (35, v35n7)])
noncomputable def zafj (lf d : Nat) (rec : RT) (fu : Nat) (k : KT) (again : Value → Value → Value → Value → Value → Value → Value → M Value) (dflt : KT) : KT := (kEx 4 (runCur [0, 1, 2, 6, 7, 8, 13, 30, 35] (fun y0 y1 y2 y6 y7 y8 y13 y30 y35 =>
 optK (q_add PP 3 y7 y6) fun v51n12 =>
 optK (q_lss PP 3 v51n12 y1) fun v54n13 =>
 ifV v54n13 (
  (inside (rec 155 #[y0, y7, v51n12, y1, y2])).bind fun v60n14 =>
  optK (q_mul PP 3 y6 (Value.int .i64 2)) fun v62n15 =>
  again y0 y1 y2 v62n15 y7 y8 y13) (
  optK (q_mul PP 3 y6 (Value.int .i64 2)) fun v62n16 =>
  again y0 y1 y2 v62n16 y7 y8 y13)) (dflt (Ex.exit 4))) dflt)
noncomputable def zads (lf d : Nat) (rec : RT) (k : KT) : Nat → Value → Value → Value → Value → Value → Value → Value → M Value
 | 0, _, _, _, _, _, _, _ => M.fail
 | fu + 1, x0, x1, x2, x6, x7, x8, x13 =>
  optK (q_lss PP 3 x6 x1) fun v30n5 =>
  ifV v30n5 (
   optK (q_mul PP 3 (Value.int .i64 2) x6) fun v32n6 =>
   zadu lf d rec (zafj lf d rec fu k (zads lf d rec k fu) (zadj lf d fu k)) lf x0 x1 x2 x6 (Value.int .i64 0) v32n6 x13 v30n5) (
   k (Ex.exit 2) [(0, x0), (1, x1), (2, x2), (6, x6), (7, x7), (8, x8), (13, x13), (30, v30n5)])
noncomputable def zafl (lf d : Nat) (rec : RT) (dflt : KT) : KT := (kEx 0 (runCur [0, 1, 2, 6, 7, 8, 13] (fun y0 y1 y2 y6 y7 y8 y13 =>
 (inside (rec 154 #[y0, y7, y1, y2])).bind fun v27n4 =>
 zads lf d rec (zafk lf d rec (zadl lf d)) lf y0 y1 y2 y6 y7 y8 y13) (dflt (Ex.exit 0))) dflt)
noncomputable def zafv (lf d : Nat) (rec : RT) (a0 a1 a2 : Value) : M Value :=
 zadr lf d rec (zafl lf d rec (zadh lf d)) lf a0 a1 a2 (Value.int .i64 20) (Value.int .i64 0) (Value.int .i64 20)
theorem zair (lf d : Nat) (k : KT) : ∀ fu : Nat, zadr lf d (evC lf d) k fu = zaiv lf d fu k
 | 0 => by funext x0 x1 x2 x6 x7 x8; kernel_rfl
 | fu + 1 => by
  have ih := zair lf d k fu
  funext x0 x1 x2 x6 x7 x8; simp only [zadr, ih, zaag, zaah, zaap (P := PP) nf3, zafx (P := PP) nf3]; kernel_rfl
set_option maxRecDepth 20000 in
theorem zatq (lf d : Nat) : zafk lf d (evC lf d) (zadl lf d) = zadl lf d := by
  unfold zafk
  refine Eq.trans (zaba ?_) ?_
  · exact (zaam _ _ _ (by intro y0 y1 y2 y6 y7 y8 y13 y30; show _ = _; (try simp only [zaag, zaah]); kernel_rfl))
  rfl
theorem zaix (lf d : Nat) (k : KT) : ∀ fu : Nat, zadu lf d (evC lf d) k fu = zais lf d fu k
 | 0 => by funext x0 x1 x2 x6 x7 x8 x13 x30; kernel_rfl
 | fu + 1 => by
  have ih := zaix lf d k fu
  funext x0 x1 x2 x6 x7 x8 x13 x30; simp only [zadu, ih, zaag, zaah, zaap (P := PP) nf3, zafx (P := PP) nf3, zain (P := PP) nf3]; kernel_rfl
set_option maxRecDepth 20000 in
theorem zasm (lf d fu : Nat) (k : KT) (again : Value → Value → Value → Value → Value → Value → Value → M Value) (ha : again = zaey lf d fu k) : zafj lf d (evC lf d) fu k again (zadj lf d fu k) = zadj lf d fu k := by
  subst ha
  unfold zafj
  refine Eq.trans (zaba ?_) ?_
  · exact (zaam _ _ _ (by intro y0 y1 y2 y6 y7 y8 y13 y30 y35; show _ = _; (try simp only [zaag, zaah, zaap (P := PP) nf3, zaat (P := PP) nf3, zain (P := PP) nf3]); kernel_rfl))
  rfl
theorem zaja (lf d : Nat) (k : KT) : ∀ fu : Nat, zads lf d (evC lf d) k fu = zaey lf d fu k
 | 0 => by funext x0 x1 x2 x6 x7 x8 x13; kernel_rfl
 | fu + 1 => by
  have ih := zaja lf d k fu
  funext x0 x1 x2 x6 x7 x8 x13; simp only [zads, ih, zasm lf d fu k _ rfl, zaix, zaag, zaah, zaat (P := PP) nf3, zain (P := PP) nf3]; kernel_rfl
set_option maxRecDepth 20000 in
theorem zata (lf d : Nat) : zafl lf d (evC lf d) (zadh lf d) = zadh lf d := by
  unfold zafl
  refine Eq.trans (zaba ?_) ?_
  · exact (zaam _ _ _ (by intro y0 y1 y2 y6 y7 y8 y13; show _ = _; (try simp only [zatq lf d, zaja, zaag, zaah]); kernel_rfl))
  rfl
theorem zast (lf d : Nat) (a0 a1 a2 : Value) : inside (zafv lf d (evC lf d) a0 a1 a2) = evC lf (d + 1) 152 #[a0, a1, a2] := by
 unfold zafv; (try simp only [zata lf d, zair, zaag, zaah]); kernel_rfl

noncomputable def zaqj (lf d : Nat) (rec : RT) (a0 : Value) : M Value :=
 optK (q_neq PP 3 a0 a0) fun v5n1 =>
 outK [v5n1]
theorem zbjm (lf d : Nat) (a0 : Value) : inside (zaqj lf d (evC lf d) a0) = evC lf (d + 1) 153 #[a0] := by
 unfold zaqj; (try simp only [zaag, zaah, zabg (P := PP) nf3]); kernel_rfl

noncomputable def zadk (lf d fu : Nat) (k : KT) (x0 x1 x2 x3 x8 : Value) : M Value := loopK (fun s1 k1 => codeK PP (evC lf d) (gtA 154) lf (codeAt (bodyOf PP 154) [true, false, false]) s1 k1) [0, 1, 2, 3, 8] fu [(0, x0), (1, x1), (2, x2), (3, x3), (8, x8)] k
noncomputable def zabu (lf d : Nat) : KT := contAt PP (evC lf d) (gtA 154) lf (bodyOf PP 154) [true, false] (endK PP (resOf PP 154))
noncomputable def zabj (lf d fu : Nat) (k : KT) (x0 x1 x2 x3 x8 x9 x14 : Value) : M Value := loopK (fun s1 k1 => codeK PP (evC lf d) (gtA 154) lf (codeAt (bodyOf PP 154) [true, false, false, true, false, false, true, false, false]) s1 k1) [0, 1, 2, 3, 8, 9, 14] fu [(0, x0), (1, x1), (2, x2), (3, x3), (8, x8), (9, x9), (14, x14)] k
noncomputable def zabt (lf d fu : Nat) (k : KT) : KT := contAt PP (evC lf d) (gtA 154) lf (codeAt (bodyOf PP 154) [true, false, false]) [true, false, false, true, false] (againK (fun s1 => loopK (fun s1 k1 => codeK PP (evC lf d) (gtA 154) lf (codeAt (bodyOf PP 154) [true, false, false]) s1 k1) [0, 1, 2, 3, 8] fu (s1.keep [0, 1, 2, 3, 8]) k) k)
noncomputable def zadq (lf d : Nat) (rec : RT) (dflt : KT) : KT := (kEx 0 (runCur [0, 1, 2, 3, 8, 14] (fun y0 y1 y2 y3 y8 y14 =>
 outK []) (dflt (Ex.exit 0))) dflt)
noncomputable def zaby (lf d : Nat) (rec : RT) (k : KT) : Nat → Value → Value → Value → Value → Value → Value → Value → M Value
 | 0, _, _, _, _, _, _, _ => M.fail
 | fu + 1, x0, x1, x2, x3, x8, x9, x14 =>
  optK (q_gtr PP 3 x9 x1) fun v20n3 =>
  ifV v20n3 (
   optK (evIA3 PP 22 1 x0 x9) fun v25n4 =>
   insB (zaai PP 3 v25n4) fun v26n5 =>
   optK (q_sub PP 3 x9 (Value.int .i64 1)) fun v29n6 =>
   optK (evIA3 PP 22 1 x0 v29n6) fun v30n7 =>
   insB (zaai PP 3 v30n7) fun v31n8 =>
   callV PP rec x3 [v26n5, v31n8] fun v32n9 =>
   optK (q_lss PP 3 v32n9 (Value.int .i64 0)) fun v33n10 =>
   ifV v33n10 (
    optK (q_sub PP 3 x9 (Value.int .i64 1)) fun v41n11 =>
    optK (q_sub PP 3 x9 (Value.int .i64 1)) fun v44n12 =>
    optK (evIA3 PP 22 1 x0 v44n12) fun v45n13 =>
    insB (zaai PP 3 v45n13) fun v46n14 =>
    optK (evIA3 PP 22 1 x0 x9) fun v49n15 =>
    insB (zaai PP 3 v49n15) fun v50n16 =>
    optK (evIA3 PP 22 1 x0 x9) fun v51n17 =>
    insB (zaaq PP 3 v51n17 v46n14) fun u18 =>
    optK (evIA3 PP 22 1 x0 v41n11) fun v52n19 =>
    insB (zaaq PP 3 v52n19 v50n16) fun u20 =>
    optK (q_sub PP 3 x9 (Value.int .i64 1)) fun v36n21 =>
    zaby lf d rec k fu x0 x1 x2 x3 x8 v36n21 x14) (
    k (Ex.exit 2) [(0, x0), (1, x1), (2, x2), (3, x3), (8, x8), (9, x9), (14, x14), (34, v33n10)])) (
   k (Ex.exit 2) [(0, x0), (1, x1), (2, x2), (3, x3), (8, x8), (9, x9), (14, x14), (34, (Value.bool false))])
noncomputable def zado (lf d : Nat) (rec : RT) (fu : Nat) (k : KT) (again : Value → Value → Value → Value → Value → M Value) (dflt : KT) : KT := (kEx 2 (runCur [0, 1, 2, 3, 8, 9, 14, 34] (fun y0 y1 y2 y3 y8 y9 y14 y34 =>
 optK (q_add PP 3 y8 (Value.int .i64 1)) fun v16n22 =>
 again y0 y1 y2 y3 v16n22) (dflt (Ex.exit 2))) dflt)
noncomputable def zabz (lf d : Nat) (rec : RT) (k : KT) : Nat → Value → Value → Value → Value → Value → M Value
 | 0, _, _, _, _, _ => M.fail
 | fu + 1, x0, x1, x2, x3, x8 =>
  optK (q_lss PP 3 x8 x2) fun v14n2 =>
  ifV v14n2 (
   zaby lf d rec (zado lf d rec fu k (zabz lf d rec k fu) (zabt lf d fu k)) lf x0 x1 x2 x3 x8 x8 v14n2) (
   k (Ex.exit 0) [(0, x0), (1, x1), (2, x2), (3, x3), (8, x8), (14, v14n2)])
noncomputable def zady (lf d : Nat) (rec : RT) (a0 a1 a2 a3 : Value) : M Value :=
 optK (q_add PP 3 a1 (Value.int .i64 1)) fun v11n1 =>
 zabz lf d rec (zadq lf d rec (zabu lf d)) lf a0 a1 a2 a3 v11n1
set_option maxRecDepth 20000 in
theorem zaml (lf d : Nat) : zadq lf d (evC lf d) (zabu lf d) = zabu lf d := by
  unfold zadq
  refine Eq.trans (zaba ?_) ?_
  · exact (zaam _ _ _ (by intro y0 y1 y2 y3 y8 y14; show _ = _; (try simp only [zaag, zaah]); kernel_rfl))
  rfl
theorem zafo (lf d : Nat) (k : KT) : ∀ fu : Nat, zaby lf d (evC lf d) k fu = zabj lf d fu k
 | 0 => by funext x0 x1 x2 x3 x8 x9 x14; kernel_rfl
 | fu + 1 => by
  have ih := zafo lf d k fu
  funext x0 x1 x2 x3 x8 x9 x14; simp only [zaby, ih, zaag, zaax (P := PP) Tryz.underlying22 gs3, zaaj (P := PP) ga3, zaao (P := PP) gs3, zaah, zacq (P := PP) nf3, zaat (P := PP) nf3, zabd (P := PP) nf3]; kernel_rfl
set_option maxRecDepth 20000 in
theorem zamu (lf d fu : Nat) (k : KT) (again : Value → Value → Value → Value → Value → M Value) (ha : again = zadk lf d fu k) : zado lf d (evC lf d) fu k again (zabt lf d fu k) = zabt lf d fu k := by
  subst ha
  unfold zado
  refine Eq.trans (zaba ?_) ?_
  · exact (zaam _ _ _ (by intro y0 y1 y2 y3 y8 y9 y14 y34; show _ = _; (try simp only [zaag, zaah, zaap (P := PP) nf3]); kernel_rfl))
  rfl
theorem zafm (lf d : Nat) (k : KT) : ∀ fu : Nat, zabz lf d (evC lf d) k fu = zadk lf d fu k
 | 0 => by funext x0 x1 x2 x3 x8; kernel_rfl
 | fu + 1 => by
  have ih := zafm lf d k fu
  funext x0 x1 x2 x3 x8; simp only [zabz, ih, zamu lf d fu k _ rfl, zafo, zaag, zaah, zaat (P := PP) nf3]; kernel_rfl
theorem zamh (lf d : Nat) (a0 a1 a2 a3 : Value) : inside (zady lf d (evC lf d) a0 a1 a2 a3) = evC lf (d + 1) 154 #[a0, a1, a2, a3] := by
 unfold zady; (try simp only [zaml lf d, zafm, zaag, zaah, zaap (P := PP) nf3]); kernel_rfl

noncomputable def zaie (lf d fu : Nat) (k : KT) (x0 x1 x2 x3 x4 x10 x11 x28 : Value) : M Value := loopK (fun s1 k1 => codeK PP (evC lf d) (gtA 155) lf (codeAt (bodyOf PP 155) [false, true, false, true, true, false, false, false]) s1 k1) [0, 1, 2, 3, 4, 10, 11, 28] fu [(0, x0), (1, x1), (2, x2), (3, x3), (4, x4), (10, x10), (11, x11), (28, x28)] k
noncomputable def zacw (lf d : Nat) : KT := contAt PP (evC lf d) (gtA 155) lf (bodyOf PP 155) [false, true, false, true, true, false, false] (endK PP (resOf PP 155))
noncomputable def zahw (lf d fu : Nat) (k : KT) (x0 x1 x2 x3 x4 x14 x15 x28 x80 : Value) : M Value := loopK (fun s1 k1 => codeK PP (evC lf d) (gtA 155) lf (codeAt (bodyOf PP 155) [true, false, true, false, true, true, false, false, false]) s1 k1) [0, 1, 2, 3, 4, 14, 15, 28, 80] fu [(0, x0), (1, x1), (2, x2), (3, x3), (4, x4), (14, x14), (15, x15), (28, x28), (80, x80)] k
noncomputable def zact (lf d : Nat) : KT := contAt PP (evC lf d) (gtA 155) lf (bodyOf PP 155) [true, false, true, false, true, true, false, false] (endK PP (resOf PP 155))
noncomputable def zahz (lf d fu : Nat) (k : KT) (x0 x1 x2 x3 x4 x18 x19 x20 x21 x22 x28 x80 x140 : Value) : M Value := loopK (fun s1 k1 => codeK PP (evC lf d) (gtA 155) lf (codeAt (bodyOf PP 155) [true, true, true, true, true, true, true, false, false, false]) s1 k1) [0, 1, 2, 3, 4, 18, 19, 20, 21, 22, 28, 80, 140] fu [(0, x0), (1, x1), (2, x2), (3, x3), (4, x4), (18, x18), (19, x19), (20, x20), (21, x21), (22, x22), (28, x28), (80, x80), (140, x140)] k
noncomputable def zabq (lf d : Nat) : KT := contAt PP (evC lf d) (gtA 155) lf (bodyOf PP 155) [true, true, true, true, true, true, true, false, false] (endK PP (resOf PP 155))
noncomputable def zaig (lf d fu : Nat) (k : KT) (x0 x1 x2 x3 x4 x10 x11 x13 x28 x33 : Value) : M Value := loopK (fun s1 k1 => codeK PP (evC lf d) (gtA 155) lf (codeAt (bodyOf PP 155) [false, true, false, true, true, true, false, true, false, false]) s1 k1) [0, 1, 2, 3, 4, 10, 11, 13, 28, 33] fu [(0, x0), (1, x1), (2, x2), (3, x3), (4, x4), (10, x10), (11, x11), (13, x13), (28, x28), (33, x33)] k
noncomputable def zacx (lf d : Nat) : KT := contAt PP (evC lf d) (gtA 155) lf (bodyOf PP 155) [false, true, false, true, true, true, false, true, false] (endK PP (resOf PP 155))
noncomputable def zaid (lf d fu : Nat) (k : KT) (x0 x1 x2 x3 x4 x14 x15 x17 x28 x80 x85 : Value) : M Value := loopK (fun s1 k1 => codeK PP (evC lf d) (gtA 155) lf (codeAt (bodyOf PP 155) [true, false, true, false, true, true, true, false, true, false, false]) s1 k1) [0, 1, 2, 3, 4, 14, 15, 17, 28, 80, 85] fu [(0, x0), (1, x1), (2, x2), (3, x3), (4, x4), (14, x14), (15, x15), (17, x17), (28, x28), (80, x80), (85, x85)] k
noncomputable def zacy (lf d : Nat) : KT := contAt PP (evC lf d) (gtA 155) lf (bodyOf PP 155) [true, false, true, false, true, true, true, false, true, false] (endK PP (resOf PP 155))
noncomputable def zabw (lf d : Nat) (rec : RT) (k : KT) : Nat → Value → Value → Value → Value → Value → Value → Value → Value → M Value
 | 0, _, _, _, _, _, _, _, _ => M.fail
 | fu + 1, x0, x1, x2, x3, x4, x10, x11, x28 =>
  optK (q_lss PP 3 x10 x11) fun v33n14 =>
  ifV v33n14 (
   optK (q_add PP 3 x10 x11) fun v36n15 =>
   conv3 PP 3 157 .i64 .u64 v36n15 fun v37n16 =>
   optK (q_shr PP 157 v37n16 (Value.int .u64 1)) fun v38n17 =>
   conv3 PP 157 3 .u64 .i64 v38n17 fun v39n18 =>
   optK (evIA3 PP 22 1 x0 v39n18) fun v43n19 =>
   insB (zaai PP 3 v43n19) fun v44n20 =>
   optK (evIA3 PP 22 1 x0 x1) fun v47n21 =>
   insB (zaai PP 3 v47n21) fun v48n22 =>
   callV PP rec x4 [v44n20, v48n22] fun v49n23 =>
   optK (q_lss PP 3 v49n23 (Value.int .i64 0)) fun v50n24 =>
   ifV v50n24 (
    optK (q_add PP 3 v39n18 (Value.int .i64 1)) fun v52n25 =>
    zabw lf d rec k fu x0 x1 x2 x3 x4 v52n25 x11 x28) (
    zabw lf d rec k fu x0 x1 x2 x3 x4 x10 v39n18 x28)) (
   k (Ex.exit 0) [(0, x0), (1, x1), (2, x2), (3, x3), (4, x4), (10, x10), (11, x11), (28, x28), (33, v33n14)])
noncomputable def zabv (lf d : Nat) (rec : RT) (k : KT) : Nat → Value → Value → Value → Value → Value → Value → Value → Value → Value → M Value
 | 0, _, _, _, _, _, _, _, _, _ => M.fail
 | fu + 1, x0, x1, x2, x3, x4, x14, x15, x28, x80 =>
  optK (q_lss PP 3 x14 x15) fun v85n26 =>
  ifV v85n26 (
   optK (q_add PP 3 x14 x15) fun v88n27 =>
   conv3 PP 3 157 .i64 .u64 v88n27 fun v89n28 =>
   optK (q_shr PP 157 v89n28 (Value.int .u64 1)) fun v90n29 =>
   conv3 PP 157 3 .u64 .i64 v90n29 fun v91n30 =>
   optK (evIA3 PP 22 1 x0 x2) fun v95n31 =>
   insB (zaai PP 3 v95n31) fun v96n32 =>
   optK (evIA3 PP 22 1 x0 v91n30) fun v99n33 =>
   insB (zaai PP 3 v99n33) fun v100n34 =>
   callV PP rec x4 [v96n32, v100n34] fun v101n35 =>
   optK (q_lss PP 3 v101n35 (Value.int .i64 0)) fun v102n36 =>
   optK (un3 PP .not v102n36) fun v103n37 =>
   ifV v103n37 (
    optK (q_add PP 3 v91n30 (Value.int .i64 1)) fun v105n38 =>
    zabv lf d rec k fu x0 x1 x2 x3 x4 v105n38 x15 x28 x80) (
    zabv lf d rec k fu x0 x1 x2 x3 x4 x14 v91n30 x28 x80)) (
   k (Ex.exit 4) [(0, x0), (1, x1), (2, x2), (3, x3), (4, x4), (14, x14), (15, x15), (28, x28), (80, x80), (85, v85n26)])
noncomputable def zabl (lf d : Nat) (rec : RT) (k : KT) : Nat → Value → Value → Value → Value → Value → Value → Value → Value → Value → Value → Value → Value → Value → M Value
 | 0, _, _, _, _, _, _, _, _, _, _, _, _, _ => M.fail
 | fu + 1, x0, x1, x2, x3, x4, x18, x19, x20, x21, x22, x28, x80, x140 =>
  optK (q_lss PP 3 x20 x21) fun v151n39 =>
  ifV v151n39 (
   optK (q_add PP 3 x20 x21) fun v154n40 =>
   conv3 PP 3 157 .i64 .u64 v154n40 fun v155n41 =>
   optK (q_shr PP 157 v155n41 (Value.int .u64 1)) fun v156n42 =>
   conv3 PP 157 3 .u64 .i64 v156n42 fun v157n43 =>
   optK (q_sub PP 3 x22 v157n43) fun v162n44 =>
   optK (evIA3 PP 22 1 x0 v162n44) fun v163n45 =>
   insB (zaai PP 3 v163n45) fun v164n46 =>
   optK (evIA3 PP 22 1 x0 v157n43) fun v167n47 =>
   insB (zaai PP 3 v167n47) fun v168n48 =>
   callV PP rec x4 [v164n46, v168n48] fun v169n49 =>
   optK (q_lss PP 3 v169n49 (Value.int .i64 0)) fun v170n50 =>
   optK (un3 PP .not v170n50) fun v171n51 =>
   ifV v171n51 (
    optK (q_add PP 3 v157n43 (Value.int .i64 1)) fun v173n52 =>
    zabl lf d rec k fu x0 x1 x2 x3 x4 x18 x19 v173n52 x21 x22 x28 x80 x140) (
    zabl lf d rec k fu x0 x1 x2 x3 x4 x18 x19 x20 v157n43 x22 x28 x80 x140)) (
   k (Ex.exit 8) [(0, x0), (1, x1), (2, x2), (3, x3), (4, x4), (18, x18), (19, x19), (20, x20), (21, x21), (22, x22), (28, x28), (80, x80), (140, x140), (151, v151n39)])
noncomputable def zadd (lf d : Nat) (rec : RT) (dflt : KT) : KT := (kEx 8 (runCur [0, 1, 2, 3, 4, 18, 19, 20, 21, 22, 28, 80, 140, 151] (fun y0 y1 y2 y3 y4 y18 y19 y20 y21 y22 y28 y80 y140 y151 =>
 optK (q_sub PP 3 y19 y20) fun v177n53 =>
 optK (q_lss PP 3 y20 y2) fun v180n54 =>
 ifV v180n54 (
  optK (q_lss PP 3 y2 v177n53) fun v184n55 =>
  ifV v184n55 (
   (inside (rec 156 #[y0, y20, y2, v177n53, y4])).bind fun v191n56 =>
   optK (q_lss PP 3 y1 y20) fun v194n57 =>
   ifV v194n57 (
    optK (q_lss PP 3 y20 y18) fun v198n58 =>
    ifV v198n58 (
     (inside (rec 155 #[y0, y1, y20, y18, y4])).bind fun v205n59 =>
     optK (q_lss PP 3 y18 v177n53) fun v208n60 =>
     ifV v208n60 (
      optK (q_lss PP 3 v177n53 y3) fun v212n61 =>
      ifV v212n61 (
       (inside (rec 155 #[y0, y18, v177n53, y3, y4])).bind fun v219n62 =>
       outK []) (
       outK [])) (
      outK [])) (
     optK (q_lss PP 3 y18 v177n53) fun v208n63 =>
     ifV v208n63 (
      optK (q_lss PP 3 v177n53 y3) fun v212n64 =>
      ifV v212n64 (
       (inside (rec 155 #[y0, y18, v177n53, y3, y4])).bind fun v219n65 =>
       outK []) (
       outK [])) (
      outK []))) (
    optK (q_lss PP 3 y18 v177n53) fun v208n66 =>
    ifV v208n66 (
     optK (q_lss PP 3 v177n53 y3) fun v212n67 =>
     ifV v212n67 (
      (inside (rec 155 #[y0, y18, v177n53, y3, y4])).bind fun v219n68 =>
      outK []) (
      outK [])) (
     outK []))) (
   optK (q_lss PP 3 y1 y20) fun v194n69 =>
   ifV v194n69 (
    optK (q_lss PP 3 y20 y18) fun v198n70 =>
    ifV v198n70 (
     (inside (rec 155 #[y0, y1, y20, y18, y4])).bind fun v205n71 =>
     optK (q_lss PP 3 y18 v177n53) fun v208n72 =>
     ifV v208n72 (
      optK (q_lss PP 3 v177n53 y3) fun v212n73 =>
      ifV v212n73 (
       (inside (rec 155 #[y0, y18, v177n53, y3, y4])).bind fun v219n74 =>
       outK []) (
       outK [])) (
      outK [])) (
     optK (q_lss PP 3 y18 v177n53) fun v208n75 =>
     ifV v208n75 (
      optK (q_lss PP 3 v177n53 y3) fun v212n76 =>
      ifV v212n76 (
       (inside (rec 155 #[y0, y18, v177n53, y3, y4])).bind fun v219n77 =>
       outK []) (
       outK [])) (
      outK []))) (
    optK (q_lss PP 3 y18 v177n53) fun v208n78 =>
    ifV v208n78 (
     optK (q_lss PP 3 v177n53 y3) fun v212n79 =>
     ifV v212n79 (
      (inside (rec 155 #[y0, y18, v177n53, y3, y4])).bind fun v219n80 =>
      outK []) (
      outK [])) (
     outK [])))) (
  optK (q_lss PP 3 y1 y20) fun v194n81 =>
  ifV v194n81 (
   optK (q_lss PP 3 y20 y18) fun v198n82 =>
   ifV v198n82 (
    (inside (rec 155 #[y0, y1, y20, y18, y4])).bind fun v205n83 =>
    optK (q_lss PP 3 y18 v177n53) fun v208n84 =>
    ifV v208n84 (
     optK (q_lss PP 3 v177n53 y3) fun v212n85 =>
     ifV v212n85 (
      (inside (rec 155 #[y0, y18, v177n53, y3, y4])).bind fun v219n86 =>
      outK []) (
      outK [])) (
     outK [])) (
    optK (q_lss PP 3 y18 v177n53) fun v208n87 =>
    ifV v208n87 (
     optK (q_lss PP 3 v177n53 y3) fun v212n88 =>
     ifV v212n88 (
      (inside (rec 155 #[y0, y18, v177n53, y3, y4])).bind fun v219n89 =>
      outK []) (
      outK [])) (
     outK []))) (
   optK (q_lss PP 3 y18 v177n53) fun v208n90 =>
   ifV v208n90 (
    optK (q_lss PP 3 v177n53 y3) fun v212n91 =>
    ifV v212n91 (
     (inside (rec 155 #[y0, y18, v177n53, y3, y4])).bind fun v219n92 =>
     outK []) (
     outK [])) (
    outK [])))) (dflt (Ex.exit 8))) dflt)
noncomputable def zadb (lf d : Nat) (rec : RT) (k : KT) : Nat → Value → Value → Value → Value → Value → Value → Value → Value → Value → Value → M Value
 | 0, _, _, _, _, _, _, _, _, _, _ => M.fail
 | fu + 1, x0, x1, x2, x3, x4, x10, x11, x13, x28, x33 =>
  optK (q_sub PP 3 x10 (Value.int .i64 1)) fun v57n93 =>
  optK (q_lss PP 3 x13 v57n93) fun v58n94 =>
  ifV v58n94 (
   optK (q_add PP 3 x13 (Value.int .i64 1)) fun v65n95 =>
   optK (q_add PP 3 x13 (Value.int .i64 1)) fun v68n96 =>
   optK (evIA3 PP 22 1 x0 v68n96) fun v69n97 =>
   insB (zaai PP 3 v69n97) fun v70n98 =>
   optK (evIA3 PP 22 1 x0 x13) fun v73n99 =>
   insB (zaai PP 3 v73n99) fun v74n100 =>
   optK (evIA3 PP 22 1 x0 x13) fun v75n101 =>
   insB (zaaq PP 3 v75n101 v70n98) fun u102 =>
   optK (evIA3 PP 22 1 x0 v65n95) fun v76n103 =>
   insB (zaaq PP 3 v76n103 v74n100) fun u104 =>
   optK (q_add PP 3 x13 (Value.int .i64 1)) fun v60n105 =>
   zadb lf d rec k fu x0 x1 x2 x3 x4 x10 x11 v60n105 x28 x33) (
   k (Ex.exit 2) [(0, x0), (1, x1), (2, x2), (3, x3), (4, x4), (10, x10), (11, x11), (13, x13), (28, x28), (33, x33), (58, v58n94)])
noncomputable def zaeo (lf d : Nat) (rec : RT) (dflt : KT) : KT := (kEx 2 (runCur [0, 1, 2, 3, 4, 10, 11, 13, 28, 33, 58] (fun y0 y1 y2 y3 y4 y10 y11 y13 y28 y33 y58 =>
 outK []) (dflt (Ex.exit 2))) dflt)
noncomputable def zadc (lf d : Nat) (rec : RT) (k : KT) : Nat → Value → Value → Value → Value → Value → Value → Value → Value → Value → Value → Value → M Value
 | 0, _, _, _, _, _, _, _, _, _, _, _ => M.fail
 | fu + 1, x0, x1, x2, x3, x4, x14, x15, x17, x28, x80, x85 =>
  optK (q_gtr PP 3 x17 x14) fun v110n106 =>
  ifV v110n106 (
   optK (q_sub PP 3 x17 (Value.int .i64 1)) fun v117n107 =>
   optK (q_sub PP 3 x17 (Value.int .i64 1)) fun v120n108 =>
   optK (evIA3 PP 22 1 x0 v120n108) fun v121n109 =>
   insB (zaai PP 3 v121n109) fun v122n110 =>
   optK (evIA3 PP 22 1 x0 x17) fun v125n111 =>
   insB (zaai PP 3 v125n111) fun v126n112 =>
   optK (evIA3 PP 22 1 x0 x17) fun v127n113 =>
   insB (zaaq PP 3 v127n113 v122n110) fun u114 =>
   optK (evIA3 PP 22 1 x0 v117n107) fun v128n115 =>
   insB (zaaq PP 3 v128n115 v126n112) fun u116 =>
   optK (q_sub PP 3 x17 (Value.int .i64 1)) fun v112n117 =>
   zadc lf d rec k fu x0 x1 x2 x3 x4 x14 x15 v112n117 x28 x80 x85) (
   k (Ex.exit 6) [(0, x0), (1, x1), (2, x2), (3, x3), (4, x4), (14, x14), (15, x15), (17, x17), (28, x28), (80, x80), (85, x85), (110, v110n106)])
noncomputable def zaen (lf d : Nat) (rec : RT) (dflt : KT) : KT := (kEx 6 (runCur [0, 1, 2, 3, 4, 14, 15, 17, 28, 80, 85, 110] (fun y0 y1 y2 y3 y4 y14 y15 y17 y28 y80 y85 y110 =>
 outK []) (dflt (Ex.exit 6))) dflt)
noncomputable def zaem (lf d : Nat) (rec : RT) (dflt : KT) : KT := (kEx 0 (runCur [0, 1, 2, 3, 4, 10, 11, 28, 33] (fun y0 y1 y2 y3 y4 y10 y11 y28 y33 =>
 zadb lf d rec (zaeo lf d rec (zacx lf d)) lf y0 y1 y2 y3 y4 y10 y11 y1 y28 y33) (dflt (Ex.exit 0))) dflt)
noncomputable def zaep (lf d : Nat) (rec : RT) (dflt : KT) : KT := (kEx 4 (runCur [0, 1, 2, 3, 4, 14, 15, 28, 80, 85] (fun y0 y1 y2 y3 y4 y14 y15 y28 y80 y85 =>
 zadc lf d rec (zaen lf d rec (zacy lf d)) lf y0 y1 y2 y3 y4 y14 y15 y2 y28 y80 y85) (dflt (Ex.exit 4))) dflt)
noncomputable def zaet (lf d : Nat) (rec : RT) (a0 a1 a2 a3 a4 : Value) : M Value :=
 optK (q_sub PP 3 a2 a1) fun v27n1 =>
 optK (q_eql PP 3 v27n1 (Value.int .i64 1)) fun v28n2 =>
 ifV v28n2 (
  zabw lf d rec (zaem lf d rec (zacw lf d)) lf a0 a1 a2 a3 a4 a2 a3 v28n2) (
  optK (q_sub PP 3 a3 a2) fun v79n3 =>
  optK (q_eql PP 3 v79n3 (Value.int .i64 1)) fun v80n4 =>
  ifV v80n4 (
   zabv lf d rec (zaep lf d rec (zact lf d)) lf a0 a1 a2 a3 a4 a1 a2 v28n2 v80n4) (
   optK (q_add PP 3 a1 a3) fun v131n5 =>
   conv3 PP 3 157 .i64 .u64 v131n5 fun v132n6 =>
   optK (q_shr PP 157 v132n6 (Value.int .u64 1)) fun v133n7 =>
   conv3 PP 157 3 .u64 .i64 v133n7 fun v134n8 =>
   optK (q_add PP 3 v134n8 a2) fun v137n9 =>
   optK (q_gtr PP 3 a2 v134n8) fun v140n10 =>
   ifV v140n10 (
    optK (q_sub PP 3 v137n9 a3) fun v143n11 =>
    optK (q_sub PP 3 v137n9 (Value.int .i64 1)) fun v148n12 =>
    zabl lf d rec (zadd lf d rec (zabq lf d)) lf a0 a1 a2 a3 a4 v134n8 v137n9 v143n11 v134n8 v148n12 v28n2 v80n4 v140n10) (
    optK (q_sub PP 3 v137n9 (Value.int .i64 1)) fun v148n13 =>
    zabl lf d rec (zadd lf d rec (zabq lf d)) lf a0 a1 a2 a3 a4 v134n8 v137n9 a1 a2 v148n13 v28n2 v80n4 v140n10)))
theorem zaho (lf d : Nat) (k : KT) : ∀ fu : Nat, zabw lf d (evC lf d) k fu = zaie lf d fu k
 | 0 => by funext x0 x1 x2 x3 x4 x10 x11 x28; kernel_rfl
 | fu + 1 => by
  have ih := zaho lf d k fu
  funext x0 x1 x2 x3 x4 x10 x11 x28; simp only [zabw, ih, zaag, zade zbjb, zade zbjg, zaax (P := PP) Tryz.underlying22 gs3, zaaj (P := PP) ga3, zaah, zaap (P := PP) nf3, zaat (P := PP) nf3, zalq (P := PP) nf157]; kernel_rfl
theorem zaif (lf d : Nat) (k : KT) : ∀ fu : Nat, zabv lf d (evC lf d) k fu = zahw lf d fu k
 | 0 => by funext x0 x1 x2 x3 x4 x14 x15 x28 x80; kernel_rfl
 | fu + 1 => by
  have ih := zaif lf d k fu
  funext x0 x1 x2 x3 x4 x14 x15 x28 x80; simp only [zabv, ih, zaag, zade zbjb, zade zbjg, zaax (P := PP) Tryz.underlying22 gs3, zaaj (P := PP) ga3, zaah, zaap (P := PP) nf3, zaat (P := PP) nf3, zalq (P := PP) nf157, zack]; kernel_rfl
theorem zahu (lf d : Nat) (k : KT) : ∀ fu : Nat, zabl lf d (evC lf d) k fu = zahz lf d fu k
 | 0 => by funext x0 x1 x2 x3 x4 x18 x19 x20 x21 x22 x28 x80 x140; kernel_rfl
 | fu + 1 => by
  have ih := zahu lf d k fu
  funext x0 x1 x2 x3 x4 x18 x19 x20 x21 x22 x28 x80 x140; simp only [zabl, ih, zaag, zade zbjb, zade zbjg, zaax (P := PP) Tryz.underlying22 gs3, zaaj (P := PP) ga3, zaah, zaap (P := PP) nf3, zaat (P := PP) nf3, zalq (P := PP) nf157, zabd (P := PP) nf3, zack]; kernel_rfl
set_option maxRecDepth 20000 in
theorem zaqd (lf d : Nat) : zadd lf d (evC lf d) (zabq lf d) = zabq lf d := by
  unfold zadd
  refine Eq.trans (zaba ?_) ?_
  · exact (zaam _ _ _ (by intro y0 y1 y2 y3 y4 y18 y19 y20 y21 y22 y28 y80 y140 y151; show _ = _; (try simp only [zaag, zaah, zaat (P := PP) nf3, zabd (P := PP) nf3]); kernel_rfl))
  rfl
theorem zaib (lf d : Nat) (k : KT) : ∀ fu : Nat, zadb lf d (evC lf d) k fu = zaig lf d fu k
 | 0 => by funext x0 x1 x2 x3 x4 x10 x11 x13 x28 x33; kernel_rfl
 | fu + 1 => by
  have ih := zaib lf d k fu
  funext x0 x1 x2 x3 x4 x10 x11 x13 x28 x33; simp only [zadb, ih, zaag, zaax (P := PP) Tryz.underlying22 gs3, zaaj (P := PP) ga3, zaao (P := PP) gs3, zaah, zaap (P := PP) nf3, zaat (P := PP) nf3, zabd (P := PP) nf3]; kernel_rfl
set_option maxRecDepth 20000 in
theorem zaqe (lf d : Nat) : zaeo lf d (evC lf d) (zacx lf d) = zacx lf d := by
  unfold zaeo
  refine Eq.trans (zaba ?_) ?_
  · exact (zaam _ _ _ (by intro y0 y1 y2 y3 y4 y10 y11 y13 y28 y33 y58; show _ = _; (try simp only [zaag, zaah]); kernel_rfl))
  rfl
theorem zahn (lf d : Nat) (k : KT) : ∀ fu : Nat, zadc lf d (evC lf d) k fu = zaid lf d fu k
 | 0 => by funext x0 x1 x2 x3 x4 x14 x15 x17 x28 x80 x85; kernel_rfl
 | fu + 1 => by
  have ih := zahn lf d k fu
  funext x0 x1 x2 x3 x4 x14 x15 x17 x28 x80 x85; simp only [zadc, ih, zaag, zaax (P := PP) Tryz.underlying22 gs3, zaaj (P := PP) ga3, zaao (P := PP) gs3, zaah, zacq (P := PP) nf3, zabd (P := PP) nf3]; kernel_rfl
set_option maxRecDepth 20000 in
theorem zaqh (lf d : Nat) : zaen lf d (evC lf d) (zacy lf d) = zacy lf d := by
  unfold zaen
  refine Eq.trans (zaba ?_) ?_
  · exact (zaam _ _ _ (by intro y0 y1 y2 y3 y4 y14 y15 y17 y28 y80 y85 y110; show _ = _; (try simp only [zaag, zaah]); kernel_rfl))
  rfl
set_option maxRecDepth 20000 in
theorem zaqc (lf d : Nat) : zaem lf d (evC lf d) (zacw lf d) = zacw lf d := by
  unfold zaem
  refine Eq.trans (zaba ?_) ?_
  · exact (zaam _ _ _ (by intro y0 y1 y2 y3 y4 y10 y11 y28 y33; show _ = _; (try simp only [zaqe lf d, zaib, zaag, zaah]); kernel_rfl))
  rfl
set_option maxRecDepth 20000 in
theorem zapu (lf d : Nat) : zaep lf d (evC lf d) (zact lf d) = zact lf d := by
  unfold zaep
  refine Eq.trans (zaba ?_) ?_
  · exact (zaam _ _ _ (by intro y0 y1 y2 y3 y4 y14 y15 y28 y80 y85; show _ = _; (try simp only [zaqh lf d, zahn, zaag, zaah]); kernel_rfl))
  rfl
theorem zaqy (lf d : Nat) (a0 a1 a2 a3 a4 : Value) : inside (zaet lf d (evC lf d) a0 a1 a2 a3 a4) = evC lf (d + 1) 155 #[a0, a1, a2, a3, a4] := by
 unfold zaet; (try simp only [zaqc lf d, zaho, zapu lf d, zaif, zaqd lf d, zahu, zaag, zade zbjb, zade zbjg, zaah, zaap (P := PP) nf3, zabk (P := PP) nf3, zacq (P := PP) nf3, zalq (P := PP) nf157, zabd (P := PP) nf3]); kernel_rfl

noncomputable def zajc (lf d fu : Nat) (k : KT) (x0 x1 x2 x3 x4 x10 x11 : Value) : M Value := loopK (fun s1 k1 => codeK PP (evC lf d) (gtA 156) lf (codeAt (bodyOf PP 156) [true, true, false, false, false]) s1 k1) [0, 1, 2, 3, 4, 10, 11] fu [(0, x0), (1, x1), (2, x2), (3, x3), (4, x4), (10, x10), (11, x11)] k
noncomputable def zadm (lf d : Nat) : KT := contAt PP (evC lf d) (gtA 156) lf (bodyOf PP 156) [true, true, false, false] (endK PP (resOf PP 156))
noncomputable def zacj (lf d : Nat) (rec : RT) (k : KT) : Nat → Value → Value → Value → Value → Value → Value → Value → M Value
 | 0, _, _, _, _, _, _, _ => M.fail
 | fu + 1, x0, x1, x2, x3, x4, x10, x11 =>
  optK (q_neq PP 3 x10 x11) fun v20n3 =>
  ifV v20n3 (
   optK (q_gtr PP 3 x10 x11) fun v23n4 =>
   ifV v23n4 (
    optK (q_sub PP 3 x2 x10) fun v27n5 =>
    (inside (rec 157 #[x0, v27n5, x2, x11, x4])).bind fun v31n6 =>
    optK (q_sub PP 3 x10 x11) fun v34n7 =>
    zacj lf d rec k fu x0 x1 x2 x3 x4 v34n7 x11) (
    optK (q_sub PP 3 x2 x10) fun v38n8 =>
    optK (q_add PP 3 x2 x11) fun v41n9 =>
    optK (q_sub PP 3 v41n9 x10) fun v43n10 =>
    (inside (rec 157 #[x0, v38n8, v43n10, x10, x4])).bind fun v46n11 =>
    optK (q_sub PP 3 x11 x10) fun v49n12 =>
    zacj lf d rec k fu x0 x1 x2 x3 x4 x10 v49n12)) (
   k (Ex.exit 0) [(0, x0), (1, x1), (2, x2), (3, x3), (4, x4), (10, x10), (11, x11), (20, v20n3)])
noncomputable def zafb (lf d : Nat) (rec : RT) (dflt : KT) : KT := (kEx 0 (runCur [0, 1, 2, 3, 4, 10, 11, 20] (fun y0 y1 y2 y3 y4 y10 y11 y20 =>
 optK (q_sub PP 3 y2 y10) fun v53n13 =>
 (inside (rec 157 #[y0, v53n13, y2, y10, y4])).bind fun v57n14 =>
 outK []) (dflt (Ex.exit 0))) dflt)
noncomputable def zaga (lf d : Nat) (rec : RT) (a0 a1 a2 a3 a4 : Value) : M Value :=
 optK (q_sub PP 3 a2 a1) fun v14n1 =>
 optK (q_sub PP 3 a3 a2) fun v17n2 =>
 zacj lf d rec (zafb lf d rec (zadm lf d)) lf a0 a1 a2 a3 a4 v14n1 v17n2
theorem zaiu (lf d : Nat) (k : KT) : ∀ fu : Nat, zacj lf d (evC lf d) k fu = zajc lf d fu k
 | 0 => by funext x0 x1 x2 x3 x4 x10 x11; kernel_rfl
 | fu + 1 => by
  have ih := zaiu lf d k fu
  funext x0 x1 x2 x3 x4 x10 x11; simp only [zacj, ih, zaag, zaah, zaap (P := PP) nf3, zacq (P := PP) nf3, zabg (P := PP) nf3, zabd (P := PP) nf3]; kernel_rfl
set_option maxRecDepth 20000 in
theorem zate (lf d : Nat) : zafb lf d (evC lf d) (zadm lf d) = zadm lf d := by
  unfold zafb
  refine Eq.trans (zaba ?_) ?_
  · exact (zaam _ _ _ (by intro y0 y1 y2 y3 y4 y10 y11 y20; show _ = _; (try simp only [zaag, zaah, zabd (P := PP) nf3]); kernel_rfl))
  rfl
theorem zasz (lf d : Nat) (a0 a1 a2 a3 a4 : Value) : inside (zaga lf d (evC lf d) a0 a1 a2 a3 a4) = evC lf (d + 1) 156 #[a0, a1, a2, a3, a4] := by
 unfold zaga; (try simp only [zate lf d, zaiu, zaag, zaah, zabd (P := PP) nf3]); kernel_rfl

noncomputable def zahj (lf d fu : Nat) (k : KT) (x0 x1 x2 x3 x10 : Value) : M Value := loopK (fun s1 k1 => codeK PP (evC lf d) (gtA 157) lf (codeAt (bodyOf PP 157) [true, false, false]) s1 k1) [0, 1, 2, 3, 10] fu [(0, x0), (1, x1), (2, x2), (3, x3), (10, x10)] k
noncomputable def zacl (lf d : Nat) : KT := contAt PP (evC lf d) (gtA 157) lf (bodyOf PP 157) [true, false] (endK PP (resOf PP 157))
noncomputable def zacu (lf d : Nat) (rec : RT) (k : KT) : Nat → Value → Value → Value → Value → Value → M Value
 | 0, _, _, _, _, _ => M.fail
 | fu + 1, x0, x1, x2, x3, x10 =>
  optK (q_lss PP 3 x10 x3) fun v13n1 =>
  ifV v13n1 (
   optK (q_add PP 3 x1 x10) fun v19n2 =>
   optK (q_add PP 3 x2 x10) fun v23n3 =>
   optK (q_add PP 3 x2 x10) fun v27n4 =>
   optK (evIA3 PP 22 1 x0 v27n4) fun v28n5 =>
   insB (zaai PP 3 v28n5) fun v29n6 =>
   optK (q_add PP 3 x1 x10) fun v33n7 =>
   optK (evIA3 PP 22 1 x0 v33n7) fun v34n8 =>
   insB (zaai PP 3 v34n8) fun v35n9 =>
   optK (evIA3 PP 22 1 x0 v19n2) fun v36n10 =>
   insB (zaaq PP 3 v36n10 v29n6) fun u11 =>
   optK (evIA3 PP 22 1 x0 v23n3) fun v37n12 =>
   insB (zaaq PP 3 v37n12 v35n9) fun u13 =>
   optK (q_add PP 3 x10 (Value.int .i64 1)) fun v15n14 =>
   zacu lf d rec k fu x0 x1 x2 x3 v15n14) (
   k (Ex.exit 0) [(0, x0), (1, x1), (2, x2), (3, x3), (10, x10), (13, v13n1)])
noncomputable def zaef (lf d : Nat) (rec : RT) (dflt : KT) : KT := (kEx 0 (runCur [0, 1, 2, 3, 10, 13] (fun y0 y1 y2 y3 y10 y13 =>
 outK []) (dflt (Ex.exit 0))) dflt)
noncomputable def zael (lf d : Nat) (rec : RT) (a0 a1 a2 a3 a4 : Value) : M Value :=
 zacu lf d rec (zaef lf d rec (zacl lf d)) lf a0 a1 a2 a3 (Value.int .i64 0)
theorem zahk (lf d : Nat) (k : KT) : ∀ fu : Nat, zacu lf d (evC lf d) k fu = zahj lf d fu k
 | 0 => by funext x0 x1 x2 x3 x10; kernel_rfl
 | fu + 1 => by
  have ih := zahk lf d k fu
  funext x0 x1 x2 x3 x10; simp only [zacu, ih, zaag, zaax (P := PP) Tryz.underlying22 gs3, zaaj (P := PP) ga3, zaao (P := PP) gs3, zaah, zaap (P := PP) nf3, zaat (P := PP) nf3]; kernel_rfl
set_option maxRecDepth 20000 in
theorem zapp (lf d : Nat) : zaef lf d (evC lf d) (zacl lf d) = zacl lf d := by
  unfold zaef
  refine Eq.trans (zaba ?_) ?_
  · exact (zaam _ _ _ (by intro y0 y1 y2 y3 y10 y13; show _ = _; (try simp only [zaag, zaah]); kernel_rfl))
  rfl
theorem zapo (lf d : Nat) (a0 a1 a2 a3 a4 : Value) : inside (zael lf d (evC lf d) a0 a1 a2 a3 a4) = evC lf (d + 1) 157 #[a0, a1, a2, a3, a4] := by
 unfold zael; (try simp only [zapp lf d, zahk, zaag, zaah]); kernel_rfl

noncomputable def fTab (lf : Nat) : Tab := [
 (8, fun d rec => runAr 0 (inside (F_balerlaw14_two lf d rec)) (fun l => evC lf (d + 1) 8 l.toArray)),
 (9, fun d rec => runAr 0 (inside (zaor lf d rec)) (fun l => evC lf (d + 1) 9 l.toArray)),
 (10, fun d rec => runAr 3 (fun a0 a1 a2 => inside (zani lf d rec a0 a1 a2)) (fun l => evC lf (d + 1) 10 l.toArray)),
 (11, fun d rec => runAr 3 (fun a0 a1 a2 => inside (zaxz lf d rec a0 a1 a2)) (fun l => evC lf (d + 1) 11 l.toArray)),
 (12, fun d rec => runAr 2 (fun a0 a1 => inside (zbaz lf d rec a0 a1)) (fun l => evC lf (d + 1) 12 l.toArray)),
 (14, fun d rec => runAr 1 (fun a0 => inside (zanp lf d rec a0)) (fun l => evC lf (d + 1) 14 l.toArray)),
 (16, fun d rec => runAr 1 (fun a0 => inside (zanl lf d rec a0)) (fun l => evC lf (d + 1) 16 l.toArray)),
 (17, fun d rec => runAr 1 (fun a0 => inside (zamc lf d rec a0)) (fun l => evC lf (d + 1) 17 l.toArray)),
 (20, fun d rec => runAr 1 (fun a0 => inside (zaox lf d rec a0)) (fun l => evC lf (d + 1) 20 l.toArray)),
 (21, fun d rec => runAr 2 (fun a0 a1 => inside (zalo lf d rec a0 a1)) (fun l => evC lf (d + 1) 21 l.toArray)),
 (22, fun d rec => runAr 3 (fun a0 a1 a2 => inside (zbaj lf d rec a0 a1 a2)) (fun l => evC lf (d + 1) 22 l.toArray)),
 (24, fun d rec => runAr 1 (fun a0 => inside (zaoo lf d rec a0)) (fun l => evC lf (d + 1) 24 l.toArray)),
 (27, fun d rec => runAr 2 (fun a0 a1 => inside (zanj lf d rec a0 a1)) (fun l => evC lf (d + 1) 27 l.toArray)),
 (28, fun d rec => runAr 1 (fun a0 => inside (zaoq lf d rec a0)) (fun l => evC lf (d + 1) 28 l.toArray)),
 (30, fun d rec => runAr 2 (fun a0 a1 => inside (zalm lf d rec a0 a1)) (fun l => evC lf (d + 1) 30 l.toArray)),
 (34, fun d rec => runAr 2 (fun a0 a1 => inside (zbaw lf d rec a0 a1)) (fun l => evC lf (d + 1) 34 l.toArray)),
 (35, fun d rec => runAr 2 (fun a0 a1 => inside (zanf lf d rec a0 a1)) (fun l => evC lf (d + 1) 35 l.toArray)),
 (36, fun d rec => runAr 2 (fun a0 a1 => inside (zavr lf d rec a0 a1)) (fun l => evC lf (d + 1) 36 l.toArray)),
 (37, fun d rec => runAr 3 (fun a0 a1 a2 => inside (zavp lf d rec a0 a1 a2)) (fun l => evC lf (d + 1) 37 l.toArray)),
 (38, fun d rec => runAr 2 (fun a0 a1 => inside (zave lf d rec a0 a1)) (fun l => evC lf (d + 1) 38 l.toArray)),
 (39, fun d rec => runAr 1 (fun a0 => inside (zbah lf d rec a0)) (fun l => evC lf (d + 1) 39 l.toArray)),
 (40, fun d rec => runAr 3 (fun a0 a1 a2 => inside (zaom lf d rec a0 a1 a2)) (fun l => evC lf (d + 1) 40 l.toArray)),
 (41, fun d rec => runAr 2 (fun a0 a1 => inside (zaxw lf d rec a0 a1)) (fun l => evC lf (d + 1) 41 l.toArray)),
 (42, fun d rec => runAr 1 (fun a0 => inside (zayo lf d rec a0)) (fun l => evC lf (d + 1) 42 l.toArray)),
 (43, fun d rec => runAr 2 (fun a0 a1 => inside (zavg lf d rec a0 a1)) (fun l => evC lf (d + 1) 43 l.toArray)),
 (51, fun d rec => runAr 1 (fun a0 => inside (zang lf d rec a0)) (fun l => evC lf (d + 1) 51 l.toArray)),
 (52, fun d rec => runAr 3 (fun a0 a1 a2 => inside (zaly lf d rec a0 a1 a2)) (fun l => evC lf (d + 1) 52 l.toArray)),
 (56, fun d rec => runAr 1 (fun a0 => inside (zanc lf d rec a0)) (fun l => evC lf (d + 1) 56 l.toArray)),
 (57, fun d rec => runAr 0 (inside (zane lf d rec)) (fun l => evC lf (d + 1) 57 l.toArray)),
 (58, fun d rec => runAr 2 (fun a0 a1 => inside (zajm lf d rec a0 a1)) (fun l => evC lf (d + 1) 58 l.toArray)),
 (59, fun d rec => runAr 1 (fun a0 => inside (zakp lf d rec a0)) (fun l => evC lf (d + 1) 59 l.toArray)),
 (60, fun d rec => runAr 2 (fun a0 a1 => inside (zalv lf d rec a0 a1)) (fun l => evC lf (d + 1) 60 l.toArray)),
 (61, fun d rec => runAr 1 (fun a0 => inside (zaiy lf d rec a0)) (fun l => evC lf (d + 1) 61 l.toArray)),
 (62, fun d rec => runAr 2 (fun a0 a1 => inside (zakl lf d rec a0 a1)) (fun l => evC lf (d + 1) 62 l.toArray)),
 (63, fun d rec => runAr 1 (fun a0 => inside (zajq lf d rec a0)) (fun l => evC lf (d + 1) 63 l.toArray)),
 (64, fun d rec => runAr 2 (fun a0 a1 => inside (zaim lf d rec a0 a1)) (fun l => evC lf (d + 1) 64 l.toArray)),
 (65, fun d rec => runAr 2 (fun a0 a1 => inside (zbbd lf d rec a0 a1)) (fun l => evC lf (d + 1) 65 l.toArray)),
 (66, fun d rec => runAr 2 (fun a0 a1 => inside (zbax lf d rec a0 a1)) (fun l => evC lf (d + 1) 66 l.toArray)),
 (67, fun d rec => runAr 1 (fun a0 => inside (zasw lf d rec a0)) (fun l => evC lf (d + 1) 67 l.toArray)),
 (68, fun d rec => runAr 1 (fun a0 => inside (zbau lf d rec a0)) (fun l => evC lf (d + 1) 68 l.toArray)),
 (69, fun d rec => runAr 2 (fun a0 a1 => inside (zavt lf d rec a0 a1)) (fun l => evC lf (d + 1) 69 l.toArray)),
 (70, fun d rec => runAr 3 (fun a0 a1 a2 => inside (zapx lf d rec a0 a1 a2)) (fun l => evC lf (d + 1) 70 l.toArray)),
 (71, fun d rec => runAr 1 (fun a0 => inside (zavu lf d rec a0)) (fun l => evC lf (d + 1) 71 l.toArray)),
 (72, fun d rec => runAr 1 (fun a0 => inside (zail lf d rec a0)) (fun l => evC lf (d + 1) 72 l.toArray)),
 (73, fun d rec => runAr 2 (fun a0 a1 => inside (zapv lf d rec a0 a1)) (fun l => evC lf (d + 1) 73 l.toArray)),
 (74, fun d rec => runAr 3 (fun a0 a1 a2 => inside (zatr lf d rec a0 a1 a2)) (fun l => evC lf (d + 1) 74 l.toArray)),
 (75, fun d rec => runAr 1 (fun a0 => inside (zava lf d rec a0)) (fun l => evC lf (d + 1) 75 l.toArray)),
 (76, fun d rec => runAr 2 (fun a0 a1 => inside (zaxu lf d rec a0 a1)) (fun l => evC lf (d + 1) 76 l.toArray)),
 (77, fun d rec => runAr 2 (fun a0 a1 => inside (zbas lf d rec a0 a1)) (fun l => evC lf (d + 1) 77 l.toArray)),
 (91, fun d rec => runAr 1 (fun a0 => inside (zavi lf d rec a0)) (fun l => evC lf (d + 1) 91 l.toArray)),
 (92, fun d rec => runAr 0 (inside (zavk lf d rec)) (fun l => evC lf (d + 1) 92 l.toArray)),
 (93, fun d rec => runAr 2 (fun a0 a1 => inside (zaot lf d rec a0 a1)) (fun l => evC lf (d + 1) 93 l.toArray)),
 (94, fun d rec => runAr 2 (fun a0 a1 => inside (zaki lf d rec a0 a1)) (fun l => evC lf (d + 1) 94 l.toArray)),
 (95, fun d rec => runAr 2 (fun a0 a1 => inside (zakc lf d rec a0 a1)) (fun l => evC lf (d + 1) 95 l.toArray)),
 (96, fun d rec => runAr 1 (fun a0 => inside (zaka lf d rec a0)) (fun l => evC lf (d + 1) 96 l.toArray)),
 (97, fun d rec => runAr 1 (fun a0 => inside (zakh lf d rec a0)) (fun l => evC lf (d + 1) 97 l.toArray)),
 (98, fun d rec => runAr 2 (fun a0 a1 => inside (zavj lf d rec a0 a1)) (fun l => evC lf (d + 1) 98 l.toArray)),
 (99, fun d rec => runAr 1 (fun a0 => inside (zann lf d rec a0)) (fun l => evC lf (d + 1) 99 l.toArray)),
 (100, fun d rec => runAr 2 (fun a0 a1 => inside (zatl lf d rec a0 a1)) (fun l => evC lf (d + 1) 100 l.toArray)),
 (101, fun d rec => runAr 3 (fun a0 a1 a2 => inside (zatf lf d rec a0 a1 a2)) (fun l => evC lf (d + 1) 101 l.toArray)),
 (102, fun d rec => runAr 1 (fun a0 => inside (zass lf d rec a0)) (fun l => evC lf (d + 1) 102 l.toArray)),
 (103, fun d rec => runAr 2 (fun a0 a1 => inside (zaek lf d rec a0 a1)) (fun l => evC lf (d + 1) 103 l.toArray)),
 (104, fun d rec => runAr 2 (fun a0 a1 => inside (zavc lf d rec a0 a1)) (fun l => evC lf (d + 1) 104 l.toArray)),
 (105, fun d rec => runAr 2 (fun a0 a1 => inside (zalt lf d rec a0 a1)) (fun l => evC lf (d + 1) 105 l.toArray)),
 (106, fun d rec => runAr 1 (fun a0 => inside (zavb lf d rec a0)) (fun l => evC lf (d + 1) 106 l.toArray)),
 (107, fun d rec => runAr 1 (fun a0 => inside (zatg lf d rec a0)) (fun l => evC lf (d + 1) 107 l.toArray)),
 (108, fun d rec => runAr 1 (fun a0 => inside (zaxl lf d rec a0)) (fun l => evC lf (d + 1) 108 l.toArray)),
 (109, fun d rec => runAr 2 (fun a0 a1 => inside (zage lf d rec a0 a1)) (fun l => evC lf (d + 1) 109 l.toArray)),
 (110, fun d rec => runAr 3 (fun a0 a1 a2 => inside (zapw lf d rec a0 a1 a2)) (fun l => evC lf (d + 1) 110 l.toArray)),
 (111, fun d rec => runAr 1 (fun a0 => inside (zbdx lf d rec a0)) (fun l => evC lf (d + 1) 111 l.toArray)),
 (112, fun d rec => runAr 2 (fun a0 a1 => inside (zaqt lf d rec a0 a1)) (fun l => evC lf (d + 1) 112 l.toArray)),
 (120, fun d rec => runAr 2 (fun a0 a1 => inside (zaou lf d rec a0 a1)) (fun l => evC lf (d + 1) 120 l.toArray)),
 (121, fun d rec => runAr 2 (fun a0 a1 => inside (zako lf d rec a0 a1)) (fun l => evC lf (d + 1) 121 l.toArray)),
 (122, fun d rec => runAr 2 (fun a0 a1 => inside (zake lf d rec a0 a1)) (fun l => evC lf (d + 1) 122 l.toArray)),
 (123, fun d rec => runAr 2 (fun a0 a1 => inside (zakq lf d rec a0 a1)) (fun l => evC lf (d + 1) 123 l.toArray)),
 (124, fun d rec => runAr 1 (fun a0 => inside (zaqn lf d rec a0)) (fun l => evC lf (d + 1) 124 l.toArray)),
 (125, fun d rec => runAr 2 (fun a0 a1 => inside (zavn lf d rec a0 a1)) (fun l => evC lf (d + 1) 125 l.toArray)),
 (126, fun d rec => runAr 2 (fun a0 a1 => inside (zbdd lf d rec a0 a1)) (fun l => evC lf (d + 1) 126 l.toArray)),
 (127, fun d rec => runAr 1 (fun a0 => inside (zbiv lf d rec a0)) (fun l => evC lf (d + 1) 127 l.toArray)),
 (128, fun d rec => runAr 2 (fun a0 a1 => inside (zafz lf d rec a0 a1)) (fun l => evC lf (d + 1) 128 l.toArray)),
 (129, fun d rec => runAr 2 (fun a0 a1 => inside (zakb lf d rec a0 a1)) (fun l => evC lf (d + 1) 129 l.toArray)),
 (130, fun d rec => runAr 3 (fun a0 a1 a2 => inside (zatm lf d rec a0 a1 a2)) (fun l => evC lf (d + 1) 130 l.toArray)),
 (131, fun d rec => runAr 1 (fun a0 => inside (zays lf d rec a0)) (fun l => evC lf (d + 1) 131 l.toArray)),
 (132, fun d rec => runAr 1 (fun a0 => inside (zbcz lf d rec a0)) (fun l => evC lf (d + 1) 132 l.toArray)),
 (136, fun d rec => runAr 2 (fun a0 a1 => inside (zano lf d rec a0 a1)) (fun l => evC lf (d + 1) 136 l.toArray)),
 (137, fun d rec => runAr 1 (fun a0 => inside (zakj lf d rec a0)) (fun l => evC lf (d + 1) 137 l.toArray)),
 (138, fun d rec => runAr 2 (fun a0 a1 => inside (zaiz lf d rec a0 a1)) (fun l => evC lf (d + 1) 138 l.toArray)),
 (139, fun d rec => runAr 1 (fun a0 => inside (zavd lf d rec a0)) (fun l => evC lf (d + 1) 139 l.toArray)),
 (140, fun d rec => runAr 1 (fun a0 => inside (zasq lf d rec a0)) (fun l => evC lf (d + 1) 140 l.toArray)),
 (141, fun d rec => runAr 1 (fun a0 => inside (zavh lf d rec a0)) (fun l => evC lf (d + 1) 141 l.toArray)),
 (142, fun d rec => runAr 3 (fun a0 a1 a2 => inside (zaov lf d rec a0 a1 a2)) (fun l => evC lf (d + 1) 142 l.toArray)),
 (144, fun d rec => runAr 1 (fun a0 => inside (zame lf d rec a0)) (fun l => evC lf (d + 1) 144 l.toArray)),
 (145, fun d rec => runAr 2 (fun a0 a1 => inside (zanm lf d rec a0 a1)) (fun l => evC lf (d + 1) 145 l.toArray)),
 (146, fun d rec => runAr 1 (fun a0 => inside (zasy lf d rec a0)) (fun l => evC lf (d + 1) 146 l.toArray)),
 (147, fun d rec => runAr 1 (fun a0 => inside (zamf lf d rec a0)) (fun l => evC lf (d + 1) 147 l.toArray)),
 (148, fun d rec => runAr 3 (fun a0 a1 a2 => inside (zank lf d rec a0 a1 a2)) (fun l => evC lf (d + 1) 148 l.toArray)),
 (149, fun d rec => runAr 2 (fun a0 a1 => inside (zaeb lf d rec a0 a1)) (fun l => evC lf (d + 1) 149 l.toArray)),
 (150, fun d rec => runAr 3 (fun a0 a1 a2 => inside (zaow lf d rec a0 a1 a2)) (fun l => evC lf (d + 1) 150 l.toArray)),
 (151, fun d rec => runAr 2 (fun a0 a1 => inside (zanh lf d rec a0 a1)) (fun l => evC lf (d + 1) 151 l.toArray)),
 (152, fun d rec => runAr 3 (fun a0 a1 a2 => inside (zafv lf d rec a0 a1 a2)) (fun l => evC lf (d + 1) 152 l.toArray)),
 (153, fun d rec => runAr 1 (fun a0 => inside (zaqj lf d rec a0)) (fun l => evC lf (d + 1) 153 l.toArray)),
 (154, fun d rec => runAr 4 (fun a0 a1 a2 a3 => inside (zady lf d rec a0 a1 a2 a3)) (fun l => evC lf (d + 1) 154 l.toArray)),
 (155, fun d rec => runAr 5 (fun a0 a1 a2 a3 a4 => inside (zaet lf d rec a0 a1 a2 a3 a4)) (fun l => evC lf (d + 1) 155 l.toArray)),
 (156, fun d rec => runAr 5 (fun a0 a1 a2 a3 a4 => inside (zaga lf d rec a0 a1 a2 a3 a4)) (fun l => evC lf (d + 1) 156 l.toArray)),
 (157, fun d rec => runAr 5 (fun a0 a1 a2 a3 a4 => inside (zael lf d rec a0 a1 a2 a3 a4)) (fun l => evC lf (d + 1) 157 l.toArray))]
theorem zchb (lf : Nat) : OkTab (evC lf) (fTab lf) :=
 ⟨fun d => zaak _ _ _ (fsh_balerlaw14_two lf d),
 ⟨fun d => zaak _ _ _ (zbhc lf d),
 ⟨fun d => zaak _ _ _ (fun a0 a1 a2 => zbfv lf d a0 a1 a2),
 ⟨fun d => zaak _ _ _ (fun a0 a1 a2 => zbov lf d a0 a1 a2),
 ⟨fun d => zaak _ _ _ (fun a0 a1 => zbrh lf d a0 a1),
 ⟨fun d => zaak _ _ _ (fun a0 => zbge lf d a0),
 ⟨fun d => zaak _ _ _ (fun a0 => zbft lf d a0),
 ⟨fun d => zaak _ _ _ (fun a0 => zbdi lf d a0),
 ⟨fun d => zaak _ _ _ (fun a0 => zbid lf d a0),
 ⟨fun d => zaak _ _ _ (fun a0 a1 => zbct lf d a0 a1),
 ⟨fun d => zaak _ _ _ (fun a0 a1 a2 => zbrc lf d a0 a1 a2),
 ⟨fun d => zaak _ _ _ (fun a0 => zbhx lf d a0),
 ⟨fun d => zaak _ _ _ (fun a0 a1 => zbgb lf d a0 a1),
 ⟨fun d => zaak _ _ _ (fun a0 => zbii lf d a0),
 ⟨fun d => zaak _ _ _ (fun a0 a1 => zbdr lf d a0 a1),
 ⟨fun d => zaak _ _ _ (fun a0 a1 => zbro lf d a0 a1),
 ⟨fun d => zaak _ _ _ (fun a0 a1 => zbgf lf d a0 a1),
 ⟨fun d => zaak _ _ _ (fun a0 a1 => zbme lf d a0 a1),
 ⟨fun d => zaak _ _ _ (fun a0 a1 a2 => zbly lf d a0 a1 a2),
 ⟨fun d => zaak _ _ _ (fun a0 a1 => zbnc lf d a0 a1),
 ⟨fun d => zaak _ _ _ (fun a0 => zbrs lf d a0),
 ⟨fun d => zaak _ _ _ (fun a0 a1 a2 => zbhh lf d a0 a1 a2),
 ⟨fun d => zaak _ _ _ (fun a0 a1 => zboc lf d a0 a1),
 ⟨fun d => zaak _ _ _ (fun a0 => zbox lf d a0),
 ⟨fun d => zaak _ _ _ (fun a0 a1 => zbmy lf d a0 a1),
 ⟨fun d => zaak _ _ _ (fun a0 => zbgx lf d a0),
 ⟨fun d => zaak _ _ _ (fun a0 a1 a2 => zbep lf d a0 a1 a2),
 ⟨fun d => zaak _ _ _ (fun a0 => zbgg lf d a0),
 ⟨fun d => zaak _ _ _ (zbgr lf d),
 ⟨fun d => zaak _ _ _ (fun a0 a1 => zbav lf d a0 a1),
 ⟨fun d => zaak _ _ _ (fun a0 => zbbj lf d a0),
 ⟨fun d => zaak _ _ _ (fun a0 a1 => zbes lf d a0 a1),
 ⟨fun d => zaak _ _ _ (fun a0 => zaza lf d a0),
 ⟨fun d => zaak _ _ _ (fun a0 a1 => zbcf lf d a0 a1),
 ⟨fun d => zaak _ _ _ (fun a0 => zbak lf d a0),
 ⟨fun d => zaak _ _ _ (fun a0 a1 => zaxy lf d a0 a1),
 ⟨fun d => zaak _ _ _ (fun a0 a1 => zbrd lf d a0 a1),
 ⟨fun d => zaak _ _ _ (fun a0 a1 => zbrg lf d a0 a1),
 ⟨fun d => zaak _ _ _ (fun a0 => zbks lf d a0),
 ⟨fun d => zaak _ _ _ (fun a0 => zbrr lf d a0),
 ⟨fun d => zaak _ _ _ (fun a0 a1 => zbnp lf d a0 a1),
 ⟨fun d => zaak _ _ _ (fun a0 a1 a2 => zbjw lf d a0 a1 a2),
 ⟨fun d => zaak _ _ _ (fun a0 => zbmw lf d a0),
 ⟨fun d => zaak _ _ _ (fun a0 => zayi lf d a0),
 ⟨fun d => zaak _ _ _ (fun a0 a1 => zbjz lf d a0 a1),
 ⟨fun d => zaak _ _ _ (fun a0 a1 a2 => zblp lf d a0 a1 a2),
 ⟨fun d => zaak _ _ _ (fun a0 => zbmo lf d a0),
 ⟨fun d => zaak _ _ _ (fun a0 a1 => zbnz lf d a0 a1),
 ⟨fun d => zaak _ _ _ (fun a0 a1 => zbrf lf d a0 a1),
 ⟨fun d => zaak _ _ _ (fun a0 => zbmh lf d a0),
 ⟨fun d => zaak _ _ _ (zbmt lf d),
 ⟨fun d => zaak _ _ _ (fun a0 a1 => zbih lf d a0 a1),
 ⟨fun d => zaak _ _ _ (fun a0 a1 => zbby lf d a0 a1),
 ⟨fun d => zaak _ _ _ (fun a0 a1 => zbbn lf d a0 a1),
 ⟨fun d => zaak _ _ _ (fun a0 => zbbe lf d a0),
 ⟨fun d => zaak _ _ _ (fun a0 => zbbm lf d a0),
 ⟨fun d => zaak _ _ _ (fun a0 a1 => zbmm lf d a0 a1),
 ⟨fun d => zaak _ _ _ (fun a0 => zbga lf d a0),
 ⟨fun d => zaak _ _ _ (fun a0 a1 => zbls lf d a0 a1),
 ⟨fun d => zaak _ _ _ (fun a0 a1 a2 => zblo lf d a0 a1 a2),
 ⟨fun d => zaak _ _ _ (fun a0 => zbkz lf d a0),
 ⟨fun d => zaak _ _ _ (fun a0 a1 => zapq lf d a0 a1),
 ⟨fun d => zaak _ _ _ (fun a0 a1 => zbnt lf d a0 a1),
 ⟨fun d => zaak _ _ _ (fun a0 a1 => zbcv lf d a0 a1),
 ⟨fun d => zaak _ _ _ (fun a0 => zbms lf d a0),
 ⟨fun d => zaak _ _ _ (fun a0 => zbkl lf d a0),
 ⟨fun d => zaak _ _ _ (fun a0 => zbom lf d a0),
 ⟨fun d => zaak _ _ _ (fun a0 a1 => zauf lf d a0 a1),
 ⟨fun d => zaak _ _ _ (fun a0 a1 a2 => zbjp lf d a0 a1 a2),
 ⟨fun d => zaak _ _ _ (fun a0 => zbtb lf d a0),
 ⟨fun d => zaak _ _ _ (fun a0 a1 => zbjl lf d a0 a1),
 ⟨fun d => zaak _ _ _ (fun a0 a1 => zbim lf d a0 a1),
 ⟨fun d => zaak _ _ _ (fun a0 a1 => zbbq lf d a0 a1),
 ⟨fun d => zaak _ _ _ (fun a0 a1 => zbcn lf d a0 a1),
 ⟨fun d => zaak _ _ _ (fun a0 a1 => zbbh lf d a0 a1),
 ⟨fun d => zaak _ _ _ (fun a0 => zbjq lf d a0),
 ⟨fun d => zaak _ _ _ (fun a0 a1 => zbnl lf d a0 a1),
 ⟨fun d => zaak _ _ _ (fun a0 a1 => zbsx lf d a0 a1),
 ⟨fun d => zaak _ _ _ (fun a0 => zbuh lf d a0),
 ⟨fun d => zaak _ _ _ (fun a0 a1 => zasn lf d a0 a1),
 ⟨fun d => zaak _ _ _ (fun a0 a1 => zbca lf d a0 a1),
 ⟨fun d => zaak _ _ _ (fun a0 a1 a2 => zbkq lf d a0 a1 a2),
 ⟨fun d => zaak _ _ _ (fun a0 => zbpk lf d a0),
 ⟨fun d => zaak _ _ _ (fun a0 => zbrt lf d a0),
 ⟨fun d => zaak _ _ _ (fun a0 a1 => zbgh lf d a0 a1),
 ⟨fun d => zaak _ _ _ (fun a0 => zbci lf d a0),
 ⟨fun d => zaak _ _ _ (fun a0 a1 => zazc lf d a0 a1),
 ⟨fun d => zaak _ _ _ (fun a0 => zbnq lf d a0),
 ⟨fun d => zaak _ _ _ (fun a0 => zblk lf d a0),
 ⟨fun d => zaak _ _ _ (fun a0 => zbmx lf d a0),
 ⟨fun d => zaak _ _ _ (fun a0 a1 a2 => zbiy lf d a0 a1 a2),
 ⟨fun d => zaak _ _ _ (fun a0 => zbdn lf d a0),
 ⟨fun d => zaak _ _ _ (fun a0 a1 => zbgz lf d a0 a1),
 ⟨fun d => zaak _ _ _ (fun a0 => zblb lf d a0),
 ⟨fun d => zaak _ _ _ (fun a0 => zbev lf d a0),
 ⟨fun d => zaak _ _ _ (fun a0 a1 a2 => zbgs lf d a0 a1 a2),
 ⟨fun d => zaak _ _ _ (fun a0 a1 => zaoa lf d a0 a1),
 ⟨fun d => zaak _ _ _ (fun a0 a1 a2 => zbiz lf d a0 a1 a2),
 ⟨fun d => zaak _ _ _ (fun a0 a1 => zbfy lf d a0 a1),
 ⟨fun d => zaak _ _ _ (fun a0 a1 a2 => zast lf d a0 a1 a2),
 ⟨fun d => zaak _ _ _ (fun a0 => zbjm lf d a0),
 ⟨fun d => zaak _ _ _ (fun a0 a1 a2 a3 => zamh lf d a0 a1 a2 a3),
 ⟨fun d => zaak _ _ _ (fun a0 a1 a2 a3 a4 => zaqy lf d a0 a1 a2 a3 a4),
 ⟨fun d => zaak _ _ _ (fun a0 a1 a2 a3 a4 => zasz lf d a0 a1 a2 a3 a4),
 ⟨fun d => zaak _ _ _ (fun a0 a1 a2 a3 a4 => zapo lf d a0 a1 a2 a3 a4), trivial⟩⟩⟩⟩⟩⟩⟩⟩⟩⟩⟩⟩⟩⟩⟩⟩⟩⟩⟩⟩⟩⟩⟩⟩⟩⟩⟩⟩⟩⟩⟩⟩⟩⟩⟩⟩⟩⟩⟩⟩⟩⟩⟩⟩⟩⟩⟩⟩⟩⟩⟩⟩⟩⟩⟩⟩⟩⟩⟩⟩⟩⟩⟩⟩⟩⟩⟩⟩⟩⟩⟩⟩⟩⟩⟩⟩⟩⟩⟩⟩⟩⟩⟩⟩⟩⟩⟩⟩⟩⟩⟩⟩⟩⟩⟩⟩⟩⟩⟩⟩⟩⟩⟩⟩⟩
noncomputable def fast (lf : Nat) : Nat → RT := fastT (evC lf) (fTab lf)
theorem fast_eq (lf d : Nat) : fast lf d = evC lf d := zbtw (zchb lf) d

end Go.Proofs.YtdagfcflbphoiaaGreatDoor.Fa
namespace Go.Proofs.YtdagfcflbphoiaaGreatDoor.Ev
set_option linter.unusedVariables false
set_option linter.unusedSimpArgs false
open Go Go.RowKit
theorem closedN {P : Program} {kn : List FuncId} (hnm : okNames P = true) (hok : okProg P kn = true) (hmix : P.follows .mixedOrders = true) (hkn : Known P kn) (hd : okDsts P = true) {gt : Nat → List Nat} {lf d : Nat} {f : FuncId} {w : World} {m : Mp} {h : H} (x : Laid P w m h P.globals.size) (hr : yieldsTrue (evCallN kn P gt lf d f #[] h P.globals.size) = true) :
    Calls P f #[] w fun e w' => e = .returned (.bool true) ∧ Below w.heap.size w w' := by
  cases ho : evCallN kn P gt lf d f #[] h P.globals.size with
  | none => rw [ho] at hr; cases hr
  | some o =>
    obtain ⟨v, h1, n1, L⟩ := o
    rw [ho] at hr
    obtain ⟨f0, hf0⟩ := zbsp hd d f #[] h _ v h1 n1 L ho
    refine zbuj hnm hok hmix hkn x (fuel := f0) ?_
    have e : evCall P kn f0 f #[] h P.globals.size = some ⟨v, h1, n1, L⟩ := hf0 f0 (Nat.le_refl _)
    rw [e]
    exact hr

end Go.Proofs.YtdagfcflbphoiaaGreatDoor.Ev

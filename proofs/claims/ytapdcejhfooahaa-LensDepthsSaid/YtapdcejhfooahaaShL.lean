/- What the evaluator's second form makes of the lens package's functions. -/
import Derived.Test.YtapdcejhfooahaaBase
import Derived.Test.YtapdcejhfooahaaEvS
namespace Go.Proofs.Ytapdcejhfooahaa
set_option linter.unusedVariables false
set_option linter.unusedSimpArgs false
open Go.RowKit Ev
def gtL : List (List Nat) := [[], [], [], [0, 2, 3, 4, 12, 31], [0, 2, 3, 4, 5, 7, 10, 17, 18, 19, 20, 25, 31, 39], [0, 2, 3, 4, 17], [0, 2, 3, 4, 12, 29, 42], [0, 1, 4, 5, 6, 7, 8, 9, 10, 40, 55, 56, 57, 58, 59, 74], [0, 2, 3, 4, 5, 6, 7, 8, 21, 36, 37, 38, 39, 40, 44, 45, 46, 47, 64], [], [0, 2, 3, 4, 5, 6, 7, 20, 24, 25, 26, 27, 41], [0, 1, 2, 6, 8, 9, 10, 11, 12, 22], [0, 1, 4, 5, 10, 12, 13, 14, 24], [0, 2, 3, 5, 6, 7, 8, 9, 10, 14, 20, 21, 25], [0, 2, 3, 4, 6, 14, 15, 16, 17, 18], [0, 2, 3, 5, 6, 7, 8, 9], [0, 2, 3, 5, 6, 7, 8, 9, 10, 14, 15, 16], [0, 2, 3, 16], [0, 2, 3, 4, 5, 9, 10, 11, 12], [0, 2, 3, 5, 6, 7, 8, 9, 13], [0, 2, 3, 4, 5, 6, 7, 8, 9, 10, 11, 12, 13, 15, 18, 19, 20, 21, 39, 66, 67, 68, 69], [0, 1, 2, 4, 5, 6], [0, 2, 3, 4, 5, 6, 11, 12, 13, 32], [0, 2, 4], [0, 2, 3, 4, 5, 6, 7, 8, 9, 18], [0, 1, 4, 5, 6, 7, 8, 9, 10, 11, 17], [0, 1, 4], [0, 1, 2, 4], [0, 1, 2, 3, 4, 12, 13, 14], [0, 2, 3, 46], [0, 1, 2], [0, 1, 2, 3, 4], [0, 1, 4, 5, 7, 8, 9, 16], [0, 1], [0, 1, 2, 5], [0, 1, 4, 5, 6, 11, 12, 13, 16, 19], [0, 1, 2, 6, 7, 8, 9, 13, 30, 35, 54], [0, 2], [0, 1, 2, 3, 8, 9, 14, 34], [0, 1, 2, 3, 4, 10, 11, 12, 13, 14, 15, 16, 17, 18, 19, 20, 21, 22, 23, 24, 28, 33, 50, 58, 80, 85, 103, 110, 140, 151, 171, 185, 199, 213], [0, 1, 2, 3, 4, 10, 11, 20, 23], [0, 1, 2, 3, 10, 13], [], [], [], [], [], [], [], [], [], [], [], [], [], [], [], [], []]
def gt (f : Nat) : List Nat := gtL.getD f []
theorem okd : okDsts Try.prog = true := by kernel_rfl
theorem len22 (a : Option Addr) (n c : Nat) : len2 Try.prog #[22] [.slice a n c] = some (.int .i64 n) := len_slice Try.underlying22 a n c
theorem nt3 : isNilT Try.prog 3 = false := by kernel_rfl
theorem bgtr3 (a b : Int) : bin2 Try.prog .gtr 3 (.int .i64 a) (.int .i64 b) = some (.bool (decide (b < a))) := b_gtr nt3 a b
theorem bleq3 (a b : Int) : bin2 Try.prog .leq 3 (.int .i64 a) (.int .i64 b) = some (.bool (decide (a ≤ b))) := b_leq nt3 a b
theorem blss3 (a b : Int) : bin2 Try.prog .lss 3 (.int .i64 a) (.int .i64 b) = some (.bool (decide (a < b))) := b_lss nt3 a b
theorem nt24 : isNilT Try.prog 24 = false := by kernel_rfl
theorem beql24 (a b : Int) : bin2 Try.prog .eql 24 (.int .i64 a) (.int .i64 b) = some (.bool (a == b)) := b_eql nt24 a b
theorem beql3 (a b : Int) : bin2 Try.prog .eql 3 (.int .i64 a) (.int .i64 b) = some (.bool (a == b)) := b_eql nt3 a b
theorem sz3 : size? Try.prog 3 = some 1 := by kernel_rfl
theorem ix22 (b off n c : Nat) (k : IntKind) (i : Int) (h0 : 0 ≤ i) (h1 : i < n) : evIndexAddr Try.prog 22 (.slice (some ⟨b, off, none⟩) n c) (.int k i) = some (.pointer (some ⟨b, off + i.toNat, none⟩)) := (ix_slice Try.underlying22 sz3 b off n c k i h0 h1).trans (by rw [Nat.mul_one])
theorem ag3 : agg? Try.prog 3 = some false := by kernel_rfl
theorem ldr3 {β : Type} {W : Nat → Prop} {n0 : Nat} {h : H} {n : Nat} {Q : β → H → Nat → Prop} (b off : Nat) (k : Value → M β) (hb : b < n) : Run W n0 ((inside (evLoad Try.prog 3 (.pointer (some ⟨b, off, none⟩)))).bind k) h n Q ↔ optG (h.get b) fun B => Run W n0 (optK (B.cells[off]?) k) h n Q := ld_iff ag3 b off k hb
theorem badd3 (a b : Int) : bin2 Try.prog .add 3 (.int .i64 a) (.int .i64 b) = some (.int .i64 (IntKind.i64.wrap (a + b))) := b_add nt3 a b
theorem bneq3 (a b : Int) : bin2 Try.prog .neq 3 (.int .i64 a) (.int .i64 b) = some (.bool (a != b)) := b_neq nt3 a b
theorem bneq24 (a b : Int) : bin2 Try.prog .neq 24 (.int .i64 a) (.int .i64 b) = some (.bool (a != b)) := b_neq nt24 a b
theorem bmul3 (a b : Int) : bin2 Try.prog .mul 3 (.int .i64 a) (.int .i64 b) = some (.int .i64 (IntKind.i64.wrap (a * b))) := b_mul nt3 a b
theorem c1x22 : Cell1 Try.prog 22 3 (Go.Value.int Go.IntKind.i64 0) := ⟨Try.underlying22, ⟨Try.t3, by kernel_rfl, by kernel_rfl, by decide⟩, by kernel_rfl, by kernel_rfl⟩
theorem ns22 : isStrT Try.prog 22 = false := by kernel_rfl
theorem str3 {β : Type} {W : Nat → Prop} {n0 : Nat} {h : H} {n : Nat} {Q : β → H → Nat → Prop} (b off : Nat) (v : Value) (k : Value → M β) (hb : b < n) (h1 : one v = true) : Run W n0 ((inside (evStore Try.prog 3 (.pointer (some ⟨b, off, none⟩)) v)).bind k) h n Q ↔ optG (h.get b) fun B => B.own = true ∧ off < B.cells.length ∧ (n0 ≤ b ∨ W b) ∧ Run W n0 (k undef) (h.set b (some ⟨B.elem, B.own, B.cells.set off v⟩)) n Q := st_iff sz3 b off v k hb h1
theorem bsub3 (a b : Int) : bin2 Try.prog .sub 3 (.int .i64 a) (.int .i64 b) = some (.int .i64 (IntKind.i64.wrap (a - b))) := b_sub nt3 a b
theorem bshl3 {k' : IntKind} (a b : Int) (h0 : 0 ≤ b) : bin2 Try.prog .shl 3 (.int .i64 a) (.int k' b) = some (.int .i64 (IntKind.i64.wrap (a * 2 ^ (min b.toNat (IntKind.i64).bits)))) := b_shl nt3 a b h0
theorem bquo3 (a b : Int) (h0 : b ≠ 0) : bin2 Try.prog .quo 3 (.int .i64 a) (.int .i64 b) = some (.int .i64 (IntKind.i64.wrap (a.tdiv b))) := b_quo nt3 a b h0
theorem bd36x0x1x2 (v0 : Int) (v1 : Int) (v2a : Option Addr) (v2n v2c : Nat) : evBuild Try.prog 36 [(0, (Value.int .i64 v0)), (1, (Value.int .i64 v1)), (2, (Value.slice v2a v2n v2c))] = M.ret (.agg #[(Value.int .i64 v0), (Value.int .i64 v1), (Value.slice v2a v2n v2c)]) := by kernel_rfl
theorem len34 (a : Option Addr) (n c : Nat) : len2 Try.prog #[34] [.slice a n c] = some (.int .i64 n) := len_slice Try.underlying34 a n c
theorem sz36 : size? Try.prog 36 = some 3 := by kernel_rfl
theorem ix34 (b off n c : Nat) (k : IntKind) (i : Int) (h0 : 0 ≤ i) (h1 : i < n) : evIndexAddr Try.prog 34 (.slice (some ⟨b, off, none⟩) n c) (.int k i) = some (.pointer (some ⟨b, off + i.toNat * 3, none⟩)) := ix_slice Try.underlying34 sz36 b off n c k i h0 h1
theorem zr36 : zero? Try.prog 36 = some (Go.Value.agg #[(Go.Value.int Go.IntKind.i64 0), (Go.Value.int Go.IntKind.i64 0), (Go.Value.slice none 0 0)]) := by kernel_rfl
theorem fa36f2 (b off : Nat) : evFieldAddr Try.prog 36 (.pointer (some ⟨b, off, none⟩)) 2 = some (.pointer (some ⟨b, off + 2, none⟩)) := by kernel_rfl
theorem ag22 : agg? Try.prog 22 = some false := by kernel_rfl
theorem ldr22 {β : Type} {W : Nat → Prop} {n0 : Nat} {h : H} {n : Nat} {Q : β → H → Nat → Prop} (b off : Nat) (k : Value → M β) (hb : b < n) : Run W n0 ((inside (evLoad Try.prog 22 (.pointer (some ⟨b, off, none⟩)))).bind k) h n Q ↔ optG (h.get b) fun B => Run W n0 (optK (B.cells[off]?) k) h n Q := ld_iff ag22 b off k hb
theorem fa36f0 (b off : Nat) : evFieldAddr Try.prog 36 (.pointer (some ⟨b, off, none⟩)) 0 = some (.pointer (some ⟨b, off + 0, none⟩)) := by kernel_rfl
theorem fa46f0 (b off : Nat) : evFieldAddr Try.prog 46 (.pointer (some ⟨b, off, none⟩)) 0 = some (.pointer (some ⟨b, off + 0, none⟩)) := by kernel_rfl
theorem bgeq3 (a b : Int) : bin2 Try.prog .geq 3 (.int .i64 a) (.int .i64 b) = some (.bool (decide (b ≤ a))) := b_geq nt3 a b
theorem fa46f1 (b off : Nat) : evFieldAddr Try.prog 46 (.pointer (some ⟨b, off, none⟩)) 1 = some (.pointer (some ⟨b, off + 1, none⟩)) := by kernel_rfl
theorem beql22s (a : Addr) (n c : Nat) : bin2 Try.prog .eql 22 (.slice (some a) n c) (.slice none 0 0) = some (.bool false) := by kernel_rfl
theorem beql22n (n c : Nat) : bin2 Try.prog .eql 22 (.slice none n c) (.slice none 0 0) = some (.bool true) := by kernel_rfl
theorem sz22 : size? Try.prog 22 = some 1 := by kernel_rfl
theorem bd46x0x3 (v0a : Option Addr) (v0n v0c : Nat) (v3 : Int) : evBuild Try.prog 46 [(0, (Value.slice v0a v0n v0c)), (3, (Value.int .i64 v3))] = M.ret (.agg #[(Value.slice v0a v0n v0c), (Go.Value.slice none 0 0), (Go.Value.slice none 0 0), (Value.int .i64 v3)]) := by kernel_rfl
theorem sz46 : size? Try.prog 46 = some 4 := by kernel_rfl
theorem fa46f2 (b off : Nat) : evFieldAddr Try.prog 46 (.pointer (some ⟨b, off, none⟩)) 2 = some (.pointer (some ⟨b, off + 2, none⟩)) := by kernel_rfl
theorem str22 {β : Type} {W : Nat → Prop} {n0 : Nat} {h : H} {n : Nat} {Q : β → H → Nat → Prop} (b off : Nat) (v : Value) (k : Value → M β) (hb : b < n) (h1 : one v = true) : Run W n0 ((inside (evStore Try.prog 22 (.pointer (some ⟨b, off, none⟩)) v)).bind k) h n Q ↔ optG (h.get b) fun B => B.own = true ∧ off < B.cells.length ∧ (n0 ≤ b ∨ W b) ∧ Run W n0 (k undef) (h.set b (some ⟨B.elem, B.own, B.cells.set off v⟩)) n Q := st_iff sz22 b off v k hb h1
theorem fa46f3 (b off : Nat) : evFieldAddr Try.prog 46 (.pointer (some ⟨b, off, none⟩)) 3 = some (.pointer (some ⟨b, off + 3, none⟩)) := by kernel_rfl
theorem fa36f1 (b off : Nat) : evFieldAddr Try.prog 36 (.pointer (some ⟨b, off, none⟩)) 1 = some (.pointer (some ⟨b, off + 1, none⟩)) := by kernel_rfl
theorem cv3x54 {β : Type} (x : Int) (k : Value → M β) : conv2 Try.prog 3 54 (.int .i64 x) k = k (.int .u64 (IntKind.u64.wrap x)) := by kernel_rfl
theorem nt54 : isNilT Try.prog 54 = false := by kernel_rfl
theorem bshr54 {k' : IntKind} (a b : Int) (h0 : 0 ≤ b) : bin2 Try.prog .shr 54 (.int .u64 a) (.int k' b) = some (.int .u64 (a.fdiv (2 ^ (min b.toNat (IntKind.u64).bits)))) := b_shr nt54 a b h0
theorem cv54x3 {β : Type} (x : Int) (k : Value → M β) : conv2 Try.prog 54 3 (.int .u64 x) k = k (.int .i64 (IntKind.i64.wrap x)) := by kernel_rfl

/- balerlaw09_LensOf -/
noncomputable def b_balerlaw09_LensOf (lf d : Nat) (a0 : Value) : M Value :=
  optK (len2 Try.prog #[22] [a0]) fun v6n1 =>
  optK (bin2 Try.prog .gtr 3 v6n1 (Value.int .i64 40)) fun v7n2 =>
  ifV v7n2 (
    optK (len2 Try.prog #[22] [a0]) fun v10n3 =>
    optK (bin2 Try.prog .leq 3 v10n3 (Value.int .i64 258)) fun v11n4 =>
    ifV v11n4 (
      (inside (evCall2 Try.prog gt lf d 9 #[])).bind fun v13n5 =>
      outK [v13n5]) (
      (inside (evCall2 Try.prog gt lf d 10 #[a0])).bind fun v16n6 =>
      optK (evExtract v16n6 0) fun v17n7 =>
      optK (evExtract v16n6 1) fun v18n8 =>
      optK (len2 Try.prog #[22] [a0]) fun v20n9 =>
      optK (bin2 Try.prog .lss 3 v20n9 (Value.int .i64 3)) fun v21n10 =>
      ifV v21n10 (
        optK (bin2 Try.prog .eql 24 v18n8 (Value.int .i64 1)) fun v33n11 =>
        ifV v33n11 (
          optK (len2 Try.prog #[22] [v17n7]) fun v36n12 =>
          optK (bin2 Try.prog .eql 3 v36n12 (Value.int .i64 0)) fun v37n13 =>
          ifV v37n13 (
            (inside (evCall2 Try.prog gt lf d 9 #[])).bind fun v40n14 =>
            outK [v40n14]) (
            outK [(Value.bool false)])) (
          outK [(Value.bool false)])) (
        optK (len2 Try.prog #[22] [a0]) fun v24n15 =>
        optK (bin2 Try.prog .gtr 3 v24n15 (Value.int .i64 258)) fun v25n16 =>
        ifV v25n16 (
          optK (bin2 Try.prog .eql 24 v18n8 (Value.int .i64 1)) fun v33n17 =>
          ifV v33n17 (
            optK (len2 Try.prog #[22] [v17n7]) fun v36n18 =>
            optK (bin2 Try.prog .eql 3 v36n18 (Value.int .i64 0)) fun v37n19 =>
            ifV v37n19 (
              (inside (evCall2 Try.prog gt lf d 9 #[])).bind fun v40n20 =>
              outK [v40n20]) (
              outK [(Value.bool false)])) (
            outK [(Value.bool false)])) (
          (inside (evCall2 Try.prog gt lf d 11 #[a0, (Value.int .i64 0), (Value.int .i64 1099511627776)])).bind fun v29n21 =>
          optK (un2 Try.prog .not v29n21) fun v30n22 =>
          ifV v30n22 (
            optK (bin2 Try.prog .eql 24 v18n8 (Value.int .i64 1)) fun v33n23 =>
            ifV v33n23 (
              optK (len2 Try.prog #[22] [v17n7]) fun v36n24 =>
              optK (bin2 Try.prog .eql 3 v36n24 (Value.int .i64 0)) fun v37n25 =>
              ifV v37n25 (
                (inside (evCall2 Try.prog gt lf d 9 #[])).bind fun v40n26 =>
                outK [v40n26]) (
                outK [(Value.bool false)])) (
              outK [(Value.bool false)])) (
            optK (bin2 Try.prog .eql 24 v18n8 (Value.int .i64 0)) fun v43n27 =>
            ifV v43n27 (
              (inside (evCall2 Try.prog gt lf d 13 #[a0])).bind fun v47n28 =>
              (inside (evCall2 Try.prog gt lf d 12 #[v17n7, v47n28])).bind fun v48n29 =>
              ifV v48n29 (
                (inside (evCall2 Try.prog gt lf d 9 #[])).bind fun v51n30 =>
                outK [v51n30]) (
                outK [(Value.bool false)])) (
              outK [(Value.bool false)])))))) (
    (inside (evCall2 Try.prog gt lf d 10 #[a0])).bind fun v16n31 =>
    optK (evExtract v16n31 0) fun v17n32 =>
    optK (evExtract v16n31 1) fun v18n33 =>
    optK (len2 Try.prog #[22] [a0]) fun v20n34 =>
    optK (bin2 Try.prog .lss 3 v20n34 (Value.int .i64 3)) fun v21n35 =>
    ifV v21n35 (
      optK (bin2 Try.prog .eql 24 v18n33 (Value.int .i64 1)) fun v33n36 =>
      ifV v33n36 (
        optK (len2 Try.prog #[22] [v17n32]) fun v36n37 =>
        optK (bin2 Try.prog .eql 3 v36n37 (Value.int .i64 0)) fun v37n38 =>
        ifV v37n38 (
          (inside (evCall2 Try.prog gt lf d 9 #[])).bind fun v40n39 =>
          outK [v40n39]) (
          outK [(Value.bool false)])) (
        outK [(Value.bool false)])) (
      optK (len2 Try.prog #[22] [a0]) fun v24n40 =>
      optK (bin2 Try.prog .gtr 3 v24n40 (Value.int .i64 258)) fun v25n41 =>
      ifV v25n41 (
        optK (bin2 Try.prog .eql 24 v18n33 (Value.int .i64 1)) fun v33n42 =>
        ifV v33n42 (
          optK (len2 Try.prog #[22] [v17n32]) fun v36n43 =>
          optK (bin2 Try.prog .eql 3 v36n43 (Value.int .i64 0)) fun v37n44 =>
          ifV v37n44 (
            (inside (evCall2 Try.prog gt lf d 9 #[])).bind fun v40n45 =>
            outK [v40n45]) (
            outK [(Value.bool false)])) (
          outK [(Value.bool false)])) (
        (inside (evCall2 Try.prog gt lf d 11 #[a0, (Value.int .i64 0), (Value.int .i64 1099511627776)])).bind fun v29n46 =>
        optK (un2 Try.prog .not v29n46) fun v30n47 =>
        ifV v30n47 (
          optK (bin2 Try.prog .eql 24 v18n33 (Value.int .i64 1)) fun v33n48 =>
          ifV v33n48 (
            optK (len2 Try.prog #[22] [v17n32]) fun v36n49 =>
            optK (bin2 Try.prog .eql 3 v36n49 (Value.int .i64 0)) fun v37n50 =>
            ifV v37n50 (
              (inside (evCall2 Try.prog gt lf d 9 #[])).bind fun v40n51 =>
              outK [v40n51]) (
              outK [(Value.bool false)])) (
            outK [(Value.bool false)])) (
          optK (bin2 Try.prog .eql 24 v18n33 (Value.int .i64 0)) fun v43n52 =>
          ifV v43n52 (
            (inside (evCall2 Try.prog gt lf d 13 #[a0])).bind fun v47n53 =>
            (inside (evCall2 Try.prog gt lf d 12 #[v17n32, v47n53])).bind fun v48n54 =>
            ifV v48n54 (
              (inside (evCall2 Try.prog gt lf d 9 #[])).bind fun v51n55 =>
              outK [v51n55]) (
              outK [(Value.bool false)])) (
            outK [(Value.bool false)])))))
theorem sh_balerlaw09_LensOf (lf d : Nat) (a0 : Value) : evCall2 Try.prog gt lf (d + 1) 3 #[a0] = inside (b_balerlaw09_LensOf lf d a0) := by kernel_rfl

/- balerlaw09_LensShare -/
noncomputable def lpA_balerlaw09_LensShare (lf d fu : Nat) (k : Ex → Fr → M Value) (x0 : Value) (x2 : Value) (x3 : Value) (x4 : Value) (x5 : Value) (x10 : Value) (x17 : Value) (x18 : Value) (x19 : Value) : M Value := loopK (fun s1 k1 => codeK Try.prog (evCall2 Try.prog gt lf d) (gt 4) lf (codeAt (bodyOf Try.prog 4) [true, true, true, true, false, true, false, false]) s1 k1) [0, 2, 3, 4, 5, 10, 17, 18, 19] fu [(0, x0), (2, x2), (3, x3), (4, x4), (5, x5), (10, x10), (17, x17), (18, x18), (19, x19)] k
noncomputable def kcA_balerlaw09_LensShare (lf d : Nat) : Ex → Fr → M Value := contAt Try.prog (evCall2 Try.prog gt lf d) (gt 4) lf (bodyOf Try.prog 4) [true, true, true, true, false, true, false] (endK Try.prog (resOf Try.prog 4))
noncomputable def b_balerlaw09_LensShare (lf d : Nat) (a0 : Value) : M Value :=
  optK (len2 Try.prog #[22] [a0]) fun v9n1 =>
  optK (bin2 Try.prog .gtr 3 v9n1 (Value.int .i64 600)) fun v10n2 =>
  ifV v10n2 (
    (inside (evCall2 Try.prog gt lf d 9 #[])).bind fun v11n3 =>
    outK [v11n3]) (
    (inside (evCall2 Try.prog gt lf d 14 #[a0])).bind fun v14n4 =>
    optK (evExtract v14n4 0) fun v15n5 =>
    optK (evExtract v14n4 1) fun v16n6 =>
    optK (len2 Try.prog #[22] [a0]) fun v18n7 =>
    lpA_balerlaw09_LensShare lf d lf (kcA_balerlaw09_LensShare lf d) a0 (Value.bool false) v15n5 v16n6 (Value.int .i64 0) v10n2 a0 v18n7 (Value.int .i64 0))
theorem sh_balerlaw09_LensShare (lf d : Nat) (a0 : Value) : evCall2 Try.prog gt lf (d + 1) 4 #[a0] = inside (b_balerlaw09_LensShare lf d a0) := by kernel_rfl
theorem zeroA_balerlaw09_LensShare (lf d : Nat) (k : Ex → Fr → M Value) (x0 : Value) (x2 : Value) (x3 : Value) (x4 : Value) (x5 : Value) (x10 : Value) (x17 : Value) (x18 : Value) (x19 : Value) : lpA_balerlaw09_LensShare lf d 0 k x0 x2 x3 x4 x5 x10 x17 x18 x19 = M.fail := rfl
theorem succA_balerlaw09_LensShare (lf d fu : Nat) (k : Ex → Fr → M Value) (x0 : Value) (x2 : Value) (x3 : Value) (x4 : Value) (x5 : Value) (x10 : Value) (x17 : Value) (x18 : Value) (x19 : Value) : lpA_balerlaw09_LensShare lf d (fu + 1) k x0 x2 x3 x4 x5 x10 x17 x18 x19 =
  optK (bin2 Try.prog .lss 3 x19 x18) fun v20n8 =>
  ifV v20n8 (
    optK (evIndexAddr Try.prog 22 x17 x19) fun v21n9 =>
    (inside (evLoad Try.prog 3 v21n9)).bind fun v22n10 =>
    optK (bin2 Try.prog .gtr 3 v22n10 x5) fun v25n11 =>
    ifV v25n11 (
      optK (bin2 Try.prog .add 3 x19 (Value.int .i64 1)) fun v27n12 =>
      lpA_balerlaw09_LensShare lf d fu k x0 x2 x3 x4 v22n10 x10 x17 x18 v27n12) (
      optK (bin2 Try.prog .add 3 x19 (Value.int .i64 1)) fun v27n13 =>
      lpA_balerlaw09_LensShare lf d fu k x0 x2 x3 x4 x5 x10 x17 x18 v27n13)) (
    k (Ex.exit 0) [(0, x0), (2, x2), (3, x3), (4, x4), (5, x5), (10, x10), (17, x17), (18, x18), (19, x19), (20, v20n8)]) := by kernel_rfl
theorem kcAa_balerlaw09_LensShare (lf d : Nat) (y0 : Value) (y2 : Value) (y3 : Value) (y4 : Value) (y5 : Value) (y10 : Value) (y17 : Value) (y18 : Value) (y19 : Value) (y20 : Value) : kcA_balerlaw09_LensShare lf d (Ex.exit 0) [(0, y0), (2, y2), (3, y3), (4, y4), (5, y5), (10, y10), (17, y17), (18, y18), (19, y19), (20, y20)] =
  (inside (evCall2 Try.prog gt lf d 15 #[y0])).bind fun v29n14 =>
  optK (bin2 Try.prog .neq 3 v29n14 y5) fun v31n15 =>
  ifV v31n15 (
    outK [(Value.bool false)]) (
    optK (len2 Try.prog #[22] [y0]) fun v33n16 =>
    optK (bin2 Try.prog .gtr 3 v33n16 (Value.int .i64 258)) fun v34n17 =>
    ifV v34n17 (
      optK (bin2 Try.prog .eql 24 y4 (Value.int .i64 1)) fun v41n18 =>
      ifV v41n18 (
        optK (bin2 Try.prog .eql 3 y3 (Value.int .i64 0)) fun v44n19 =>
        ifV v44n19 (
          (inside (evCall2 Try.prog gt lf d 9 #[])).bind fun v47n20 =>
          outK [v47n20]) (
          outK [(Value.bool false)])) (
        outK [(Value.bool false)])) (
      (inside (evCall2 Try.prog gt lf d 11 #[y0, (Value.int .i64 0), (Value.int .i64 20)])).bind fun v37n21 =>
      optK (un2 Try.prog .not v37n21) fun v38n22 =>
      ifV v38n22 (
        optK (bin2 Try.prog .eql 24 y4 (Value.int .i64 1)) fun v41n23 =>
        ifV v41n23 (
          optK (bin2 Try.prog .eql 3 y3 (Value.int .i64 0)) fun v44n24 =>
          ifV v44n24 (
            (inside (evCall2 Try.prog gt lf d 9 #[])).bind fun v47n25 =>
            outK [v47n25]) (
            outK [(Value.bool false)])) (
          outK [(Value.bool false)])) (
        optK (bin2 Try.prog .eql 24 y4 (Value.int .i64 0)) fun v50n26 =>
        ifV v50n26 (
          (inside (evCall2 Try.prog gt lf d 16 #[y0])).bind fun v54n27 =>
          optK (bin2 Try.prog .eql 3 y3 v54n27) fun v55n28 =>
          ifV v55n28 (
            (inside (evCall2 Try.prog gt lf d 9 #[])).bind fun v58n29 =>
            outK [v58n29]) (
            outK [(Value.bool false)])) (
          outK [(Value.bool false)])))) := by kernel_rfl

/- balerlaw09_LensWhole -/
noncomputable def b_balerlaw09_LensWhole (lf d : Nat) (a0 : Value) : M Value :=
  optK (len2 Try.prog #[22] [a0]) fun v6n1 =>
  optK (bin2 Try.prog .lss 3 v6n1 (Value.int .i64 3)) fun v7n2 =>
  ifV v7n2 (
    (inside (evCall2 Try.prog gt lf d 9 #[])).bind fun v18n3 =>
    outK [v18n3]) (
    optK (len2 Try.prog #[22] [a0]) fun v10n4 =>
    optK (bin2 Try.prog .gtr 3 v10n4 (Value.int .i64 258)) fun v11n5 =>
    ifV v11n5 (
      (inside (evCall2 Try.prog gt lf d 9 #[])).bind fun v18n6 =>
      outK [v18n6]) (
      (inside (evCall2 Try.prog gt lf d 11 #[a0, (Value.int .i64 0), (Value.int .i64 1099511627776)])).bind fun v15n7 =>
      optK (un2 Try.prog .not v15n7) fun v16n8 =>
      ifV v16n8 (
        (inside (evCall2 Try.prog gt lf d 9 #[])).bind fun v18n9 =>
        outK [v18n9]) (
        (inside (evCall2 Try.prog gt lf d 10 #[a0])).bind fun v21n10 =>
        optK (evExtract v21n10 0) fun v22n11 =>
        optK (evExtract v21n10 1) fun v23n12 =>
        optK (bin2 Try.prog .eql 24 v23n12 (Value.int .i64 0)) fun v25n13 =>
        ifV v25n13 (
          optK (len2 Try.prog #[22] [v22n11]) fun v28n14 =>
          optK (len2 Try.prog #[22] [a0]) fun v30n15 =>
          optK (bin2 Try.prog .eql 3 v28n14 v30n15) fun v31n16 =>
          ifV v31n16 (
            (inside (evCall2 Try.prog gt lf d 11 #[v22n11, (Value.int .i64 1), (Value.int .i64 20)])).bind fun v35n17 =>
            ifV v35n17 (
              (inside (evCall2 Try.prog gt lf d 16 #[v22n11])).bind fun v39n18 =>
              optK (bin2 Try.prog .eql 3 v39n18 (Value.int .i64 1048576)) fun v40n19 =>
              ifV v40n19 (
                (inside (evCall2 Try.prog gt lf d 9 #[])).bind fun v43n20 =>
                outK [v43n20]) (
                outK [(Value.bool false)])) (
              outK [(Value.bool false)])) (
            outK [(Value.bool false)])) (
          outK [(Value.bool false)]))))
theorem sh_balerlaw09_LensWhole (lf d : Nat) (a0 : Value) : evCall2 Try.prog gt lf (d + 1) 5 #[a0] = inside (b_balerlaw09_LensWhole lf d a0) := by kernel_rfl

/- balerlaw09_LensDepths -/
noncomputable def b_balerlaw09_LensDepths (lf d : Nat) (a0 : Value) : M Value :=
  optK (len2 Try.prog #[22] [a0]) fun v6n1 =>
  optK (bin2 Try.prog .gtr 3 v6n1 (Value.int .i64 40)) fun v7n2 =>
  ifV v7n2 (
    optK (len2 Try.prog #[22] [a0]) fun v10n3 =>
    optK (bin2 Try.prog .leq 3 v10n3 (Value.int .i64 258)) fun v11n4 =>
    ifV v11n4 (
      (inside (evCall2 Try.prog gt lf d 9 #[])).bind fun v13n5 =>
      outK [v13n5]) (
      (inside (evCall2 Try.prog gt lf d 17 #[a0])).bind fun v16n6 =>
      optK (evExtract v16n6 0) fun v17n7 =>
      optK (evExtract v16n6 1) fun v18n8 =>
      optK (len2 Try.prog #[22] [a0]) fun v20n9 =>
      optK (bin2 Try.prog .leq 3 v20n9 (Value.int .i64 40)) fun v21n10 =>
      ifV v21n10 (
        (inside (evCall2 Try.prog gt lf d 18 #[a0])).bind fun v24n11 =>
        (inside (evCall2 Try.prog gt lf d 19 #[a0])).bind fun v26n12 =>
        (inside (evCall2 Try.prog gt lf d 12 #[v24n11, v26n12])).bind fun v27n13 =>
        optK (un2 Try.prog .not v27n13) fun v28n14 =>
        ifV v28n14 (
          outK [(Value.bool false)]) (
          optK (len2 Try.prog #[22] [a0]) fun v31n15 =>
          optK (bin2 Try.prog .lss 3 v31n15 (Value.int .i64 2)) fun v32n16 =>
          ifV v32n16 (
            optK (bin2 Try.prog .eql 24 v18n8 (Value.int .i64 1)) fun v44n17 =>
            ifV v44n17 (
              optK (len2 Try.prog #[22] [v17n7]) fun v47n18 =>
              optK (bin2 Try.prog .eql 3 v47n18 (Value.int .i64 0)) fun v48n19 =>
              ifV v48n19 (
                (inside (evCall2 Try.prog gt lf d 9 #[])).bind fun v51n20 =>
                outK [v51n20]) (
                outK [(Value.bool false)])) (
              outK [(Value.bool false)])) (
            optK (len2 Try.prog #[22] [a0]) fun v35n21 =>
            optK (bin2 Try.prog .gtr 3 v35n21 (Value.int .i64 258)) fun v36n22 =>
            ifV v36n22 (
              optK (bin2 Try.prog .eql 24 v18n8 (Value.int .i64 1)) fun v44n23 =>
              ifV v44n23 (
                optK (len2 Try.prog #[22] [v17n7]) fun v47n24 =>
                optK (bin2 Try.prog .eql 3 v47n24 (Value.int .i64 0)) fun v48n25 =>
                ifV v48n25 (
                  (inside (evCall2 Try.prog gt lf d 9 #[])).bind fun v51n26 =>
                  outK [v51n26]) (
                  outK [(Value.bool false)])) (
                outK [(Value.bool false)])) (
              (inside (evCall2 Try.prog gt lf d 11 #[a0, (Value.int .i64 1), (Value.int .i64 1099511627776)])).bind fun v40n27 =>
              optK (un2 Try.prog .not v40n27) fun v41n28 =>
              ifV v41n28 (
                optK (bin2 Try.prog .eql 24 v18n8 (Value.int .i64 1)) fun v44n29 =>
                ifV v44n29 (
                  optK (len2 Try.prog #[22] [v17n7]) fun v47n30 =>
                  optK (bin2 Try.prog .eql 3 v47n30 (Value.int .i64 0)) fun v48n31 =>
                  ifV v48n31 (
                    (inside (evCall2 Try.prog gt lf d 9 #[])).bind fun v51n32 =>
                    outK [v51n32]) (
                    outK [(Value.bool false)])) (
                  outK [(Value.bool false)])) (
                optK (bin2 Try.prog .eql 24 v18n8 (Value.int .i64 0)) fun v54n33 =>
                ifV v54n33 (
                  (inside (evCall2 Try.prog gt lf d 20 #[a0])).bind fun v58n34 =>
                  (inside (evCall2 Try.prog gt lf d 12 #[v17n7, v58n34])).bind fun v59n35 =>
                  ifV v59n35 (
                    (inside (evCall2 Try.prog gt lf d 9 #[])).bind fun v62n36 =>
                    outK [v62n36]) (
                    outK [(Value.bool false)])) (
                  outK [(Value.bool false)])))))) (
        optK (len2 Try.prog #[22] [a0]) fun v31n37 =>
        optK (bin2 Try.prog .lss 3 v31n37 (Value.int .i64 2)) fun v32n38 =>
        ifV v32n38 (
          optK (bin2 Try.prog .eql 24 v18n8 (Value.int .i64 1)) fun v44n39 =>
          ifV v44n39 (
            optK (len2 Try.prog #[22] [v17n7]) fun v47n40 =>
            optK (bin2 Try.prog .eql 3 v47n40 (Value.int .i64 0)) fun v48n41 =>
            ifV v48n41 (
              (inside (evCall2 Try.prog gt lf d 9 #[])).bind fun v51n42 =>
              outK [v51n42]) (
              outK [(Value.bool false)])) (
            outK [(Value.bool false)])) (
          optK (len2 Try.prog #[22] [a0]) fun v35n43 =>
          optK (bin2 Try.prog .gtr 3 v35n43 (Value.int .i64 258)) fun v36n44 =>
          ifV v36n44 (
            optK (bin2 Try.prog .eql 24 v18n8 (Value.int .i64 1)) fun v44n45 =>
            ifV v44n45 (
              optK (len2 Try.prog #[22] [v17n7]) fun v47n46 =>
              optK (bin2 Try.prog .eql 3 v47n46 (Value.int .i64 0)) fun v48n47 =>
              ifV v48n47 (
                (inside (evCall2 Try.prog gt lf d 9 #[])).bind fun v51n48 =>
                outK [v51n48]) (
                outK [(Value.bool false)])) (
              outK [(Value.bool false)])) (
            (inside (evCall2 Try.prog gt lf d 11 #[a0, (Value.int .i64 1), (Value.int .i64 1099511627776)])).bind fun v40n49 =>
            optK (un2 Try.prog .not v40n49) fun v41n50 =>
            ifV v41n50 (
              optK (bin2 Try.prog .eql 24 v18n8 (Value.int .i64 1)) fun v44n51 =>
              ifV v44n51 (
                optK (len2 Try.prog #[22] [v17n7]) fun v47n52 =>
                optK (bin2 Try.prog .eql 3 v47n52 (Value.int .i64 0)) fun v48n53 =>
                ifV v48n53 (
                  (inside (evCall2 Try.prog gt lf d 9 #[])).bind fun v51n54 =>
                  outK [v51n54]) (
                  outK [(Value.bool false)])) (
                outK [(Value.bool false)])) (
              optK (bin2 Try.prog .eql 24 v18n8 (Value.int .i64 0)) fun v54n55 =>
              ifV v54n55 (
                (inside (evCall2 Try.prog gt lf d 20 #[a0])).bind fun v58n56 =>
                (inside (evCall2 Try.prog gt lf d 12 #[v17n7, v58n56])).bind fun v59n57 =>
                ifV v59n57 (
                  (inside (evCall2 Try.prog gt lf d 9 #[])).bind fun v62n58 =>
                  outK [v62n58]) (
                  outK [(Value.bool false)])) (
                outK [(Value.bool false)]))))))) (
    (inside (evCall2 Try.prog gt lf d 17 #[a0])).bind fun v16n59 =>
    optK (evExtract v16n59 0) fun v17n60 =>
    optK (evExtract v16n59 1) fun v18n61 =>
    optK (len2 Try.prog #[22] [a0]) fun v20n62 =>
    optK (bin2 Try.prog .leq 3 v20n62 (Value.int .i64 40)) fun v21n63 =>
    ifV v21n63 (
      (inside (evCall2 Try.prog gt lf d 18 #[a0])).bind fun v24n64 =>
      (inside (evCall2 Try.prog gt lf d 19 #[a0])).bind fun v26n65 =>
      (inside (evCall2 Try.prog gt lf d 12 #[v24n64, v26n65])).bind fun v27n66 =>
      optK (un2 Try.prog .not v27n66) fun v28n67 =>
      ifV v28n67 (
        outK [(Value.bool false)]) (
        optK (len2 Try.prog #[22] [a0]) fun v31n68 =>
        optK (bin2 Try.prog .lss 3 v31n68 (Value.int .i64 2)) fun v32n69 =>
        ifV v32n69 (
          optK (bin2 Try.prog .eql 24 v18n61 (Value.int .i64 1)) fun v44n70 =>
          ifV v44n70 (
            optK (len2 Try.prog #[22] [v17n60]) fun v47n71 =>
            optK (bin2 Try.prog .eql 3 v47n71 (Value.int .i64 0)) fun v48n72 =>
            ifV v48n72 (
              (inside (evCall2 Try.prog gt lf d 9 #[])).bind fun v51n73 =>
              outK [v51n73]) (
              outK [(Value.bool false)])) (
            outK [(Value.bool false)])) (
          optK (len2 Try.prog #[22] [a0]) fun v35n74 =>
          optK (bin2 Try.prog .gtr 3 v35n74 (Value.int .i64 258)) fun v36n75 =>
          ifV v36n75 (
            optK (bin2 Try.prog .eql 24 v18n61 (Value.int .i64 1)) fun v44n76 =>
            ifV v44n76 (
              optK (len2 Try.prog #[22] [v17n60]) fun v47n77 =>
              optK (bin2 Try.prog .eql 3 v47n77 (Value.int .i64 0)) fun v48n78 =>
              ifV v48n78 (
                (inside (evCall2 Try.prog gt lf d 9 #[])).bind fun v51n79 =>
                outK [v51n79]) (
                outK [(Value.bool false)])) (
              outK [(Value.bool false)])) (
            (inside (evCall2 Try.prog gt lf d 11 #[a0, (Value.int .i64 1), (Value.int .i64 1099511627776)])).bind fun v40n80 =>
            optK (un2 Try.prog .not v40n80) fun v41n81 =>
            ifV v41n81 (
              optK (bin2 Try.prog .eql 24 v18n61 (Value.int .i64 1)) fun v44n82 =>
              ifV v44n82 (
                optK (len2 Try.prog #[22] [v17n60]) fun v47n83 =>
                optK (bin2 Try.prog .eql 3 v47n83 (Value.int .i64 0)) fun v48n84 =>
                ifV v48n84 (
                  (inside (evCall2 Try.prog gt lf d 9 #[])).bind fun v51n85 =>
                  outK [v51n85]) (
                  outK [(Value.bool false)])) (
                outK [(Value.bool false)])) (
              optK (bin2 Try.prog .eql 24 v18n61 (Value.int .i64 0)) fun v54n86 =>
              ifV v54n86 (
                (inside (evCall2 Try.prog gt lf d 20 #[a0])).bind fun v58n87 =>
                (inside (evCall2 Try.prog gt lf d 12 #[v17n60, v58n87])).bind fun v59n88 =>
                ifV v59n88 (
                  (inside (evCall2 Try.prog gt lf d 9 #[])).bind fun v62n89 =>
                  outK [v62n89]) (
                  outK [(Value.bool false)])) (
                outK [(Value.bool false)])))))) (
      optK (len2 Try.prog #[22] [a0]) fun v31n90 =>
      optK (bin2 Try.prog .lss 3 v31n90 (Value.int .i64 2)) fun v32n91 =>
      ifV v32n91 (
        optK (bin2 Try.prog .eql 24 v18n61 (Value.int .i64 1)) fun v44n92 =>
        ifV v44n92 (
          optK (len2 Try.prog #[22] [v17n60]) fun v47n93 =>
          optK (bin2 Try.prog .eql 3 v47n93 (Value.int .i64 0)) fun v48n94 =>
          ifV v48n94 (
            (inside (evCall2 Try.prog gt lf d 9 #[])).bind fun v51n95 =>
            outK [v51n95]) (
            outK [(Value.bool false)])) (
          outK [(Value.bool false)])) (
        optK (len2 Try.prog #[22] [a0]) fun v35n96 =>
        optK (bin2 Try.prog .gtr 3 v35n96 (Value.int .i64 258)) fun v36n97 =>
        ifV v36n97 (
          optK (bin2 Try.prog .eql 24 v18n61 (Value.int .i64 1)) fun v44n98 =>
          ifV v44n98 (
            optK (len2 Try.prog #[22] [v17n60]) fun v47n99 =>
            optK (bin2 Try.prog .eql 3 v47n99 (Value.int .i64 0)) fun v48n100 =>
            ifV v48n100 (
              (inside (evCall2 Try.prog gt lf d 9 #[])).bind fun v51n101 =>
              outK [v51n101]) (
              outK [(Value.bool false)])) (
            outK [(Value.bool false)])) (
          (inside (evCall2 Try.prog gt lf d 11 #[a0, (Value.int .i64 1), (Value.int .i64 1099511627776)])).bind fun v40n102 =>
          optK (un2 Try.prog .not v40n102) fun v41n103 =>
          ifV v41n103 (
            optK (bin2 Try.prog .eql 24 v18n61 (Value.int .i64 1)) fun v44n104 =>
            ifV v44n104 (
              optK (len2 Try.prog #[22] [v17n60]) fun v47n105 =>
              optK (bin2 Try.prog .eql 3 v47n105 (Value.int .i64 0)) fun v48n106 =>
              ifV v48n106 (
                (inside (evCall2 Try.prog gt lf d 9 #[])).bind fun v51n107 =>
                outK [v51n107]) (
                outK [(Value.bool false)])) (
              outK [(Value.bool false)])) (
            optK (bin2 Try.prog .eql 24 v18n61 (Value.int .i64 0)) fun v54n108 =>
            ifV v54n108 (
              (inside (evCall2 Try.prog gt lf d 20 #[a0])).bind fun v58n109 =>
              (inside (evCall2 Try.prog gt lf d 12 #[v17n60, v58n109])).bind fun v59n110 =>
              ifV v59n110 (
                (inside (evCall2 Try.prog gt lf d 9 #[])).bind fun v62n111 =>
                outK [v62n111]) (
                outK [(Value.bool false)])) (
              outK [(Value.bool false)]))))))
theorem sh_balerlaw09_LensDepths (lf d : Nat) (a0 : Value) : evCall2 Try.prog gt lf (d + 1) 6 #[a0] = inside (b_balerlaw09_LensDepths lf d a0) := by kernel_rfl

/- balerlaw09_LensCheap -/
noncomputable def lpA_balerlaw09_LensCheap (lf d fu : Nat) (k : Ex → Fr → M Value) (x0 : Value) (x1 : Value) (x4 : Value) (x5 : Value) (x6 : Value) (x7 : Value) (x8 : Value) (x40 : Value) (x55 : Value) (x56 : Value) (x57 : Value) (x58 : Value) : M Value := loopK (fun s1 k1 => codeK Try.prog (evCall2 Try.prog gt lf d) (gt 7) lf (codeAt (bodyOf Try.prog 7) [true, true, true, true, true, true, false, true, false, false]) s1 k1) [0, 1, 4, 5, 6, 7, 8, 40, 55, 56, 57, 58] fu [(0, x0), (1, x1), (4, x4), (5, x5), (6, x6), (7, x7), (8, x8), (40, x40), (55, x55), (56, x56), (57, x57), (58, x58)] k
noncomputable def kcA_balerlaw09_LensCheap (lf d : Nat) : Ex → Fr → M Value := contAt Try.prog (evCall2 Try.prog gt lf d) (gt 7) lf (bodyOf Try.prog 7) [true, true, true, true, true, true, false, true, false] (endK Try.prog (resOf Try.prog 7))
noncomputable def b_balerlaw09_LensCheap (lf d : Nat) (a0 : Value) (a1 : Value) : M Value :=
  optK (len2 Try.prog #[22] [a0]) fun v12n1 =>
  optK (bin2 Try.prog .lss 3 v12n1 (Value.int .i64 2)) fun v13n2 =>
  ifV v13n2 (
    (inside (evCall2 Try.prog gt lf d 9 #[])).bind fun v41n3 =>
    outK [v41n3]) (
    optK (len2 Try.prog #[22] [a0]) fun v16n4 =>
    optK (bin2 Try.prog .gtr 3 v16n4 (Value.int .i64 258)) fun v17n5 =>
    ifV v17n5 (
      (inside (evCall2 Try.prog gt lf d 9 #[])).bind fun v41n6 =>
      outK [v41n6]) (
      optK (len2 Try.prog #[22] [a1]) fun v21n7 =>
      optK (len2 Try.prog #[22] [a0]) fun v23n8 =>
      optK (bin2 Try.prog .neq 3 v21n7 v23n8) fun v24n9 =>
      ifV v24n9 (
        (inside (evCall2 Try.prog gt lf d 9 #[])).bind fun v41n10 =>
        outK [v41n10]) (
        (inside (evCall2 Try.prog gt lf d 11 #[a0, (Value.int .i64 1), (Value.int .i64 1073741824)])).bind fun v28n11 =>
        optK (un2 Try.prog .not v28n11) fun v29n12 =>
        ifV v29n12 (
          (inside (evCall2 Try.prog gt lf d 9 #[])).bind fun v41n13 =>
          outK [v41n13]) (
          (inside (evCall2 Try.prog gt lf d 11 #[a1, (Value.int .i64 1), (Value.int .i64 20)])).bind fun v33n14 =>
          optK (un2 Try.prog .not v33n14) fun v34n15 =>
          ifV v34n15 (
            (inside (evCall2 Try.prog gt lf d 9 #[])).bind fun v41n16 =>
            outK [v41n16]) (
            (inside (evCall2 Try.prog gt lf d 16 #[a1])).bind fun v38n17 =>
            optK (bin2 Try.prog .gtr 3 v38n17 (Value.int .i64 1048576)) fun v39n18 =>
            ifV v39n18 (
              (inside (evCall2 Try.prog gt lf d 9 #[])).bind fun v41n19 =>
              outK [v41n19]) (
              (inside (evCall2 Try.prog gt lf d 17 #[a0])).bind fun v44n20 =>
              optK (evExtract v44n20 0) fun v45n21 =>
              optK (evExtract v44n20 1) fun v46n22 =>
              optK (bin2 Try.prog .neq 24 v46n22 (Value.int .i64 0)) fun v48n23 =>
              ifV v48n23 (
                outK [(Value.bool false)]) (
                optK (len2 Try.prog #[22] [v45n21]) fun v51n24 =>
                optK (len2 Try.prog #[22] [a0]) fun v53n25 =>
                optK (bin2 Try.prog .neq 3 v51n24 v53n25) fun v54n26 =>
                ifV v54n26 (
                  outK [(Value.bool false)]) (
                  optK (len2 Try.prog #[22] [a0]) fun v57n27 =>
                  lpA_balerlaw09_LensCheap lf d lf (kcA_balerlaw09_LensCheap lf d) a0 a1 (Value.bool false) v45n21 v46n22 (Value.int .i64 0) (Value.int .i64 0) v39n18 v54n26 a0 v57n27 (Value.int .i64 0)))))))))
theorem sh_balerlaw09_LensCheap (lf d : Nat) (a0 : Value) (a1 : Value) : evCall2 Try.prog gt lf (d + 1) 7 #[a0, a1] = inside (b_balerlaw09_LensCheap lf d a0 a1) := by kernel_rfl
theorem zeroA_balerlaw09_LensCheap (lf d : Nat) (k : Ex → Fr → M Value) (x0 : Value) (x1 : Value) (x4 : Value) (x5 : Value) (x6 : Value) (x7 : Value) (x8 : Value) (x40 : Value) (x55 : Value) (x56 : Value) (x57 : Value) (x58 : Value) : lpA_balerlaw09_LensCheap lf d 0 k x0 x1 x4 x5 x6 x7 x8 x40 x55 x56 x57 x58 = M.fail := rfl
theorem succA_balerlaw09_LensCheap (lf d fu : Nat) (k : Ex → Fr → M Value) (x0 : Value) (x1 : Value) (x4 : Value) (x5 : Value) (x6 : Value) (x7 : Value) (x8 : Value) (x40 : Value) (x55 : Value) (x56 : Value) (x57 : Value) (x58 : Value) : lpA_balerlaw09_LensCheap lf d (fu + 1) k x0 x1 x4 x5 x6 x7 x8 x40 x55 x56 x57 x58 =
  optK (bin2 Try.prog .lss 3 x58 x57) fun v59n28 =>
  ifV v59n28 (
    optK (evIndexAddr Try.prog 22 x56 x58) fun v61n29 =>
    (inside (evLoad Try.prog 3 v61n29)).bind fun v62n30 =>
    optK (evIndexAddr Try.prog 22 x5 x58) fun v65n31 =>
    (inside (evLoad Try.prog 3 v65n31)).bind fun v66n32 =>
    optK (bin2 Try.prog .lss 3 v66n32 (Value.int .i64 1)) fun v67n33 =>
    ifV v67n33 (
      k Ex.ret [(0, x0), (1, x1), (4, (Value.bool false)), (5, x5), (6, x6), (7, x7), (8, x8), (9, x58), (10, v62n30), (40, x40), (55, x55), (56, x56), (57, x57), (58, x58), (59, v59n28), (74, (Value.bool true))]) (
      optK (evIndexAddr Try.prog 22 x5 x58) fun v71n34 =>
      (inside (evLoad Try.prog 3 v71n34)).bind fun v72n35 =>
      optK (bin2 Try.prog .gtr 3 v72n35 (Value.int .i64 258)) fun v73n36 =>
      ifV v73n36 (
        k Ex.ret [(0, x0), (1, x1), (4, (Value.bool false)), (5, x5), (6, x6), (7, x7), (8, x8), (9, x58), (10, v62n30), (40, x40), (55, x55), (56, x56), (57, x57), (58, x58), (59, v59n28), (74, v73n36)]) (
        optK (evIndexAddr Try.prog 22 x5 x58) fun v79n37 =>
        (inside (evLoad Try.prog 3 v79n37)).bind fun v80n38 =>
        optK (bin2 Try.prog .mul 3 v62n30 v80n38) fun v81n39 =>
        optK (bin2 Try.prog .add 3 x7 v81n39) fun v82n40 =>
        optK (evIndexAddr Try.prog 22 x1 x58) fun v87n41 =>
        (inside (evLoad Try.prog 3 v87n41)).bind fun v88n42 =>
        optK (bin2 Try.prog .mul 3 v62n30 v88n42) fun v89n43 =>
        optK (bin2 Try.prog .add 3 x8 v89n43) fun v90n44 =>
        optK (bin2 Try.prog .add 3 x58 (Value.int .i64 1)) fun v91n45 =>
        lpA_balerlaw09_LensCheap lf d fu k x0 x1 x4 x5 x6 v82n40 v90n44 x40 x55 x56 x57 v91n45))) (
    k (Ex.exit 0) [(0, x0), (1, x1), (4, x4), (5, x5), (6, x6), (7, x7), (8, x8), (40, x40), (55, x55), (56, x56), (57, x57), (58, x58), (59, v59n28)]) := by kernel_rfl
theorem kcAa_balerlaw09_LensCheap (lf d : Nat) (y0 : Value) (y1 : Value) (y4 : Value) (y5 : Value) (y6 : Value) (y7 : Value) (y8 : Value) (y9 : Value) (y10 : Value) (y40 : Value) (y55 : Value) (y56 : Value) (y57 : Value) (y58 : Value) (y59 : Value) (y74 : Value) : kcA_balerlaw09_LensCheap lf d Ex.ret [(0, y0), (1, y1), (4, y4), (5, y5), (6, y6), (7, y7), (8, y8), (9, y9), (10, y10), (40, y40), (55, y55), (56, y56), (57, y57), (58, y58), (59, y59), (74, y74)] =
  outK [y4] := by kernel_rfl
theorem kcAb_balerlaw09_LensCheap (lf d : Nat) (y0 : Value) (y1 : Value) (y4 : Value) (y5 : Value) (y6 : Value) (y7 : Value) (y8 : Value) (y40 : Value) (y55 : Value) (y56 : Value) (y57 : Value) (y58 : Value) (y59 : Value) : kcA_balerlaw09_LensCheap lf d (Ex.exit 0) [(0, y0), (1, y1), (4, y4), (5, y5), (6, y6), (7, y7), (8, y8), (40, y40), (55, y55), (56, y56), (57, y57), (58, y58), (59, y59)] =
  optK (bin2 Try.prog .leq 3 y7 y8) fun v94n46 =>
  ifV v94n46 (
    (inside (evCall2 Try.prog gt lf d 9 #[])).bind fun v96n47 =>
    outK [v96n47]) (
    outK [(Value.bool false)]) := by kernel_rfl

/- balerlaw09_LensOrder -/
noncomputable def lpA_balerlaw09_LensOrder (lf d fu : Nat) (k : Ex → Fr → M Value) (x0 : Value) (x2 : Value) (x3 : Value) (x4 : Value) (x21 : Value) (x36 : Value) (x37 : Value) (x38 : Value) (x39 : Value) : M Value := loopK (fun s1 k1 => codeK Try.prog (evCall2 Try.prog gt lf d) (gt 8) lf (codeAt (bodyOf Try.prog 8) [true, true, true, true, false, true, false, false]) s1 k1) [0, 2, 3, 4, 21, 36, 37, 38, 39] fu [(0, x0), (2, x2), (3, x3), (4, x4), (21, x21), (36, x36), (37, x37), (38, x38), (39, x39)] k
noncomputable def kcA_balerlaw09_LensOrder (lf d : Nat) : Ex → Fr → M Value := contAt Try.prog (evCall2 Try.prog gt lf d) (gt 8) lf (bodyOf Try.prog 8) [true, true, true, true, false, true, false] (endK Try.prog (resOf Try.prog 8))
noncomputable def lpB_balerlaw09_LensOrder (lf d fu : Nat) (k : Ex → Fr → M Value) (x0 : Value) (x2 : Value) (x3 : Value) (x4 : Value) (x5 : Value) (x6 : Value) (x21 : Value) (x36 : Value) (x37 : Value) (x38 : Value) (x39 : Value) (x40 : Value) (x44 : Value) (x45 : Value) (x46 : Value) : M Value := loopK (fun s1 k1 => codeK Try.prog (evCall2 Try.prog gt lf d) (gt 8) lf (codeAt (bodyOf Try.prog 8) [true, true, true, true, false, true, false, false, true, true, false, false, true, true, false, false]) s1 k1) [0, 2, 3, 4, 5, 6, 21, 36, 37, 38, 39, 40, 44, 45, 46] fu [(0, x0), (2, x2), (3, x3), (4, x4), (5, x5), (6, x6), (21, x21), (36, x36), (37, x37), (38, x38), (39, x39), (40, x40), (44, x44), (45, x45), (46, x46)] k
noncomputable def kcB_balerlaw09_LensOrder (lf d fu : Nat) (k : Ex → Fr → M Value) : Ex → Fr → M Value := contAt Try.prog (evCall2 Try.prog gt lf d) (gt 8) lf (codeAt (bodyOf Try.prog 8) [true, true, true, true, false, true, false, false]) [true, true, false, false, true, true, false] (againK (fun s1 => loopK (fun s1 k1 => codeK Try.prog (evCall2 Try.prog gt lf d) (gt 8) lf (codeAt (bodyOf Try.prog 8) [true, true, true, true, false, true, false, false]) s1 k1) [0, 2, 3, 4, 21, 36, 37, 38, 39] fu (s1.keep [0, 2, 3, 4, 21, 36, 37, 38, 39]) k) k)
noncomputable def b_balerlaw09_LensOrder (lf d : Nat) (a0 : Value) : M Value :=
  optK (len2 Try.prog #[22] [a0]) fun v10n1 =>
  optK (bin2 Try.prog .lss 3 v10n1 (Value.int .i64 2)) fun v11n2 =>
  ifV v11n2 (
    (inside (evCall2 Try.prog gt lf d 9 #[])).bind fun v22n3 =>
    outK [v22n3]) (
    optK (len2 Try.prog #[22] [a0]) fun v14n4 =>
    optK (bin2 Try.prog .gtr 3 v14n4 (Value.int .i64 100)) fun v15n5 =>
    ifV v15n5 (
      (inside (evCall2 Try.prog gt lf d 9 #[])).bind fun v22n6 =>
      outK [v22n6]) (
      (inside (evCall2 Try.prog gt lf d 11 #[a0, (Value.int .i64 1), (Value.int .i64 1099511627776)])).bind fun v19n7 =>
      optK (un2 Try.prog .not v19n7) fun v20n8 =>
      ifV v20n8 (
        (inside (evCall2 Try.prog gt lf d 9 #[])).bind fun v22n9 =>
        outK [v22n9]) (
        (inside (evCall2 Try.prog gt lf d 17 #[a0])).bind fun v25n10 =>
        optK (evExtract v25n10 0) fun v26n11 =>
        optK (evExtract v25n10 1) fun v27n12 =>
        optK (bin2 Try.prog .neq 24 v27n12 (Value.int .i64 0)) fun v29n13 =>
        ifV v29n13 (
          outK [(Value.bool false)]) (
          optK (len2 Try.prog #[22] [v26n11]) fun v32n14 =>
          optK (len2 Try.prog #[22] [a0]) fun v34n15 =>
          optK (bin2 Try.prog .neq 3 v32n14 v34n15) fun v35n16 =>
          ifV v35n16 (
            outK [(Value.bool false)]) (
            optK (len2 Try.prog #[22] [a0]) fun v38n17 =>
            lpA_balerlaw09_LensOrder lf d lf (kcA_balerlaw09_LensOrder lf d) a0 (Value.bool false) v26n11 v27n12 v20n8 v35n16 a0 v38n17 (Value.int .i64 0))))))
theorem sh_balerlaw09_LensOrder (lf d : Nat) (a0 : Value) : evCall2 Try.prog gt lf (d + 1) 8 #[a0] = inside (b_balerlaw09_LensOrder lf d a0) := by kernel_rfl
theorem zeroA_balerlaw09_LensOrder (lf d : Nat) (k : Ex → Fr → M Value) (x0 : Value) (x2 : Value) (x3 : Value) (x4 : Value) (x21 : Value) (x36 : Value) (x37 : Value) (x38 : Value) (x39 : Value) : lpA_balerlaw09_LensOrder lf d 0 k x0 x2 x3 x4 x21 x36 x37 x38 x39 = M.fail := rfl
theorem succA_balerlaw09_LensOrder (lf d fu : Nat) (k : Ex → Fr → M Value) (x0 : Value) (x2 : Value) (x3 : Value) (x4 : Value) (x21 : Value) (x36 : Value) (x37 : Value) (x38 : Value) (x39 : Value) : lpA_balerlaw09_LensOrder lf d (fu + 1) k x0 x2 x3 x4 x21 x36 x37 x38 x39 =
  optK (bin2 Try.prog .lss 3 x39 x38) fun v40n18 =>
  ifV v40n18 (
    optK (evIndexAddr Try.prog 22 x37 x39) fun v42n19 =>
    (inside (evLoad Try.prog 3 v42n19)).bind fun v43n20 =>
    optK (len2 Try.prog #[22] [x0]) fun v45n21 =>
    lpB_balerlaw09_LensOrder lf d lf (kcB_balerlaw09_LensOrder lf d fu k) x0 x2 x3 x4 x39 v43n20 x21 x36 x37 x38 x39 v40n18 x0 v45n21 (Value.int .i64 0)) (
    k (Ex.exit 0) [(0, x0), (2, x2), (3, x3), (4, x4), (21, x21), (36, x36), (37, x37), (38, x38), (39, x39), (40, v40n18)]) := by kernel_rfl
theorem kcAa_balerlaw09_LensOrder (lf d : Nat) (y0 : Value) (y2 : Value) (y3 : Value) (y4 : Value) (y21 : Value) (y36 : Value) (y37 : Value) (y38 : Value) (y39 : Value) (y40 : Value) : kcA_balerlaw09_LensOrder lf d (Ex.exit 0) [(0, y0), (2, y2), (3, y3), (4, y4), (21, y21), (36, y36), (37, y37), (38, y38), (39, y39), (40, y40)] =
  (inside (evCall2 Try.prog gt lf d 9 #[])).bind fun v67n22 =>
  outK [v67n22] := by kernel_rfl
theorem zeroB_balerlaw09_LensOrder (lf d : Nat) (k : Ex → Fr → M Value) (x0 : Value) (x2 : Value) (x3 : Value) (x4 : Value) (x5 : Value) (x6 : Value) (x21 : Value) (x36 : Value) (x37 : Value) (x38 : Value) (x39 : Value) (x40 : Value) (x44 : Value) (x45 : Value) (x46 : Value) : lpB_balerlaw09_LensOrder lf d 0 k x0 x2 x3 x4 x5 x6 x21 x36 x37 x38 x39 x40 x44 x45 x46 = M.fail := rfl
theorem succB_balerlaw09_LensOrder (lf d fu : Nat) (k : Ex → Fr → M Value) (x0 : Value) (x2 : Value) (x3 : Value) (x4 : Value) (x5 : Value) (x6 : Value) (x21 : Value) (x36 : Value) (x37 : Value) (x38 : Value) (x39 : Value) (x40 : Value) (x44 : Value) (x45 : Value) (x46 : Value) : lpB_balerlaw09_LensOrder lf d (fu + 1) k x0 x2 x3 x4 x5 x6 x21 x36 x37 x38 x39 x40 x44 x45 x46 =
  optK (bin2 Try.prog .lss 3 x46 x45) fun v47n23 =>
  ifV v47n23 (
    optK (evIndexAddr Try.prog 22 x44 x46) fun v49n24 =>
    (inside (evLoad Try.prog 3 v49n24)).bind fun v50n25 =>
    optK (bin2 Try.prog .gtr 3 x6 v50n25) fun v53n26 =>
    ifV v53n26 (
      optK (evIndexAddr Try.prog 22 x3 x5) fun v57n27 =>
      (inside (evLoad Try.prog 3 v57n27)).bind fun v58n28 =>
      optK (evIndexAddr Try.prog 22 x3 x46) fun v61n29 =>
      (inside (evLoad Try.prog 3 v61n29)).bind fun v62n30 =>
      optK (bin2 Try.prog .gtr 3 v58n28 v62n30) fun v63n31 =>
      ifV v63n31 (
        k Ex.ret [(0, x0), (2, (Value.bool false)), (3, x3), (4, x4), (5, x5), (6, x6), (7, x46), (8, v50n25), (21, x21), (36, x36), (37, x37), (38, x38), (39, x39), (40, x40), (44, x44), (45, x45), (46, x46), (47, v47n23), (64, v63n31)]) (
        optK (bin2 Try.prog .add 3 x46 (Value.int .i64 1)) fun v65n32 =>
        lpB_balerlaw09_LensOrder lf d fu k x0 x2 x3 x4 x5 x6 x21 x36 x37 x38 x39 x40 x44 x45 v65n32)) (
      optK (bin2 Try.prog .add 3 x46 (Value.int .i64 1)) fun v65n33 =>
      lpB_balerlaw09_LensOrder lf d fu k x0 x2 x3 x4 x5 x6 x21 x36 x37 x38 x39 x40 x44 x45 v65n33)) (
    k (Ex.exit 2) [(0, x0), (2, x2), (3, x3), (4, x4), (5, x5), (6, x6), (21, x21), (36, x36), (37, x37), (38, x38), (39, x39), (40, x40), (44, x44), (45, x45), (46, x46), (47, v47n23)]) := by kernel_rfl
theorem kcBa_balerlaw09_LensOrder (lf d fu : Nat) (k : Ex → Fr → M Value) (y0 : Value) (y2 : Value) (y3 : Value) (y4 : Value) (y5 : Value) (y6 : Value) (y7 : Value) (y8 : Value) (y21 : Value) (y36 : Value) (y37 : Value) (y38 : Value) (y39 : Value) (y40 : Value) (y44 : Value) (y45 : Value) (y46 : Value) (y47 : Value) (y64 : Value) : kcB_balerlaw09_LensOrder lf d fu k Ex.ret [(0, y0), (2, y2), (3, y3), (4, y4), (5, y5), (6, y6), (7, y7), (8, y8), (21, y21), (36, y36), (37, y37), (38, y38), (39, y39), (40, y40), (44, y44), (45, y45), (46, y46), (47, y47), (64, y64)] =
  k Ex.ret [(0, y0), (2, y2), (3, y3), (4, y4), (5, y5), (6, y6), (7, y7), (8, y8), (21, y21), (36, y36), (37, y37), (38, y38), (39, y39), (40, y40), (44, y44), (45, y45), (46, y46), (47, y47), (64, y64)] := by kernel_rfl
theorem kcBb_balerlaw09_LensOrder (lf d fu : Nat) (k : Ex → Fr → M Value) (y0 : Value) (y2 : Value) (y3 : Value) (y4 : Value) (y5 : Value) (y6 : Value) (y21 : Value) (y36 : Value) (y37 : Value) (y38 : Value) (y39 : Value) (y40 : Value) (y44 : Value) (y45 : Value) (y46 : Value) (y47 : Value) : kcB_balerlaw09_LensOrder lf d fu k (Ex.exit 2) [(0, y0), (2, y2), (3, y3), (4, y4), (5, y5), (6, y6), (21, y21), (36, y36), (37, y37), (38, y38), (39, y39), (40, y40), (44, y44), (45, y45), (46, y46), (47, y47)] =
  optK (bin2 Try.prog .add 3 y39 (Value.int .i64 1)) fun v66n34 =>
  lpA_balerlaw09_LensOrder lf d fu k y0 y2 y3 y4 y21 y36 y37 y38 v66n34 := by kernel_rfl

/- lens_Of -/
noncomputable def lpA_lens_Of (lf d fu : Nat) (k : Ex → Fr → M Value) (x0 : Value) (x2 : Value) (x3 : Value) (x4 : Value) (x20 : Value) (x24 : Value) (x25 : Value) (x26 : Value) : M Value := loopK (fun s1 k1 => codeK Try.prog (evCall2 Try.prog gt lf d) (gt 10) lf (codeAt (bodyOf Try.prog 10) [true, true, true, false, true, false, false]) s1 k1) [0, 2, 3, 4, 20, 24, 25, 26] fu [(0, x0), (2, x2), (3, x3), (4, x4), (20, x20), (24, x24), (25, x25), (26, x26)] k
noncomputable def kcA_lens_Of (lf d : Nat) : Ex → Fr → M Value := contAt Try.prog (evCall2 Try.prog gt lf d) (gt 10) lf (bodyOf Try.prog 10) [true, true, true, false, true, false] (endK Try.prog (resOf Try.prog 10))
noncomputable def lpB_lens_Of (lf d fu : Nat) (k : Ex → Fr → M Value) (x0 : Value) (x2 : Value) (x3 : Value) (x4 : Value) (x20 : Value) (x24 : Value) (x25 : Value) (x26 : Value) (x27 : Value) : M Value := loopK (fun s1 k1 => codeK Try.prog (evCall2 Try.prog gt lf d) (gt 10) lf (codeAt (bodyOf Try.prog 10) [true, true, true, true, false, false]) s1 k1) [0, 2, 3, 4, 20, 24, 25, 26, 27] fu [(0, x0), (2, x2), (3, x3), (4, x4), (20, x20), (24, x24), (25, x25), (26, x26), (27, x27)] k
noncomputable def kcB_lens_Of (lf d : Nat) : Ex → Fr → M Value := contAt Try.prog (evCall2 Try.prog gt lf d) (gt 10) lf (bodyOf Try.prog 10) [true, true, true, true, false] (endK Try.prog (resOf Try.prog 10))
noncomputable def b_lens_Of (lf d : Nat) (a0 : Value) : M Value :=
  optK (len2 Try.prog #[22] [a0]) fun v9n1 =>
  optK (bin2 Try.prog .lss 3 v9n1 (Value.int .i64 3)) fun v10n2 =>
  ifV v10n2 (
    outK [(Value.slice none 0 0), (Value.int .i64 1)]) (
    optK (len2 Try.prog #[22] [a0]) fun v13n3 =>
    optK (bin2 Try.prog .gtr 3 v13n3 (Value.int .i64 258)) fun v14n4 =>
    ifV v14n4 (
      outK [(Value.slice none 0 0), (Value.int .i64 1)]) (
      (inside (evCall2 Try.prog gt lf d 21 #[a0, (Value.int .i64 0), (Value.int .i64 1099511627776)])).bind fun v18n5 =>
      optK (un2 Try.prog .not v18n5) fun v19n6 =>
      ifV v19n6 (
        outK [(Value.slice none 0 0), (Value.int .i64 1)]) (
        optK (len2 Try.prog #[22] [a0]) fun v22n7 =>
        (inside (evMakeSlice Try.prog 22 v22n7 v22n7)).bind fun v23n8 =>
        optK (len2 Try.prog #[22] [a0]) fun v25n9 =>
        lpA_lens_Of lf d lf (kcA_lens_Of lf d) a0 (Value.slice none 0 0) (Value.int .i64 0) v23n8 v19n6 a0 v25n9 (Value.int .i64 0))))
theorem sh_lens_Of (lf d : Nat) (a0 : Value) : evCall2 Try.prog gt lf (d + 1) 10 #[a0] = inside (b_lens_Of lf d a0) := by kernel_rfl
theorem zeroA_lens_Of (lf d : Nat) (k : Ex → Fr → M Value) (x0 : Value) (x2 : Value) (x3 : Value) (x4 : Value) (x20 : Value) (x24 : Value) (x25 : Value) (x26 : Value) : lpA_lens_Of lf d 0 k x0 x2 x3 x4 x20 x24 x25 x26 = M.fail := rfl
theorem succA_lens_Of (lf d fu : Nat) (k : Ex → Fr → M Value) (x0 : Value) (x2 : Value) (x3 : Value) (x4 : Value) (x20 : Value) (x24 : Value) (x25 : Value) (x26 : Value) : lpA_lens_Of lf d (fu + 1) k x0 x2 x3 x4 x20 x24 x25 x26 =
  optK (bin2 Try.prog .lss 3 x26 x25) fun v27n10 =>
  ifV v27n10 (
    optK (evIndexAddr Try.prog 22 x24 x26) fun v29n11 =>
    (inside (evLoad Try.prog 3 v29n11)).bind fun v30n12 =>
    optK (max2 [v30n12, (Value.int .i64 1)]) fun v34n13 =>
    optK (evIndexAddr Try.prog 22 x4 x26) fun v35n14 =>
    (inside (evStore Try.prog 3 v35n14 v34n13)).bind fun u15 =>
    optK (bin2 Try.prog .add 3 x26 (Value.int .i64 1)) fun v36n16 =>
    lpA_lens_Of lf d fu k x0 x2 x3 x4 x20 x24 x25 v36n16) (
    k (Ex.exit 0) [(0, x0), (2, x2), (3, x3), (4, x4), (20, x20), (24, x24), (25, x25), (26, x26), (27, v27n10)]) := by kernel_rfl
theorem kcAa_lens_Of (lf d : Nat) (y0 : Value) (y2 : Value) (y3 : Value) (y4 : Value) (y20 : Value) (y24 : Value) (y25 : Value) (y26 : Value) (y27 : Value) : kcA_lens_Of lf d (Ex.exit 0) [(0, y0), (2, y2), (3, y3), (4, y4), (20, y20), (24, y24), (25, y25), (26, y26), (27, y27)] =
  lpB_lens_Of lf d lf (kcB_lens_Of lf d) y0 y2 y3 y4 y20 y24 y25 y26 y27 := by kernel_rfl
theorem zeroB_lens_Of (lf d : Nat) (k : Ex → Fr → M Value) (x0 : Value) (x2 : Value) (x3 : Value) (x4 : Value) (x20 : Value) (x24 : Value) (x25 : Value) (x26 : Value) (x27 : Value) : lpB_lens_Of lf d 0 k x0 x2 x3 x4 x20 x24 x25 x26 x27 = M.fail := rfl
theorem succB_lens_Of (lf d fu : Nat) (k : Ex → Fr → M Value) (x0 : Value) (x2 : Value) (x3 : Value) (x4 : Value) (x20 : Value) (x24 : Value) (x25 : Value) (x26 : Value) (x27 : Value) : lpB_lens_Of lf d (fu + 1) k x0 x2 x3 x4 x20 x24 x25 x26 x27 =
  (inside (evCall2 Try.prog gt lf d 22 #[x4])).bind fun v38n17 =>
  (inside (evCall2 Try.prog gt lf d 15 #[v38n17])).bind fun v40n18 =>
  optK (bin2 Try.prog .leq 3 v40n18 (Value.int .i64 20)) fun v41n19 =>
  ifV v41n19 (
    (inside (evCall2 Try.prog gt lf d 23 #[v38n17])).bind fun v43n20 =>
    k Ex.ret [(0, x0), (2, v43n20), (3, (Value.int .i64 0)), (4, x4), (7, v38n17), (20, x20), (24, x24), (25, x25), (26, x26), (27, x27), (41, v41n19)]) (
    (inside (evCall2 Try.prog gt lf d 18 #[x4])).bind fun v45n21 =>
    lpB_lens_Of lf d fu k x0 x2 x3 v45n21 x20 x24 x25 x26 x27) := by kernel_rfl
theorem kcBa_lens_Of (lf d : Nat) (y0 : Value) (y2 : Value) (y3 : Value) (y4 : Value) (y7 : Value) (y20 : Value) (y24 : Value) (y25 : Value) (y26 : Value) (y27 : Value) (y41 : Value) : kcB_lens_Of lf d Ex.ret [(0, y0), (2, y2), (3, y3), (4, y4), (7, y7), (20, y20), (24, y24), (25, y25), (26, y26), (27, y27), (41, y41)] =
  outK [y2, y3] := by kernel_rfl

/- balerref09_May -/
noncomputable def lpA_balerref09_May (lf d fu : Nat) (k : Ex → Fr → M Value) (x0 : Value) (x1 : Value) (x2 : Value) (x6 : Value) (x9 : Value) (x10 : Value) (x11 : Value) : M Value := loopK (fun s1 k1 => codeK Try.prog (evCall2 Try.prog gt lf d) (gt 11) lf (codeAt (bodyOf Try.prog 11) [true, false, true, false, false]) s1 k1) [0, 1, 2, 6, 9, 10, 11] fu [(0, x0), (1, x1), (2, x2), (6, x6), (9, x9), (10, x10), (11, x11)] k
noncomputable def kcA_balerref09_May (lf d : Nat) : Ex → Fr → M Value := contAt Try.prog (evCall2 Try.prog gt lf d) (gt 11) lf (bodyOf Try.prog 11) [true, false, true, false] (endK Try.prog (resOf Try.prog 11))
noncomputable def b_balerref09_May (lf d : Nat) (a0 : Value) (a1 : Value) (a2 : Value) : M Value :=
  optK (len2 Try.prog #[22] [a0]) fun v10n1 =>
  lpA_balerref09_May lf d lf (kcA_balerref09_May lf d) a0 a1 a2 (Value.bool false) a0 v10n1 (Value.int .i64 0)
theorem sh_balerref09_May (lf d : Nat) (a0 : Value) (a1 : Value) (a2 : Value) : evCall2 Try.prog gt lf (d + 1) 11 #[a0, a1, a2] = inside (b_balerref09_May lf d a0 a1 a2) := by kernel_rfl
theorem zeroA_balerref09_May (lf d : Nat) (k : Ex → Fr → M Value) (x0 : Value) (x1 : Value) (x2 : Value) (x6 : Value) (x9 : Value) (x10 : Value) (x11 : Value) : lpA_balerref09_May lf d 0 k x0 x1 x2 x6 x9 x10 x11 = M.fail := rfl
theorem succA_balerref09_May (lf d fu : Nat) (k : Ex → Fr → M Value) (x0 : Value) (x1 : Value) (x2 : Value) (x6 : Value) (x9 : Value) (x10 : Value) (x11 : Value) : lpA_balerref09_May lf d (fu + 1) k x0 x1 x2 x6 x9 x10 x11 =
  optK (bin2 Try.prog .lss 3 x11 x10) fun v12n2 =>
  ifV v12n2 (
    optK (evIndexAddr Try.prog 22 x9 x11) fun v13n3 =>
    (inside (evLoad Try.prog 3 v13n3)).bind fun v14n4 =>
    optK (bin2 Try.prog .lss 3 v14n4 x1) fun v17n5 =>
    ifV v17n5 (
      k Ex.ret [(0, x0), (1, x1), (2, x2), (6, (Value.bool false)), (8, v14n4), (9, x9), (10, x10), (11, x11), (12, v12n2), (22, (Value.bool true))]) (
      optK (bin2 Try.prog .gtr 3 v14n4 x2) fun v21n6 =>
      ifV v21n6 (
        k Ex.ret [(0, x0), (1, x1), (2, x2), (6, (Value.bool false)), (8, v14n4), (9, x9), (10, x10), (11, x11), (12, v12n2), (22, v21n6)]) (
        optK (bin2 Try.prog .add 3 x11 (Value.int .i64 1)) fun v23n7 =>
        lpA_balerref09_May lf d fu k x0 x1 x2 x6 x9 x10 v23n7))) (
    k (Ex.exit 0) [(0, x0), (1, x1), (2, x2), (6, x6), (9, x9), (10, x10), (11, x11), (12, v12n2)]) := by kernel_rfl
theorem kcAa_balerref09_May (lf d : Nat) (y0 : Value) (y1 : Value) (y2 : Value) (y6 : Value) (y8 : Value) (y9 : Value) (y10 : Value) (y11 : Value) (y12 : Value) (y22 : Value) : kcA_balerref09_May lf d Ex.ret [(0, y0), (1, y1), (2, y2), (6, y6), (8, y8), (9, y9), (10, y10), (11, y11), (12, y12), (22, y22)] =
  outK [y6] := by kernel_rfl
theorem kcAb_balerref09_May (lf d : Nat) (y0 : Value) (y1 : Value) (y2 : Value) (y6 : Value) (y9 : Value) (y10 : Value) (y11 : Value) (y12 : Value) : kcA_balerref09_May lf d (Ex.exit 0) [(0, y0), (1, y1), (2, y2), (6, y6), (9, y9), (10, y10), (11, y11), (12, y12)] =
  outK [(Value.bool true)] := by kernel_rfl

/- balerplain_Ints -/
noncomputable def lpA_balerplain_Ints (lf d fu : Nat) (k : Ex → Fr → M Value) (x0 : Value) (x1 : Value) (x4 : Value) (x10 : Value) (x12 : Value) (x13 : Value) : M Value := loopK (fun s1 k1 => codeK Try.prog (evCall2 Try.prog gt lf d) (gt 12) lf (codeAt (bodyOf Try.prog 12) [true, true, false, true, false, false]) s1 k1) [0, 1, 4, 10, 12, 13] fu [(0, x0), (1, x1), (4, x4), (10, x10), (12, x12), (13, x13)] k
noncomputable def kcA_balerplain_Ints (lf d : Nat) : Ex → Fr → M Value := contAt Try.prog (evCall2 Try.prog gt lf d) (gt 12) lf (bodyOf Try.prog 12) [true, true, false, true, false] (endK Try.prog (resOf Try.prog 12))
noncomputable def b_balerplain_Ints (lf d : Nat) (a0 : Value) (a1 : Value) : M Value :=
  optK (len2 Try.prog #[22] [a0]) fun v7n1 =>
  optK (len2 Try.prog #[22] [a1]) fun v9n2 =>
  optK (bin2 Try.prog .neq 3 v7n1 v9n2) fun v10n3 =>
  ifV v10n3 (
    outK [(Value.bool false)]) (
    optK (len2 Try.prog #[22] [a0]) fun v12n4 =>
    lpA_balerplain_Ints lf d lf (kcA_balerplain_Ints lf d) a0 a1 (Value.bool false) v10n3 v12n4 (Value.int .i64 0))
theorem sh_balerplain_Ints (lf d : Nat) (a0 : Value) (a1 : Value) : evCall2 Try.prog gt lf (d + 1) 12 #[a0, a1] = inside (b_balerplain_Ints lf d a0 a1) := by kernel_rfl
theorem zeroA_balerplain_Ints (lf d : Nat) (k : Ex → Fr → M Value) (x0 : Value) (x1 : Value) (x4 : Value) (x10 : Value) (x12 : Value) (x13 : Value) : lpA_balerplain_Ints lf d 0 k x0 x1 x4 x10 x12 x13 = M.fail := rfl
theorem succA_balerplain_Ints (lf d fu : Nat) (k : Ex → Fr → M Value) (x0 : Value) (x1 : Value) (x4 : Value) (x10 : Value) (x12 : Value) (x13 : Value) : lpA_balerplain_Ints lf d (fu + 1) k x0 x1 x4 x10 x12 x13 =
  optK (bin2 Try.prog .lss 3 x13 x12) fun v14n5 =>
  ifV v14n5 (
    optK (evIndexAddr Try.prog 22 x0 x13) fun v18n6 =>
    (inside (evLoad Try.prog 3 v18n6)).bind fun v19n7 =>
    optK (evIndexAddr Try.prog 22 x1 x13) fun v22n8 =>
    (inside (evLoad Try.prog 3 v22n8)).bind fun v23n9 =>
    optK (bin2 Try.prog .neq 3 v19n7 v23n9) fun v24n10 =>
    ifV v24n10 (
      k Ex.ret [(0, x0), (1, x1), (4, (Value.bool false)), (5, x13), (10, x10), (12, x12), (13, x13), (14, v14n5), (24, v24n10)]) (
      optK (bin2 Try.prog .add 3 x13 (Value.int .i64 1)) fun v25n11 =>
      lpA_balerplain_Ints lf d fu k x0 x1 x4 x10 x12 v25n11)) (
    k (Ex.exit 0) [(0, x0), (1, x1), (4, x4), (10, x10), (12, x12), (13, x13), (14, v14n5)]) := by kernel_rfl
theorem kcAa_balerplain_Ints (lf d : Nat) (y0 : Value) (y1 : Value) (y4 : Value) (y5 : Value) (y10 : Value) (y12 : Value) (y13 : Value) (y14 : Value) (y24 : Value) : kcA_balerplain_Ints lf d Ex.ret [(0, y0), (1, y1), (4, y4), (5, y5), (10, y10), (12, y12), (13, y13), (14, y14), (24, y24)] =
  outK [y4] := by kernel_rfl
theorem kcAb_balerplain_Ints (lf d : Nat) (y0 : Value) (y1 : Value) (y4 : Value) (y10 : Value) (y12 : Value) (y13 : Value) (y14 : Value) : kcA_balerplain_Ints lf d (Ex.exit 0) [(0, y0), (1, y1), (4, y4), (10, y10), (12, y12), (13, y13), (14, y14)] =
  outK [(Value.bool true)] := by kernel_rfl

/- balerref09_Of -/
noncomputable def lpA_balerref09_Of (lf d fu : Nat) (k : Ex → Fr → M Value) (x0 : Value) (x2 : Value) (x3 : Value) (x7 : Value) (x8 : Value) (x9 : Value) : M Value := loopK (fun s1 k1 => codeK Try.prog (evCall2 Try.prog gt lf d) (gt 13) lf (codeAt (bodyOf Try.prog 13) [true, true, false, true, false, false]) s1 k1) [0, 2, 3, 7, 8, 9] fu [(0, x0), (2, x2), (3, x3), (7, x7), (8, x8), (9, x9)] k
noncomputable def kcA_balerref09_Of (lf d : Nat) : Ex → Fr → M Value := contAt Try.prog (evCall2 Try.prog gt lf d) (gt 13) lf (bodyOf Try.prog 13) [true, true, false, true, false] (endK Try.prog (resOf Try.prog 13))
noncomputable def lpB_balerref09_Of (lf d fu : Nat) (k : Ex → Fr → M Value) (x0 : Value) (x2 : Value) (x3 : Value) (x7 : Value) (x8 : Value) (x9 : Value) (x10 : Value) (x20 : Value) : M Value := loopK (fun s1 k1 => codeK Try.prog (evCall2 Try.prog gt lf d) (gt 13) lf (codeAt (bodyOf Try.prog 13) [true, true, true, false, true, false, false]) s1 k1) [0, 2, 3, 7, 8, 9, 10, 20] fu [(0, x0), (2, x2), (3, x3), (7, x7), (8, x8), (9, x9), (10, x10), (20, x20)] k
noncomputable def kcB_balerref09_Of (lf d : Nat) : Ex → Fr → M Value := contAt Try.prog (evCall2 Try.prog gt lf d) (gt 13) lf (bodyOf Try.prog 13) [true, true, true, false, true, false] (endK Try.prog (resOf Try.prog 13))
noncomputable def b_balerref09_Of (lf d : Nat) (a0 : Value) : M Value :=
  optK (len2 Try.prog #[22] [a0]) fun v8n1 =>
  lpA_balerref09_Of lf d lf (kcA_balerref09_Of lf d) a0 (Value.slice none 0 0) (Value.slice none 0 0) a0 v8n1 (Value.int .i64 0)
theorem sh_balerref09_Of (lf d : Nat) (a0 : Value) : evCall2 Try.prog gt lf (d + 1) 13 #[a0] = inside (b_balerref09_Of lf d a0) := by kernel_rfl
theorem zeroA_balerref09_Of (lf d : Nat) (k : Ex → Fr → M Value) (x0 : Value) (x2 : Value) (x3 : Value) (x7 : Value) (x8 : Value) (x9 : Value) : lpA_balerref09_Of lf d 0 k x0 x2 x3 x7 x8 x9 = M.fail := rfl
theorem succA_balerref09_Of (lf d fu : Nat) (k : Ex → Fr → M Value) (x0 : Value) (x2 : Value) (x3 : Value) (x7 : Value) (x8 : Value) (x9 : Value) : lpA_balerref09_Of lf d (fu + 1) k x0 x2 x3 x7 x8 x9 =
  optK (bin2 Try.prog .lss 3 x9 x8) fun v10n2 =>
  ifV v10n2 (
    optK (evIndexAddr Try.prog 22 x7 x9) fun v11n3 =>
    (inside (evLoad Try.prog 3 v11n3)).bind fun v12n4 =>
    optK (bin2 Try.prog .eql 3 v12n4 (Value.int .i64 0)) fun v14n5 =>
    ifV v14n5 (
      (inside (evBuildSlice Try.prog 22 1 [(0, (Value.int .i64 1))])).bind fun v17n6 =>
      (inside (evAppend Try.prog 22 x3 v17n6)).bind fun v18n7 =>
      optK (bin2 Try.prog .add 3 x9 (Value.int .i64 1)) fun v19n8 =>
      lpA_balerref09_Of lf d fu k x0 x2 v18n7 x7 x8 v19n8) (
      (inside (evBuildSlice Try.prog 22 1 [(0, v12n4)])).bind fun v17n9 =>
      (inside (evAppend Try.prog 22 x3 v17n9)).bind fun v18n10 =>
      optK (bin2 Try.prog .add 3 x9 (Value.int .i64 1)) fun v19n11 =>
      lpA_balerref09_Of lf d fu k x0 x2 v18n10 x7 x8 v19n11)) (
    k (Ex.exit 0) [(0, x0), (2, x2), (3, x3), (7, x7), (8, x8), (9, x9), (10, v10n2)]) := by kernel_rfl
theorem kcAa_balerref09_Of (lf d : Nat) (y0 : Value) (y2 : Value) (y3 : Value) (y7 : Value) (y8 : Value) (y9 : Value) (y10 : Value) : kcA_balerref09_Of lf d (Ex.exit 0) [(0, y0), (2, y2), (3, y3), (7, y7), (8, y8), (9, y9), (10, y10)] =
  lpB_balerref09_Of lf d lf (kcB_balerref09_Of lf d) y0 y2 y3 y7 y8 y9 y10 (Value.int .i64 0) := by kernel_rfl
theorem zeroB_balerref09_Of (lf d : Nat) (k : Ex → Fr → M Value) (x0 : Value) (x2 : Value) (x3 : Value) (x7 : Value) (x8 : Value) (x9 : Value) (x10 : Value) (x20 : Value) : lpB_balerref09_Of lf d 0 k x0 x2 x3 x7 x8 x9 x10 x20 = M.fail := rfl
theorem succB_balerref09_Of (lf d fu : Nat) (k : Ex → Fr → M Value) (x0 : Value) (x2 : Value) (x3 : Value) (x7 : Value) (x8 : Value) (x9 : Value) (x10 : Value) (x20 : Value) : lpB_balerref09_Of lf d (fu + 1) k x0 x2 x3 x7 x8 x9 x10 x20 =
  optK (bin2 Try.prog .lss 3 x20 (Value.int .i64 100)) fun v21n12 =>
  ifV v21n12 (
    (inside (evCall2 Try.prog gt lf d 20 #[x3])).bind fun v23n13 =>
    (inside (evCall2 Try.prog gt lf d 11 #[v23n13, (Value.int .i64 1), (Value.int .i64 20)])).bind fun v25n14 =>
    ifV v25n14 (
      k Ex.ret [(0, x0), (2, v23n13), (3, x3), (6, v23n13), (7, x7), (8, x8), (9, x9), (10, x10), (20, x20), (21, v21n12), (25, v25n14)]) (
      (inside (evCall2 Try.prog gt lf d 19 #[x3])).bind fun v28n15 =>
      optK (bin2 Try.prog .add 3 x20 (Value.int .i64 1)) fun v29n16 =>
      lpB_balerref09_Of lf d fu k x0 x2 v28n15 x7 x8 x9 x10 v29n16)) (
    k (Ex.exit 2) [(0, x0), (2, x2), (3, x3), (7, x7), (8, x8), (9, x9), (10, x10), (20, x20), (21, v21n12)]) := by kernel_rfl
theorem kcBa_balerref09_Of (lf d : Nat) (y0 : Value) (y2 : Value) (y3 : Value) (y6 : Value) (y7 : Value) (y8 : Value) (y9 : Value) (y10 : Value) (y20 : Value) (y21 : Value) (y25 : Value) : kcB_balerref09_Of lf d Ex.ret [(0, y0), (2, y2), (3, y3), (6, y6), (7, y7), (8, y8), (9, y9), (10, y10), (20, y20), (21, y21), (25, y25)] =
  outK [y2] := by kernel_rfl
theorem kcBb_balerref09_Of (lf d : Nat) (y0 : Value) (y2 : Value) (y3 : Value) (y7 : Value) (y8 : Value) (y9 : Value) (y10 : Value) (y20 : Value) (y21 : Value) : kcB_balerref09_Of lf d (Ex.exit 2) [(0, y0), (2, y2), (3, y3), (7, y7), (8, y8), (9, y9), (10, y10), (20, y20), (21, y21)] =
  outK [(Value.slice none 0 0)] := by kernel_rfl

/- lens_Share -/
noncomputable def lpA_lens_Share (lf d fu : Nat) (k : Ex → Fr → M Value) (x0 : Value) (x2 : Value) (x3 : Value) (x4 : Value) (x14 : Value) (x15 : Value) (x16 : Value) (x17 : Value) : M Value := loopK (fun s1 k1 => codeK Try.prog (evCall2 Try.prog gt lf d) (gt 14) lf (codeAt (bodyOf Try.prog 14) [true, true, true, false, true, false, false]) s1 k1) [0, 2, 3, 4, 14, 15, 16, 17] fu [(0, x0), (2, x2), (3, x3), (4, x4), (14, x14), (15, x15), (16, x16), (17, x17)] k
noncomputable def kcA_lens_Share (lf d : Nat) : Ex → Fr → M Value := contAt Try.prog (evCall2 Try.prog gt lf d) (gt 14) lf (bodyOf Try.prog 14) [true, true, true, false, true, false] (endK Try.prog (resOf Try.prog 14))
noncomputable def b_lens_Share (lf d : Nat) (a0 : Value) : M Value :=
  optK (len2 Try.prog #[22] [a0]) fun v8n1 =>
  optK (bin2 Try.prog .gtr 3 v8n1 (Value.int .i64 258)) fun v9n2 =>
  ifV v9n2 (
    outK [(Value.int .i64 0), (Value.int .i64 1)]) (
    (inside (evCall2 Try.prog gt lf d 21 #[a0, (Value.int .i64 0), (Value.int .i64 20)])).bind fun v12n3 =>
    optK (un2 Try.prog .not v12n3) fun v13n4 =>
    ifV v13n4 (
      outK [(Value.int .i64 0), (Value.int .i64 1)]) (
      optK (len2 Try.prog #[22] [a0]) fun v16n5 =>
      lpA_lens_Share lf d lf (kcA_lens_Share lf d) a0 (Value.int .i64 0) (Value.int .i64 0) (Value.int .i64 0) v13n4 a0 v16n5 (Value.int .i64 0)))
theorem sh_lens_Share (lf d : Nat) (a0 : Value) : evCall2 Try.prog gt lf (d + 1) 14 #[a0] = inside (b_lens_Share lf d a0) := by kernel_rfl
theorem zeroA_lens_Share (lf d : Nat) (k : Ex → Fr → M Value) (x0 : Value) (x2 : Value) (x3 : Value) (x4 : Value) (x14 : Value) (x15 : Value) (x16 : Value) (x17 : Value) : lpA_lens_Share lf d 0 k x0 x2 x3 x4 x14 x15 x16 x17 = M.fail := rfl
theorem succA_lens_Share (lf d fu : Nat) (k : Ex → Fr → M Value) (x0 : Value) (x2 : Value) (x3 : Value) (x4 : Value) (x14 : Value) (x15 : Value) (x16 : Value) (x17 : Value) : lpA_lens_Share lf d (fu + 1) k x0 x2 x3 x4 x14 x15 x16 x17 =
  optK (bin2 Try.prog .lss 3 x17 x16) fun v18n6 =>
  ifV v18n6 (
    optK (evIndexAddr Try.prog 22 x15 x17) fun v19n7 =>
    (inside (evLoad Try.prog 3 v19n7)).bind fun v20n8 =>
    optK (bin2 Try.prog .sub 3 (Value.int .i64 20) v20n8) fun v23n9 =>
    optK (bin2 Try.prog .shl 3 (Value.int .i64 1) v23n9) fun v24n10 =>
    optK (bin2 Try.prog .add 3 x4 v24n10) fun v25n11 =>
    optK (bin2 Try.prog .add 3 x17 (Value.int .i64 1)) fun v26n12 =>
    lpA_lens_Share lf d fu k x0 x2 x3 v25n11 x14 x15 x16 v26n12) (
    k (Ex.exit 0) [(0, x0), (2, x2), (3, x3), (4, x4), (14, x14), (15, x15), (16, x16), (17, x17), (18, v18n6)]) := by kernel_rfl
theorem kcAa_lens_Share (lf d : Nat) (y0 : Value) (y2 : Value) (y3 : Value) (y4 : Value) (y14 : Value) (y15 : Value) (y16 : Value) (y17 : Value) (y18 : Value) : kcA_lens_Share lf d (Ex.exit 0) [(0, y0), (2, y2), (3, y3), (4, y4), (14, y14), (15, y15), (16, y16), (17, y17), (18, y18)] =
  outK [y4, (Value.int .i64 0)] := by kernel_rfl

/- lens_Longest -/
noncomputable def lpA_lens_Longest (lf d fu : Nat) (k : Ex → Fr → M Value) (x0 : Value) (x2 : Value) (x3 : Value) (x6 : Value) (x7 : Value) (x8 : Value) : M Value := loopK (fun s1 k1 => codeK Try.prog (evCall2 Try.prog gt lf d) (gt 15) lf (codeAt (bodyOf Try.prog 15) [true, true, false, true, false, false]) s1 k1) [0, 2, 3, 6, 7, 8] fu [(0, x0), (2, x2), (3, x3), (6, x6), (7, x7), (8, x8)] k
noncomputable def kcA_lens_Longest (lf d : Nat) : Ex → Fr → M Value := contAt Try.prog (evCall2 Try.prog gt lf d) (gt 15) lf (bodyOf Try.prog 15) [true, true, false, true, false] (endK Try.prog (resOf Try.prog 15))
noncomputable def b_lens_Longest (lf d : Nat) (a0 : Value) : M Value :=
  optK (len2 Try.prog #[22] [a0]) fun v7n1 =>
  lpA_lens_Longest lf d lf (kcA_lens_Longest lf d) a0 (Value.int .i64 0) (Value.int .i64 0) a0 v7n1 (Value.int .i64 0)
theorem sh_lens_Longest (lf d : Nat) (a0 : Value) : evCall2 Try.prog gt lf (d + 1) 15 #[a0] = inside (b_lens_Longest lf d a0) := by kernel_rfl
theorem zeroA_lens_Longest (lf d : Nat) (k : Ex → Fr → M Value) (x0 : Value) (x2 : Value) (x3 : Value) (x6 : Value) (x7 : Value) (x8 : Value) : lpA_lens_Longest lf d 0 k x0 x2 x3 x6 x7 x8 = M.fail := rfl
theorem succA_lens_Longest (lf d fu : Nat) (k : Ex → Fr → M Value) (x0 : Value) (x2 : Value) (x3 : Value) (x6 : Value) (x7 : Value) (x8 : Value) : lpA_lens_Longest lf d (fu + 1) k x0 x2 x3 x6 x7 x8 =
  optK (bin2 Try.prog .lss 3 x8 x7) fun v9n2 =>
  ifV v9n2 (
    optK (evIndexAddr Try.prog 22 x6 x8) fun v10n3 =>
    (inside (evLoad Try.prog 3 v10n3)).bind fun v11n4 =>
    optK (max2 [x3, v11n4]) fun v14n5 =>
    optK (bin2 Try.prog .add 3 x8 (Value.int .i64 1)) fun v15n6 =>
    lpA_lens_Longest lf d fu k x0 x2 v14n5 x6 x7 v15n6) (
    k (Ex.exit 0) [(0, x0), (2, x2), (3, x3), (6, x6), (7, x7), (8, x8), (9, v9n2)]) := by kernel_rfl
theorem kcAa_lens_Longest (lf d : Nat) (y0 : Value) (y2 : Value) (y3 : Value) (y6 : Value) (y7 : Value) (y8 : Value) (y9 : Value) : kcA_lens_Longest lf d (Ex.exit 0) [(0, y0), (2, y2), (3, y3), (6, y6), (7, y7), (8, y8), (9, y9)] =
  outK [y3] := by kernel_rfl

/- balerref09_Share -/
noncomputable def lpA_balerref09_Share (lf d fu : Nat) (k : Ex → Fr → M Value) (x0 : Value) (x2 : Value) (x3 : Value) (x7 : Value) (x8 : Value) (x9 : Value) : M Value := loopK (fun s1 k1 => codeK Try.prog (evCall2 Try.prog gt lf d) (gt 16) lf (codeAt (bodyOf Try.prog 16) [true, true, false, true, false, false]) s1 k1) [0, 2, 3, 7, 8, 9] fu [(0, x0), (2, x2), (3, x3), (7, x7), (8, x8), (9, x9)] k
noncomputable def kcA_balerref09_Share (lf d : Nat) : Ex → Fr → M Value := contAt Try.prog (evCall2 Try.prog gt lf d) (gt 16) lf (bodyOf Try.prog 16) [true, true, false, true, false] (endK Try.prog (resOf Try.prog 16))
noncomputable def lpB_balerref09_Share (lf d fu : Nat) (k : Ex → Fr → M Value) (x0 : Value) (x2 : Value) (x3 : Value) (x5 : Value) (x6 : Value) (x7 : Value) (x8 : Value) (x9 : Value) (x10 : Value) (x14 : Value) (x15 : Value) : M Value := loopK (fun s1 k1 => codeK Try.prog (evCall2 Try.prog gt lf d) (gt 16) lf (codeAt (bodyOf Try.prog 16) [true, true, false, true, false, false, true, true, false, false, true, true, false, true, false, false]) s1 k1) [0, 2, 3, 5, 6, 7, 8, 9, 10, 14, 15] fu [(0, x0), (2, x2), (3, x3), (5, x5), (6, x6), (7, x7), (8, x8), (9, x9), (10, x10), (14, x14), (15, x15)] k
noncomputable def kcB_balerref09_Share (lf d fu : Nat) (k : Ex → Fr → M Value) : Ex → Fr → M Value := contAt Try.prog (evCall2 Try.prog gt lf d) (gt 16) lf (codeAt (bodyOf Try.prog 16) [true, true, false, true, false, false]) [true, true, false, false, true, true, false, true, false] (againK (fun s1 => loopK (fun s1 k1 => codeK Try.prog (evCall2 Try.prog gt lf d) (gt 16) lf (codeAt (bodyOf Try.prog 16) [true, true, false, true, false, false]) s1 k1) [0, 2, 3, 7, 8, 9] fu (s1.keep [0, 2, 3, 7, 8, 9]) k) k)
noncomputable def b_balerref09_Share (lf d : Nat) (a0 : Value) : M Value :=
  optK (len2 Try.prog #[22] [a0]) fun v8n1 =>
  lpA_balerref09_Share lf d lf (kcA_balerref09_Share lf d) a0 (Value.int .i64 0) (Value.int .i64 0) a0 v8n1 (Value.int .i64 0)
theorem sh_balerref09_Share (lf d : Nat) (a0 : Value) : evCall2 Try.prog gt lf (d + 1) 16 #[a0] = inside (b_balerref09_Share lf d a0) := by kernel_rfl
theorem zeroA_balerref09_Share (lf d : Nat) (k : Ex → Fr → M Value) (x0 : Value) (x2 : Value) (x3 : Value) (x7 : Value) (x8 : Value) (x9 : Value) : lpA_balerref09_Share lf d 0 k x0 x2 x3 x7 x8 x9 = M.fail := rfl
theorem succA_balerref09_Share (lf d fu : Nat) (k : Ex → Fr → M Value) (x0 : Value) (x2 : Value) (x3 : Value) (x7 : Value) (x8 : Value) (x9 : Value) : lpA_balerref09_Share lf d (fu + 1) k x0 x2 x3 x7 x8 x9 =
  optK (bin2 Try.prog .lss 3 x9 x8) fun v10n2 =>
  ifV v10n2 (
    optK (evIndexAddr Try.prog 22 x7 x9) fun v11n3 =>
    (inside (evLoad Try.prog 3 v11n3)).bind fun v12n4 =>
    optK (bin2 Try.prog .sub 3 (Value.int .i64 20) v12n4) fun v14n5 =>
    lpB_balerref09_Share lf d lf (kcB_balerref09_Share lf d fu k) x0 x2 x3 v12n4 (Value.int .i64 1) x7 x8 x9 v10n2 v14n5 (Value.int .i64 0)) (
    k (Ex.exit 0) [(0, x0), (2, x2), (3, x3), (7, x7), (8, x8), (9, x9), (10, v10n2)]) := by kernel_rfl
theorem kcAa_balerref09_Share (lf d : Nat) (y0 : Value) (y2 : Value) (y3 : Value) (y7 : Value) (y8 : Value) (y9 : Value) (y10 : Value) : kcA_balerref09_Share lf d (Ex.exit 0) [(0, y0), (2, y2), (3, y3), (7, y7), (8, y8), (9, y9), (10, y10)] =
  outK [y3] := by kernel_rfl
theorem zeroB_balerref09_Share (lf d : Nat) (k : Ex → Fr → M Value) (x0 : Value) (x2 : Value) (x3 : Value) (x5 : Value) (x6 : Value) (x7 : Value) (x8 : Value) (x9 : Value) (x10 : Value) (x14 : Value) (x15 : Value) : lpB_balerref09_Share lf d 0 k x0 x2 x3 x5 x6 x7 x8 x9 x10 x14 x15 = M.fail := rfl
theorem succB_balerref09_Share (lf d fu : Nat) (k : Ex → Fr → M Value) (x0 : Value) (x2 : Value) (x3 : Value) (x5 : Value) (x6 : Value) (x7 : Value) (x8 : Value) (x9 : Value) (x10 : Value) (x14 : Value) (x15 : Value) : lpB_balerref09_Share lf d (fu + 1) k x0 x2 x3 x5 x6 x7 x8 x9 x10 x14 x15 =
  optK (bin2 Try.prog .lss 3 x15 x14) fun v16n6 =>
  ifV v16n6 (
    optK (bin2 Try.prog .mul 3 (Value.int .i64 2) x6) fun v18n7 =>
    optK (bin2 Try.prog .add 3 x15 (Value.int .i64 1)) fun v19n8 =>
    lpB_balerref09_Share lf d fu k x0 x2 x3 x5 v18n7 x7 x8 x9 x10 x14 v19n8) (
    k (Ex.exit 2) [(0, x0), (2, x2), (3, x3), (5, x5), (6, x6), (7, x7), (8, x8), (9, x9), (10, x10), (14, x14), (15, x15), (16, v16n6)]) := by kernel_rfl
theorem kcBa_balerref09_Share (lf d fu : Nat) (k : Ex → Fr → M Value) (y0 : Value) (y2 : Value) (y3 : Value) (y5 : Value) (y6 : Value) (y7 : Value) (y8 : Value) (y9 : Value) (y10 : Value) (y14 : Value) (y15 : Value) (y16 : Value) : kcB_balerref09_Share lf d fu k (Ex.exit 2) [(0, y0), (2, y2), (3, y3), (5, y5), (6, y6), (7, y7), (8, y8), (9, y9), (10, y10), (14, y14), (15, y15), (16, y16)] =
  optK (bin2 Try.prog .add 3 y3 y6) fun v22n9 =>
  optK (bin2 Try.prog .add 3 y9 (Value.int .i64 1)) fun v23n10 =>
  lpA_balerref09_Share lf d fu k y0 y2 v22n9 y7 y8 v23n10 := by kernel_rfl

/- lens_Depths -/
noncomputable def b_lens_Depths (lf d : Nat) (a0 : Value) : M Value :=
  optK (len2 Try.prog #[22] [a0]) fun v5n1 =>
  optK (bin2 Try.prog .lss 3 v5n1 (Value.int .i64 2)) fun v6n2 =>
  ifV v6n2 (
    outK [(Value.slice none 0 0), (Value.int .i64 1)]) (
    optK (len2 Try.prog #[22] [a0]) fun v9n3 =>
    optK (bin2 Try.prog .gtr 3 v9n3 (Value.int .i64 258)) fun v10n4 =>
    ifV v10n4 (
      outK [(Value.slice none 0 0), (Value.int .i64 1)]) (
      (inside (evCall2 Try.prog gt lf d 21 #[a0, (Value.int .i64 1), (Value.int .i64 1099511627776)])).bind fun v14n5 =>
      optK (un2 Try.prog .not v14n5) fun v15n6 =>
      ifV v15n6 (
        outK [(Value.slice none 0 0), (Value.int .i64 1)]) (
        (inside (evCall2 Try.prog gt lf d 22 #[a0])).bind fun v18n7 =>
        (inside (evCall2 Try.prog gt lf d 23 #[v18n7])).bind fun v19n8 =>
        outK [v19n8, (Value.int .i64 0)])))
theorem sh_lens_Depths (lf d : Nat) (a0 : Value) : evCall2 Try.prog gt lf (d + 1) 17 #[a0] = inside (b_lens_Depths lf d a0) := by kernel_rfl

/- lens_Halved -/
noncomputable def lpA_lens_Halved (lf d fu : Nat) (k : Ex → Fr → M Value) (x0 : Value) (x2 : Value) (x3 : Value) (x9 : Value) (x10 : Value) (x11 : Value) : M Value := loopK (fun s1 k1 => codeK Try.prog (evCall2 Try.prog gt lf d) (gt 18) lf (codeAt (bodyOf Try.prog 18) [true, true, false, true, false, false]) s1 k1) [0, 2, 3, 9, 10, 11] fu [(0, x0), (2, x2), (3, x3), (9, x9), (10, x10), (11, x11)] k
noncomputable def kcA_lens_Halved (lf d : Nat) : Ex → Fr → M Value := contAt Try.prog (evCall2 Try.prog gt lf d) (gt 18) lf (bodyOf Try.prog 18) [true, true, false, true, false] (endK Try.prog (resOf Try.prog 18))
noncomputable def b_lens_Halved (lf d : Nat) (a0 : Value) : M Value :=
  optK (len2 Try.prog #[22] [a0]) fun v7n1 =>
  (inside (evMakeSlice Try.prog 22 v7n1 v7n1)).bind fun v8n2 =>
  optK (len2 Try.prog #[22] [a0]) fun v10n3 =>
  lpA_lens_Halved lf d lf (kcA_lens_Halved lf d) a0 (Value.slice none 0 0) v8n2 a0 v10n3 (Value.int .i64 0)
theorem sh_lens_Halved (lf d : Nat) (a0 : Value) : evCall2 Try.prog gt lf (d + 1) 18 #[a0] = inside (b_lens_Halved lf d a0) := by kernel_rfl
theorem zeroA_lens_Halved (lf d : Nat) (k : Ex → Fr → M Value) (x0 : Value) (x2 : Value) (x3 : Value) (x9 : Value) (x10 : Value) (x11 : Value) : lpA_lens_Halved lf d 0 k x0 x2 x3 x9 x10 x11 = M.fail := rfl
theorem succA_lens_Halved (lf d fu : Nat) (k : Ex → Fr → M Value) (x0 : Value) (x2 : Value) (x3 : Value) (x9 : Value) (x10 : Value) (x11 : Value) : lpA_lens_Halved lf d (fu + 1) k x0 x2 x3 x9 x10 x11 =
  optK (bin2 Try.prog .lss 3 x11 x10) fun v12n4 =>
  ifV v12n4 (
    optK (evIndexAddr Try.prog 22 x9 x11) fun v14n5 =>
    (inside (evLoad Try.prog 3 v14n5)).bind fun v15n6 =>
    optK (max2 [v15n6, (Value.int .i64 0)]) fun v19n7 =>
    optK (bin2 Try.prog .quo 3 v19n7 (Value.int .i64 2)) fun v20n8 =>
    optK (bin2 Try.prog .add 3 v20n8 (Value.int .i64 1)) fun v21n9 =>
    optK (evIndexAddr Try.prog 22 x3 x11) fun v22n10 =>
    (inside (evStore Try.prog 3 v22n10 v21n9)).bind fun u11 =>
    optK (bin2 Try.prog .add 3 x11 (Value.int .i64 1)) fun v23n12 =>
    lpA_lens_Halved lf d fu k x0 x2 x3 x9 x10 v23n12) (
    k (Ex.exit 0) [(0, x0), (2, x2), (3, x3), (9, x9), (10, x10), (11, x11), (12, v12n4)]) := by kernel_rfl
theorem kcAa_lens_Halved (lf d : Nat) (y0 : Value) (y2 : Value) (y3 : Value) (y9 : Value) (y10 : Value) (y11 : Value) (y12 : Value) : kcA_lens_Halved lf d (Ex.exit 0) [(0, y0), (2, y2), (3, y3), (9, y9), (10, y10), (11, y11), (12, y12)] =
  outK [y3] := by kernel_rfl

/- balerref09_Halved -/
noncomputable def lpA_balerref09_Halved (lf d fu : Nat) (k : Ex → Fr → M Value) (x0 : Value) (x2 : Value) (x3 : Value) (x6 : Value) (x7 : Value) (x8 : Value) : M Value := loopK (fun s1 k1 => codeK Try.prog (evCall2 Try.prog gt lf d) (gt 19) lf (codeAt (bodyOf Try.prog 19) [true, true, false, true, false, false]) s1 k1) [0, 2, 3, 6, 7, 8] fu [(0, x0), (2, x2), (3, x3), (6, x6), (7, x7), (8, x8)] k
noncomputable def kcA_balerref09_Halved (lf d : Nat) : Ex → Fr → M Value := contAt Try.prog (evCall2 Try.prog gt lf d) (gt 19) lf (bodyOf Try.prog 19) [true, true, false, true, false] (endK Try.prog (resOf Try.prog 19))
noncomputable def b_balerref09_Halved (lf d : Nat) (a0 : Value) : M Value :=
  optK (len2 Try.prog #[22] [a0]) fun v7n1 =>
  lpA_balerref09_Halved lf d lf (kcA_balerref09_Halved lf d) a0 (Value.slice none 0 0) (Value.slice none 0 0) a0 v7n1 (Value.int .i64 0)
theorem sh_balerref09_Halved (lf d : Nat) (a0 : Value) : evCall2 Try.prog gt lf (d + 1) 19 #[a0] = inside (b_balerref09_Halved lf d a0) := by kernel_rfl
theorem zeroA_balerref09_Halved (lf d : Nat) (k : Ex → Fr → M Value) (x0 : Value) (x2 : Value) (x3 : Value) (x6 : Value) (x7 : Value) (x8 : Value) : lpA_balerref09_Halved lf d 0 k x0 x2 x3 x6 x7 x8 = M.fail := rfl
theorem succA_balerref09_Halved (lf d fu : Nat) (k : Ex → Fr → M Value) (x0 : Value) (x2 : Value) (x3 : Value) (x6 : Value) (x7 : Value) (x8 : Value) : lpA_balerref09_Halved lf d (fu + 1) k x0 x2 x3 x6 x7 x8 =
  optK (bin2 Try.prog .lss 3 x8 x7) fun v9n2 =>
  ifV v9n2 (
    optK (evIndexAddr Try.prog 22 x6 x8) fun v10n3 =>
    (inside (evLoad Try.prog 3 v10n3)).bind fun v11n4 =>
    optK (bin2 Try.prog .lss 3 v11n4 (Value.int .i64 0)) fun v13n5 =>
    ifV v13n5 (
      optK (bin2 Try.prog .quo 3 (Value.int .i64 0) (Value.int .i64 2)) fun v16n6 =>
      optK (bin2 Try.prog .add 3 v16n6 (Value.int .i64 1)) fun v17n7 =>
      (inside (evBuildSlice Try.prog 22 1 [(0, v17n7)])).bind fun v18n8 =>
      (inside (evAppend Try.prog 22 x3 v18n8)).bind fun v19n9 =>
      optK (bin2 Try.prog .add 3 x8 (Value.int .i64 1)) fun v20n10 =>
      lpA_balerref09_Halved lf d fu k x0 x2 v19n9 x6 x7 v20n10) (
      optK (bin2 Try.prog .quo 3 v11n4 (Value.int .i64 2)) fun v16n11 =>
      optK (bin2 Try.prog .add 3 v16n11 (Value.int .i64 1)) fun v17n12 =>
      (inside (evBuildSlice Try.prog 22 1 [(0, v17n12)])).bind fun v18n13 =>
      (inside (evAppend Try.prog 22 x3 v18n13)).bind fun v19n14 =>
      optK (bin2 Try.prog .add 3 x8 (Value.int .i64 1)) fun v20n15 =>
      lpA_balerref09_Halved lf d fu k x0 x2 v19n14 x6 x7 v20n15)) (
    k (Ex.exit 0) [(0, x0), (2, x2), (3, x3), (6, x6), (7, x7), (8, x8), (9, v9n2)]) := by kernel_rfl
theorem kcAa_balerref09_Halved (lf d : Nat) (y0 : Value) (y2 : Value) (y3 : Value) (y6 : Value) (y7 : Value) (y8 : Value) (y9 : Value) : kcA_balerref09_Halved lf d (Ex.exit 0) [(0, y0), (2, y2), (3, y3), (6, y6), (7, y7), (8, y8), (9, y9)] =
  outK [y3] := by kernel_rfl

/- balerref09_Depths -/
noncomputable def lpA_balerref09_Depths (lf d fu : Nat) (k : Ex → Fr → M Value) (x0 : Value) (x2 : Value) (x3 : Value) (x4 : Value) (x18 : Value) (x19 : Value) (x20 : Value) : M Value := loopK (fun s1 k1 => codeK Try.prog (evCall2 Try.prog gt lf d) (gt 20) lf (codeAt (bodyOf Try.prog 20) [true, true, true, false, true, false, false]) s1 k1) [0, 2, 3, 4, 18, 19, 20] fu [(0, x0), (2, x2), (3, x3), (4, x4), (18, x18), (19, x19), (20, x20)] k
noncomputable def kcA_balerref09_Depths (lf d : Nat) : Ex → Fr → M Value := contAt Try.prog (evCall2 Try.prog gt lf d) (gt 20) lf (bodyOf Try.prog 20) [true, true, true, false, true, false] (endK Try.prog (resOf Try.prog 20))
noncomputable def lpB_balerref09_Depths (lf d fu : Nat) (k : Ex → Fr → M Value) (x0 : Value) (x2 : Value) (x3 : Value) (x4 : Value) (x7 : Value) (x8 : Value) (x18 : Value) (x19 : Value) (x20 : Value) (x21 : Value) : M Value := loopK (fun s1 k1 => codeK Try.prog (evCall2 Try.prog gt lf d) (gt 20) lf (codeAt (bodyOf Try.prog 20) [true, true, true, true, true, true, false, false, false]) s1 k1) [0, 2, 3, 4, 7, 8, 18, 19, 20, 21] fu [(0, x0), (2, x2), (3, x3), (4, x4), (7, x7), (8, x8), (18, x18), (19, x19), (20, x20), (21, x21)] k
noncomputable def kcB_balerref09_Depths (lf d : Nat) : Ex → Fr → M Value := contAt Try.prog (evCall2 Try.prog gt lf d) (gt 20) lf (bodyOf Try.prog 20) [true, true, true, true, true, true, false, false] (endK Try.prog (resOf Try.prog 20))
noncomputable def lpC_balerref09_Depths (lf d fu : Nat) (k : Ex → Fr → M Value) (x0 : Value) (x2 : Value) (x3 : Value) (x4 : Value) (x7 : Value) (x8 : Value) (x9 : Value) (x10 : Value) (x11 : Value) (x12 : Value) (x13 : Value) (x18 : Value) (x19 : Value) (x20 : Value) (x21 : Value) (x39 : Value) (x66 : Value) (x67 : Value) (x68 : Value) : M Value := loopK (fun s1 k1 => codeK Try.prog (evCall2 Try.prog gt lf d) (gt 20) lf (codeAt (bodyOf Try.prog 20) [true, true, true, true, true, true, false, false, false, true, false, true, true, true, true, true, true, true, true, true, false, true, false, false]) s1 k1) [0, 2, 3, 4, 7, 8, 9, 10, 11, 12, 13, 18, 19, 20, 21, 39, 66, 67, 68] fu [(0, x0), (2, x2), (3, x3), (4, x4), (7, x7), (8, x8), (9, x9), (10, x10), (11, x11), (12, x12), (13, x13), (18, x18), (19, x19), (20, x20), (21, x21), (39, x39), (66, x66), (67, x67), (68, x68)] k
noncomputable def kcC_balerref09_Depths (lf d fu : Nat) (k : Ex → Fr → M Value) : Ex → Fr → M Value := contAt Try.prog (evCall2 Try.prog gt lf d) (gt 20) lf (codeAt (bodyOf Try.prog 20) [true, true, true, true, true, true, false, false, false]) [true, false, true, true, true, true, true, true, true, true, true, false, true, false] (againK (fun s1 => loopK (fun s1 k1 => codeK Try.prog (evCall2 Try.prog gt lf d) (gt 20) lf (codeAt (bodyOf Try.prog 20) [true, true, true, true, true, true, false, false, false]) s1 k1) [0, 2, 3, 4, 7, 8, 18, 19, 20, 21] fu (s1.keep [0, 2, 3, 4, 7, 8, 18, 19, 20, 21]) k) k)
noncomputable def b_balerref09_Depths (lf d : Nat) (a0 : Value) : M Value :=
  optK (len2 Try.prog #[22] [a0]) fun v17n1 =>
  optK (len2 Try.prog #[22] [a0]) fun v19n2 =>
  lpA_balerref09_Depths lf d lf (kcA_balerref09_Depths lf d) a0 (Value.slice none 0 0) v17n1 (Value.slice none 0 0) a0 v19n2 (Value.int .i64 0)
theorem sh_balerref09_Depths (lf d : Nat) (a0 : Value) : evCall2 Try.prog gt lf (d + 1) 20 #[a0] = inside (b_balerref09_Depths lf d a0) := by kernel_rfl
theorem zeroA_balerref09_Depths (lf d : Nat) (k : Ex → Fr → M Value) (x0 : Value) (x2 : Value) (x3 : Value) (x4 : Value) (x18 : Value) (x19 : Value) (x20 : Value) : lpA_balerref09_Depths lf d 0 k x0 x2 x3 x4 x18 x19 x20 = M.fail := rfl
theorem succA_balerref09_Depths (lf d fu : Nat) (k : Ex → Fr → M Value) (x0 : Value) (x2 : Value) (x3 : Value) (x4 : Value) (x18 : Value) (x19 : Value) (x20 : Value) : lpA_balerref09_Depths lf d (fu + 1) k x0 x2 x3 x4 x18 x19 x20 =
  optK (bin2 Try.prog .lss 3 x20 x19) fun v21n3 =>
  ifV v21n3 (
    optK (evIndexAddr Try.prog 22 x18 x20) fun v23n4 =>
    (inside (evLoad Try.prog 3 v23n4)).bind fun v24n5 =>
    (inside (evBuildSlice Try.prog 22 1 [(0, x20)])).bind fun v29n6 =>
    (inside (evBuild Try.prog 36 [(0, v24n5), (1, x20), (2, v29n6)])).bind fun v30n7 =>
    (inside (evBuildSlice Try.prog 34 1 [(0, v30n7)])).bind fun v31n8 =>
    (inside (evAppend Try.prog 34 x4 v31n8)).bind fun v32n9 =>
    optK (bin2 Try.prog .add 3 x20 (Value.int .i64 1)) fun v33n10 =>
    lpA_balerref09_Depths lf d fu k x0 x2 x3 v32n9 x18 x19 v33n10) (
    k (Ex.exit 0) [(0, x0), (2, x2), (3, x3), (4, x4), (18, x18), (19, x19), (20, x20), (21, v21n3)]) := by kernel_rfl
theorem kcAa_balerref09_Depths (lf d : Nat) (y0 : Value) (y2 : Value) (y3 : Value) (y4 : Value) (y18 : Value) (y19 : Value) (y20 : Value) (y21 : Value) : kcA_balerref09_Depths lf d (Ex.exit 0) [(0, y0), (2, y2), (3, y3), (4, y4), (18, y18), (19, y19), (20, y20), (21, y21)] =
  (inside (evMakeSlice Try.prog 22 y3 y3)).bind fun v35n11 =>
  lpB_balerref09_Depths lf d lf (kcB_balerref09_Depths lf d) y0 y2 y3 y4 v35n11 y3 y18 y19 y20 y21 := by kernel_rfl
theorem zeroB_balerref09_Depths (lf d : Nat) (k : Ex → Fr → M Value) (x0 : Value) (x2 : Value) (x3 : Value) (x4 : Value) (x7 : Value) (x8 : Value) (x18 : Value) (x19 : Value) (x20 : Value) (x21 : Value) : lpB_balerref09_Depths lf d 0 k x0 x2 x3 x4 x7 x8 x18 x19 x20 x21 = M.fail := rfl
theorem succB_balerref09_Depths (lf d fu : Nat) (k : Ex → Fr → M Value) (x0 : Value) (x2 : Value) (x3 : Value) (x4 : Value) (x7 : Value) (x8 : Value) (x18 : Value) (x19 : Value) (x20 : Value) (x21 : Value) : lpB_balerref09_Depths lf d (fu + 1) k x0 x2 x3 x4 x7 x8 x18 x19 x20 x21 =
  optK (len2 Try.prog #[34] [x4]) fun v38n12 =>
  optK (bin2 Try.prog .gtr 3 v38n12 (Value.int .i64 1)) fun v39n13 =>
  ifV v39n13 (
    (inside (evCall2 Try.prog gt lf d 24 #[x4])).bind fun v41n14 =>
    optK (evIndexAddr Try.prog 34 x4 v41n14) fun v44n15 =>
    (inside (evLoad Try.prog 36 v44n15)).bind fun v45n16 =>
    (inside (evAlloc Try.prog 36)).bind fun v10n17 =>
    (inside (evStore Try.prog 36 v10n17 v45n16)).bind fun u18 =>
    (inside (evCall2 Try.prog gt lf d 25 #[x4, v41n14])).bind fun v48n19 =>
    (inside (evCall2 Try.prog gt lf d 24 #[v48n19])).bind fun v50n20 =>
    optK (evIndexAddr Try.prog 34 v48n19 v50n20) fun v53n21 =>
    (inside (evLoad Try.prog 36 v53n21)).bind fun v54n22 =>
    (inside (evAlloc Try.prog 36)).bind fun v12n23 =>
    (inside (evStore Try.prog 36 v12n23 v54n22)).bind fun u24 =>
    (inside (evCall2 Try.prog gt lf d 25 #[v48n19, v50n20])).bind fun v57n25 =>
    optK (evFieldAddr Try.prog 36 v10n17 2) fun v59n26 =>
    (inside (evLoad Try.prog 22 v59n26)).bind fun v60n27 =>
    (inside (evAppend Try.prog 22 (Value.slice none 0 0) v60n27)).bind fun v61n28 =>
    optK (evFieldAddr Try.prog 36 v12n23 2) fun v63n29 =>
    (inside (evLoad Try.prog 22 v63n29)).bind fun v64n30 =>
    (inside (evAppend Try.prog 22 v61n28 v64n30)).bind fun v65n31 =>
    optK (len2 Try.prog #[22] [v65n31]) fun v67n32 =>
    lpC_balerref09_Depths lf d lf (kcC_balerref09_Depths lf d fu k) x0 x2 x3 v57n25 x7 x8 v41n14 v10n17 v50n20 v12n23 v65n31 x18 x19 x20 x21 v39n13 v65n31 v67n32 (Value.int .i64 0)) (
    k (Ex.exit 2) [(0, x0), (2, x2), (3, x3), (4, x4), (7, x7), (8, x8), (18, x18), (19, x19), (20, x20), (21, x21), (39, v39n13)]) := by kernel_rfl
theorem kcBa_balerref09_Depths (lf d : Nat) (y0 : Value) (y2 : Value) (y3 : Value) (y4 : Value) (y7 : Value) (y8 : Value) (y18 : Value) (y19 : Value) (y20 : Value) (y21 : Value) (y39 : Value) : kcB_balerref09_Depths lf d (Ex.exit 2) [(0, y0), (2, y2), (3, y3), (4, y4), (7, y7), (8, y8), (18, y18), (19, y19), (20, y20), (21, y21), (39, y39)] =
  outK [y7] := by kernel_rfl
theorem zeroC_balerref09_Depths (lf d : Nat) (k : Ex → Fr → M Value) (x0 : Value) (x2 : Value) (x3 : Value) (x4 : Value) (x7 : Value) (x8 : Value) (x9 : Value) (x10 : Value) (x11 : Value) (x12 : Value) (x13 : Value) (x18 : Value) (x19 : Value) (x20 : Value) (x21 : Value) (x39 : Value) (x66 : Value) (x67 : Value) (x68 : Value) : lpC_balerref09_Depths lf d 0 k x0 x2 x3 x4 x7 x8 x9 x10 x11 x12 x13 x18 x19 x20 x21 x39 x66 x67 x68 = M.fail := rfl
theorem succC_balerref09_Depths (lf d fu : Nat) (k : Ex → Fr → M Value) (x0 : Value) (x2 : Value) (x3 : Value) (x4 : Value) (x7 : Value) (x8 : Value) (x9 : Value) (x10 : Value) (x11 : Value) (x12 : Value) (x13 : Value) (x18 : Value) (x19 : Value) (x20 : Value) (x21 : Value) (x39 : Value) (x66 : Value) (x67 : Value) (x68 : Value) : lpC_balerref09_Depths lf d (fu + 1) k x0 x2 x3 x4 x7 x8 x9 x10 x11 x12 x13 x18 x19 x20 x21 x39 x66 x67 x68 =
  optK (bin2 Try.prog .lss 3 x68 x67) fun v69n33 =>
  ifV v69n33 (
    optK (evIndexAddr Try.prog 22 x66 x68) fun v70n34 =>
    (inside (evLoad Try.prog 3 v70n34)).bind fun v71n35 =>
    optK (evIndexAddr Try.prog 22 x7 v71n35) fun v74n36 =>
    (inside (evLoad Try.prog 3 v74n36)).bind fun v75n37 =>
    optK (bin2 Try.prog .add 3 v75n37 (Value.int .i64 1)) fun v76n38 =>
    optK (evIndexAddr Try.prog 22 x7 v71n35) fun v77n39 =>
    (inside (evStore Try.prog 3 v77n39 v76n38)).bind fun u40 =>
    optK (bin2 Try.prog .add 3 x68 (Value.int .i64 1)) fun v78n41 =>
    lpC_balerref09_Depths lf d fu k x0 x2 x3 x4 x7 x8 x9 x10 x11 x12 x13 x18 x19 x20 x21 x39 x66 x67 v78n41) (
    k (Ex.exit 4) [(0, x0), (2, x2), (3, x3), (4, x4), (7, x7), (8, x8), (9, x9), (10, x10), (11, x11), (12, x12), (13, x13), (18, x18), (19, x19), (20, x20), (21, x21), (39, x39), (66, x66), (67, x67), (68, x68), (69, v69n33)]) := by kernel_rfl
theorem kcCa_balerref09_Depths (lf d fu : Nat) (k : Ex → Fr → M Value) (y0 : Value) (y2 : Value) (y3 : Value) (y4 : Value) (y7 : Value) (y8 : Value) (y9 : Value) (y10 : Value) (y11 : Value) (y12 : Value) (y13 : Value) (y18 : Value) (y19 : Value) (y20 : Value) (y21 : Value) (y39 : Value) (y66 : Value) (y67 : Value) (y68 : Value) (y69 : Value) : kcC_balerref09_Depths lf d fu k (Ex.exit 4) [(0, y0), (2, y2), (3, y3), (4, y4), (7, y7), (8, y8), (9, y9), (10, y10), (11, y11), (12, y12), (13, y13), (18, y18), (19, y19), (20, y20), (21, y21), (39, y39), (66, y66), (67, y67), (68, y68), (69, y69)] =
  optK (evFieldAddr Try.prog 36 y10 0) fun v80n42 =>
  (inside (evLoad Try.prog 3 v80n42)).bind fun v81n43 =>
  optK (evFieldAddr Try.prog 36 y12 0) fun v82n44 =>
  (inside (evLoad Try.prog 3 v82n44)).bind fun v83n45 =>
  optK (bin2 Try.prog .add 3 v81n43 v83n45) fun v84n46 =>
  (inside (evBuild Try.prog 36 [(0, v84n46), (1, y8), (2, y13)])).bind fun v87n47 =>
  (inside (evBuildSlice Try.prog 34 1 [(0, v87n47)])).bind fun v88n48 =>
  (inside (evAppend Try.prog 34 y4 v88n48)).bind fun v89n49 =>
  optK (bin2 Try.prog .add 3 y8 (Value.int .i64 1)) fun v91n50 =>
  lpB_balerref09_Depths lf d fu k y0 y2 y3 v89n49 y7 v91n50 y18 y19 y20 y21 := by kernel_rfl

/- lens_between -/
noncomputable def b_lens_between (lf d : Nat) (a0 : Value) (a1 : Value) (a2 : Value) : M Value :=
  (inside (evBox Try.prog 3 a1)).bind fun v4n1 =>
  (inside (evBox Try.prog 3 a2)).bind fun v5n2 =>
  (inside (evCall2 Try.prog gt lf d 26 #[a0, (Value.func (Go.Fn.func 27) #[] #[v4n1, v5n2])])).bind fun v9n3 =>
  optK (un2 Try.prog .not v9n3) fun v10n4 =>
  outK [v10n4]
theorem sh_lens_between (lf d : Nat) (a0 : Value) (a1 : Value) (a2 : Value) : evCall2 Try.prog gt lf (d + 1) 21 #[a0, a1, a2] = inside (b_lens_between lf d a0 a1 a2) := by kernel_rfl

/- lens_depths -/
noncomputable def lpA_lens_depths (lf d fu : Nat) (k : Ex → Fr → M Value) (x0 : Value) (x2 : Value) (x3 : Value) (x11 : Value) (x12 : Value) : M Value := loopK (fun s1 k1 => codeK Try.prog (evCall2 Try.prog gt lf d) (gt 22) lf (codeAt (bodyOf Try.prog 22) [true, true, false, true, false, false]) s1 k1) [0, 2, 3, 11, 12] fu [(0, x0), (2, x2), (3, x3), (11, x11), (12, x12)] k
noncomputable def kcA_lens_depths (lf d : Nat) : Ex → Fr → M Value := contAt Try.prog (evCall2 Try.prog gt lf d) (gt 22) lf (bodyOf Try.prog 22) [true, true, false, true, false] (endK Try.prog (resOf Try.prog 22))
noncomputable def lpB_lens_depths (lf d fu : Nat) (k : Ex → Fr → M Value) (x0 : Value) (x2 : Value) (x3 : Value) (x5 : Value) (x6 : Value) (x11 : Value) (x12 : Value) (x13 : Value) : M Value := loopK (fun s1 k1 => codeK Try.prog (evCall2 Try.prog gt lf d) (gt 22) lf (codeAt (bodyOf Try.prog 22) [true, true, true, true, false, true, false, false]) s1 k1) [0, 2, 3, 5, 6, 11, 12, 13] fu [(0, x0), (2, x2), (3, x3), (5, x5), (6, x6), (11, x11), (12, x12), (13, x13)] k
noncomputable def kcB_lens_depths (lf d : Nat) : Ex → Fr → M Value := contAt Try.prog (evCall2 Try.prog gt lf d) (gt 22) lf (bodyOf Try.prog 22) [true, true, true, true, false, true, false] (endK Try.prog (resOf Try.prog 22))
noncomputable def b_lens_depths (lf d : Nat) (a0 : Value) : M Value :=
  (inside (evCall2 Try.prog gt lf d 28 #[a0])).bind fun v8n1 =>
  optK (len2 Try.prog #[22] [a0]) fun v10n2 =>
  optK (bin2 Try.prog .sub 3 v10n2 (Value.int .i64 1)) fun v11n3 =>
  lpA_lens_depths lf d lf (kcA_lens_depths lf d) a0 (Value.slice none 0 0) v8n1 v11n3 (Value.int .i64 0)
theorem sh_lens_depths (lf d : Nat) (a0 : Value) : evCall2 Try.prog gt lf (d + 1) 22 #[a0] = inside (b_lens_depths lf d a0) := by kernel_rfl
theorem zeroA_lens_depths (lf d : Nat) (k : Ex → Fr → M Value) (x0 : Value) (x2 : Value) (x3 : Value) (x11 : Value) (x12 : Value) : lpA_lens_depths lf d 0 k x0 x2 x3 x11 x12 = M.fail := rfl
theorem succA_lens_depths (lf d fu : Nat) (k : Ex → Fr → M Value) (x0 : Value) (x2 : Value) (x3 : Value) (x11 : Value) (x12 : Value) : lpA_lens_depths lf d (fu + 1) k x0 x2 x3 x11 x12 =
  optK (bin2 Try.prog .lss 3 x12 x11) fun v13n4 =>
  ifV v13n4 (
    (inside (evCall2 Try.prog gt lf d 29 #[x3])).bind fun v15n5 =>
    (inside (evCall2 Try.prog gt lf d 29 #[x3])).bind fun v19n6 =>
    (inside (evCall2 Try.prog gt lf d 30 #[x3, v15n5, v19n6])).bind fun v20n7 =>
    optK (bin2 Try.prog .add 3 x12 (Value.int .i64 1)) fun v21n8 =>
    lpA_lens_depths lf d fu k x0 x2 x3 x11 v21n8) (
    k (Ex.exit 0) [(0, x0), (2, x2), (3, x3), (11, x11), (12, x12), (13, v13n4)]) := by kernel_rfl
theorem kcAa_lens_depths (lf d : Nat) (y0 : Value) (y2 : Value) (y3 : Value) (y11 : Value) (y12 : Value) (y13 : Value) : kcA_lens_depths lf d (Ex.exit 0) [(0, y0), (2, y2), (3, y3), (11, y11), (12, y12), (13, y13)] =
  optK (nil2 y3) fun v23n9 =>
  optK (evFieldAddr Try.prog 46 v23n9 0) fun v24n10 =>
  (inside (evLoad Try.prog 22 v24n10)).bind fun v25n11 =>
  optK (len2 Try.prog #[22] [v25n11]) fun v26n12 =>
  (inside (evMakeSlice Try.prog 22 v26n12 v26n12)).bind fun v27n13 =>
  optK (len2 Try.prog #[22] [v27n13]) fun v29n14 =>
  optK (bin2 Try.prog .sub 3 v29n14 (Value.int .i64 2)) fun v30n15 =>
  lpB_lens_depths lf d lf (kcB_lens_depths lf d) y0 y2 y3 v27n13 v30n15 y11 y12 y13 := by kernel_rfl
theorem zeroB_lens_depths (lf d : Nat) (k : Ex → Fr → M Value) (x0 : Value) (x2 : Value) (x3 : Value) (x5 : Value) (x6 : Value) (x11 : Value) (x12 : Value) (x13 : Value) : lpB_lens_depths lf d 0 k x0 x2 x3 x5 x6 x11 x12 x13 = M.fail := rfl
theorem succB_lens_depths (lf d fu : Nat) (k : Ex → Fr → M Value) (x0 : Value) (x2 : Value) (x3 : Value) (x5 : Value) (x6 : Value) (x11 : Value) (x12 : Value) (x13 : Value) : lpB_lens_depths lf d (fu + 1) k x0 x2 x3 x5 x6 x11 x12 x13 =
  optK (bin2 Try.prog .geq 3 x6 (Value.int .i64 0)) fun v32n16 =>
  ifV v32n16 (
    optK (nil2 x3) fun v39n17 =>
    optK (evFieldAddr Try.prog 46 v39n17 1) fun v40n18 =>
    (inside (evLoad Try.prog 22 v40n18)).bind fun v41n19 =>
    optK (evIndexAddr Try.prog 22 v41n19 x6) fun v43n20 =>
    (inside (evLoad Try.prog 3 v43n20)).bind fun v44n21 =>
    optK (evIndexAddr Try.prog 22 x5 v44n21) fun v45n22 =>
    (inside (evLoad Try.prog 3 v45n22)).bind fun v46n23 =>
    optK (bin2 Try.prog .add 3 v46n23 (Value.int .i64 1)) fun v47n24 =>
    optK (evIndexAddr Try.prog 22 x5 x6) fun v48n25 =>
    (inside (evStore Try.prog 3 v48n25 v47n24)).bind fun u26 =>
    optK (bin2 Try.prog .sub 3 x6 (Value.int .i64 1)) fun v34n27 =>
    lpB_lens_depths lf d fu k x0 x2 x3 x5 v34n27 x11 x12 x13) (
    k (Ex.exit 2) [(0, x0), (2, x2), (3, x3), (5, x5), (6, x6), (11, x11), (12, x12), (13, x13), (32, v32n16)]) := by kernel_rfl
theorem kcBa_lens_depths (lf d : Nat) (y0 : Value) (y2 : Value) (y3 : Value) (y5 : Value) (y6 : Value) (y11 : Value) (y12 : Value) (y13 : Value) (y32 : Value) : kcB_lens_depths lf d (Ex.exit 2) [(0, y0), (2, y2), (3, y3), (5, y5), (6, y6), (11, y11), (12, y12), (13, y13), (32, y32)] =
  optK (len2 Try.prog #[22] [y0]) fun v51n28 =>
  slice2 Try.prog 22 y5 none (some v51n28) none fun v52n29 =>
  outK [v52n29] := by kernel_rfl

/- slices_Clone_int_int -/
noncomputable def b_slices_Clone_int_int (lf d : Nat) (a0 : Value) : M Value :=
  optK (bin2 Try.prog .eql 22 a0 (Value.slice none 0 0)) fun v4n1 =>
  ifV v4n1 (
    outK [(Value.slice none 0 0)]) (
    (inside (evBuildSlice Try.prog 22 0 [])).bind fun v5n2 =>
    (inside (evAppend Try.prog 22 v5n2 a0)).bind fun v7n3 =>
    outK [v7n3])
theorem sh_slices_Clone_int_int (lf d : Nat) (a0 : Value) : evCall2 Try.prog gt lf (d + 1) 23 #[a0] = inside (b_slices_Clone_int_int lf d a0) := by kernel_rfl

/- balerref09_least -/
noncomputable def lpA_balerref09_least (lf d fu : Nat) (k : Ex → Fr → M Value) (x0 : Value) (x2 : Value) (x3 : Value) (x6 : Value) (x7 : Value) (x8 : Value) : M Value := loopK (fun s1 k1 => codeK Try.prog (evCall2 Try.prog gt lf d) (gt 24) lf (codeAt (bodyOf Try.prog 24) [true, true, false, true, false, false]) s1 k1) [0, 2, 3, 6, 7, 8] fu [(0, x0), (2, x2), (3, x3), (6, x6), (7, x7), (8, x8)] k
noncomputable def kcA_balerref09_least (lf d : Nat) : Ex → Fr → M Value := contAt Try.prog (evCall2 Try.prog gt lf d) (gt 24) lf (bodyOf Try.prog 24) [true, true, false, true, false] (endK Try.prog (resOf Try.prog 24))
noncomputable def b_balerref09_least (lf d : Nat) (a0 : Value) : M Value :=
  optK (len2 Try.prog #[34] [a0]) fun v7n1 =>
  lpA_balerref09_least lf d lf (kcA_balerref09_least lf d) a0 (Value.int .i64 0) (Value.int .i64 0) a0 v7n1 (Value.int .i64 0)
theorem sh_balerref09_least (lf d : Nat) (a0 : Value) : evCall2 Try.prog gt lf (d + 1) 24 #[a0] = inside (b_balerref09_least lf d a0) := by kernel_rfl
theorem zeroA_balerref09_least (lf d : Nat) (k : Ex → Fr → M Value) (x0 : Value) (x2 : Value) (x3 : Value) (x6 : Value) (x7 : Value) (x8 : Value) : lpA_balerref09_least lf d 0 k x0 x2 x3 x6 x7 x8 = M.fail := rfl
theorem succA_balerref09_least (lf d fu : Nat) (k : Ex → Fr → M Value) (x0 : Value) (x2 : Value) (x3 : Value) (x6 : Value) (x7 : Value) (x8 : Value) : lpA_balerref09_least lf d (fu + 1) k x0 x2 x3 x6 x7 x8 =
  optK (bin2 Try.prog .lss 3 x8 x7) fun v9n2 =>
  ifV v9n2 (
    optK (evIndexAddr Try.prog 34 x6 x8) fun v11n3 =>
    (inside (evLoad Try.prog 36 v11n3)).bind fun v12n4 =>
    (inside (evAlloc Try.prog 36)).bind fun v5n5 =>
    (inside (evStore Try.prog 36 v5n5 v12n4)).bind fun u6 =>
    (inside (evLoad Try.prog 36 v5n5)).bind fun v13n7 =>
    optK (evIndexAddr Try.prog 34 x0 x3) fun v16n8 =>
    (inside (evLoad Try.prog 36 v16n8)).bind fun v17n9 =>
    (inside (evCall2 Try.prog gt lf d 31 #[v13n7, v17n9])).bind fun v18n10 =>
    ifV v18n10 (
      optK (bin2 Try.prog .add 3 x8 (Value.int .i64 1)) fun v20n11 =>
      lpA_balerref09_least lf d fu k x0 x2 x8 x6 x7 v20n11) (
      optK (bin2 Try.prog .add 3 x8 (Value.int .i64 1)) fun v20n12 =>
      lpA_balerref09_least lf d fu k x0 x2 x3 x6 x7 v20n12)) (
    k (Ex.exit 0) [(0, x0), (2, x2), (3, x3), (6, x6), (7, x7), (8, x8), (9, v9n2)]) := by kernel_rfl
theorem kcAa_balerref09_least (lf d : Nat) (y0 : Value) (y2 : Value) (y3 : Value) (y6 : Value) (y7 : Value) (y8 : Value) (y9 : Value) : kcA_balerref09_least lf d (Ex.exit 0) [(0, y0), (2, y2), (3, y3), (6, y6), (7, y7), (8, y8), (9, y9)] =
  outK [y3] := by kernel_rfl

/- balerref09_without -/
noncomputable def lpA_balerref09_without (lf d fu : Nat) (k : Ex → Fr → M Value) (x0 : Value) (x1 : Value) (x4 : Value) (x5 : Value) (x8 : Value) (x9 : Value) (x10 : Value) : M Value := loopK (fun s1 k1 => codeK Try.prog (evCall2 Try.prog gt lf d) (gt 25) lf (codeAt (bodyOf Try.prog 25) [true, true, false, true, false, false]) s1 k1) [0, 1, 4, 5, 8, 9, 10] fu [(0, x0), (1, x1), (4, x4), (5, x5), (8, x8), (9, x9), (10, x10)] k
noncomputable def kcA_balerref09_without (lf d : Nat) : Ex → Fr → M Value := contAt Try.prog (evCall2 Try.prog gt lf d) (gt 25) lf (bodyOf Try.prog 25) [true, true, false, true, false] (endK Try.prog (resOf Try.prog 25))
noncomputable def b_balerref09_without (lf d : Nat) (a0 : Value) (a1 : Value) : M Value :=
  optK (len2 Try.prog #[34] [a0]) fun v9n1 =>
  lpA_balerref09_without lf d lf (kcA_balerref09_without lf d) a0 a1 (Value.slice none 0 0) (Value.slice none 0 0) a0 v9n1 (Value.int .i64 0)
theorem sh_balerref09_without (lf d : Nat) (a0 : Value) (a1 : Value) : evCall2 Try.prog gt lf (d + 1) 25 #[a0, a1] = inside (b_balerref09_without lf d a0 a1) := by kernel_rfl
theorem zeroA_balerref09_without (lf d : Nat) (k : Ex → Fr → M Value) (x0 : Value) (x1 : Value) (x4 : Value) (x5 : Value) (x8 : Value) (x9 : Value) (x10 : Value) : lpA_balerref09_without lf d 0 k x0 x1 x4 x5 x8 x9 x10 = M.fail := rfl
theorem succA_balerref09_without (lf d fu : Nat) (k : Ex → Fr → M Value) (x0 : Value) (x1 : Value) (x4 : Value) (x5 : Value) (x8 : Value) (x9 : Value) (x10 : Value) : lpA_balerref09_without lf d (fu + 1) k x0 x1 x4 x5 x8 x9 x10 =
  optK (bin2 Try.prog .lss 3 x10 x9) fun v11n2 =>
  ifV v11n2 (
    optK (evIndexAddr Try.prog 34 x8 x10) fun v13n3 =>
    (inside (evLoad Try.prog 36 v13n3)).bind fun v14n4 =>
    (inside (evAlloc Try.prog 36)).bind fun v7n5 =>
    (inside (evStore Try.prog 36 v7n5 v14n4)).bind fun u6 =>
    optK (bin2 Try.prog .neq 3 x10 x1) fun v17n7 =>
    ifV v17n7 (
      (inside (evLoad Try.prog 36 v7n5)).bind fun v19n8 =>
      (inside (evBuildSlice Try.prog 34 1 [(0, v19n8)])).bind fun v20n9 =>
      (inside (evAppend Try.prog 34 x5 v20n9)).bind fun v21n10 =>
      optK (bin2 Try.prog .add 3 x10 (Value.int .i64 1)) fun v22n11 =>
      lpA_balerref09_without lf d fu k x0 x1 x4 v21n10 x8 x9 v22n11) (
      optK (bin2 Try.prog .add 3 x10 (Value.int .i64 1)) fun v22n12 =>
      lpA_balerref09_without lf d fu k x0 x1 x4 x5 x8 x9 v22n12)) (
    k (Ex.exit 0) [(0, x0), (1, x1), (4, x4), (5, x5), (8, x8), (9, x9), (10, x10), (11, v11n2)]) := by kernel_rfl
theorem kcAa_balerref09_without (lf d : Nat) (y0 : Value) (y1 : Value) (y4 : Value) (y5 : Value) (y8 : Value) (y9 : Value) (y10 : Value) (y11 : Value) : kcA_balerref09_without lf d (Ex.exit 0) [(0, y0), (1, y1), (4, y4), (5, y5), (8, y8), (9, y9), (10, y10), (11, y11)] =
  outK [y5] := by kernel_rfl

/- slices_ContainsFunc_int_int -/
noncomputable def b_slices_ContainsFunc_int_int (lf d : Nat) (a0 : Value) (a1 : Value) : M Value :=
  (inside (evCall2 Try.prog gt lf d 32 #[a0, a1])).bind fun v7n1 =>
  optK (bin2 Try.prog .geq 3 v7n1 (Value.int .i64 0)) fun v8n2 =>
  outK [v8n2]
theorem sh_slices_ContainsFunc_int_int (lf d : Nat) (a0 : Value) (a1 : Value) : evCall2 Try.prog gt lf (d + 1) 26 #[a0, a1] = inside (b_slices_ContainsFunc_int_int lf d a0 a1) := by kernel_rfl

/- lens_between_1 -/
noncomputable def b_lens_between_1 (lf d : Nat) (a0 : Value) (a1 : Value) (a2 : Value) : M Value :=
  (inside (evLoad Try.prog 3 a1)).bind fun v6n1 =>
  optK (bin2 Try.prog .lss 3 a0 v6n1) fun v7n2 =>
  ifV v7n2 (
    outK [(Value.bool true)]) (
    (inside (evLoad Try.prog 3 a2)).bind fun v10n3 =>
    optK (bin2 Try.prog .gtr 3 a0 v10n3) fun v11n4 =>
    outK [v11n4])
theorem sh_lens_between_1 (lf d : Nat) (a0 : Value) (a1 : Value) (a2 : Value) : evCall2 Try.prog gt lf (d + 1) 27 #[a0, a1, a2] = inside (b_lens_between_1 lf d a0 a1 a2) := by kernel_rfl

/- lens_treesOf -/
noncomputable def lpA_lens_treesOf (lf d fu : Nat) (k : Ex → Fr → M Value) (x0 : Value) (x1 : Value) (x2 : Value) (x3 : Value) (x12 : Value) (x13 : Value) : M Value := loopK (fun s1 k1 => codeK Try.prog (evCall2 Try.prog gt lf d) (gt 28) lf (codeAt (bodyOf Try.prog 28) [true, true, false, true, false, false]) s1 k1) [0, 1, 2, 3, 12, 13] fu [(0, x0), (1, x1), (2, x2), (3, x3), (12, x12), (13, x13)] k
noncomputable def kcA_lens_treesOf (lf d : Nat) : Ex → Fr → M Value := contAt Try.prog (evCall2 Try.prog gt lf d) (gt 28) lf (bodyOf Try.prog 28) [true, true, false, true, false] (endK Try.prog (resOf Try.prog 28))
noncomputable def b_lens_treesOf (lf d : Nat) (a0 : Value) : M Value :=
  (inside (evBox Try.prog 22 a0)).bind fun v1n1 =>
  (timed (
    (inside (evLoad Try.prog 22 v1n1)).bind fun v5n3 => M.ret v5n3)).bind fun vtn2 =>
  (timed (
    (inside (evCall2 Try.prog gt lf d 23 #[vtn2.1])).bind fun v6n5 => M.ret v6n5)).bind fun vtn4 =>
  (timed (
    (inside (evLoad Try.prog 22 v1n1)).bind fun v7n7 => M.ret v7n7)).bind fun vtn6 =>
  optK (len2 Try.prog #[22] [vtn6.1]) fun v8n8 =>
  (inside (evBuild Try.prog 46 [(0, vtn4.1), (3, v8n8)])).bind fun v9n9 =>
  (timed (
    (inside (evBox Try.prog 46 v9n9)).bind fun v10n11 => M.ret v10n11)).bind fun vtn10 =>
  chkT ((!(Tk.clash vtn4.2 vtn6.2) && true) && true) (
    (inside (evLoad Try.prog 22 v1n1)).bind fun v11n12 =>
    optK (len2 Try.prog #[22] [v11n12]) fun v12n13 =>
    lpA_lens_treesOf lf d lf (kcA_lens_treesOf lf d) a0 v1n1 (Value.pointer none) vtn10.1 v12n13 (Value.int .i64 0))
theorem sh_lens_treesOf (lf d : Nat) (a0 : Value) : evCall2 Try.prog gt lf (d + 1) 28 #[a0] = inside (b_lens_treesOf lf d a0) := by kernel_rfl
theorem zeroA_lens_treesOf (lf d : Nat) (k : Ex → Fr → M Value) (x0 : Value) (x1 : Value) (x2 : Value) (x3 : Value) (x12 : Value) (x13 : Value) : lpA_lens_treesOf lf d 0 k x0 x1 x2 x3 x12 x13 = M.fail := rfl
theorem succA_lens_treesOf (lf d fu : Nat) (k : Ex → Fr → M Value) (x0 : Value) (x1 : Value) (x2 : Value) (x3 : Value) (x12 : Value) (x13 : Value) : lpA_lens_treesOf lf d (fu + 1) k x0 x1 x2 x3 x12 x13 =
  optK (bin2 Try.prog .lss 3 x13 x12) fun v14n14 =>
  ifV v14n14 (
    optK (nil2 x3) fun v18n15 =>
    optK (evFieldAddr Try.prog 46 v18n15 2) fun v19n16 =>
    (inside (evLoad Try.prog 22 v19n16)).bind fun v20n17 =>
    (inside (evBuildSlice Try.prog 22 1 [(0, x13)])).bind fun v22n18 =>
    (inside (evAppend Try.prog 22 v20n17 v22n18)).bind fun v23n19 =>
    optK (nil2 x3) fun v24n20 =>
    optK (evFieldAddr Try.prog 46 v24n20 2) fun v25n21 =>
    (inside (evStore Try.prog 22 v25n21 v23n19)).bind fun u22 =>
    optK (nil2 x3) fun v28n23 =>
    optK (evFieldAddr Try.prog 46 v28n23 1) fun v29n24 =>
    (inside (evLoad Try.prog 22 v29n24)).bind fun v30n25 =>
    (inside (evBuildSlice Try.prog 22 1 [(0, (Value.int .i64 (-1)))])).bind fun v31n26 =>
    (inside (evAppend Try.prog 22 v30n25 v31n26)).bind fun v32n27 =>
    optK (nil2 x3) fun v33n28 =>
    optK (evFieldAddr Try.prog 46 v33n28 1) fun v34n29 =>
    (inside (evStore Try.prog 22 v34n29 v32n27)).bind fun u30 =>
    optK (bin2 Try.prog .add 3 x13 (Value.int .i64 1)) fun v35n31 =>
    lpA_lens_treesOf lf d fu k x0 x1 x2 x3 x12 v35n31) (
    k (Ex.exit 0) [(0, x0), (1, x1), (2, x2), (3, x3), (12, x12), (13, x13), (14, v14n14)]) := by kernel_rfl
theorem kcAa_lens_treesOf (lf d : Nat) (y0 : Value) (y1 : Value) (y2 : Value) (y3 : Value) (y12 : Value) (y13 : Value) (y14 : Value) : kcA_lens_treesOf lf d (Ex.exit 0) [(0, y0), (1, y1), (2, y2), (3, y3), (12, y12), (13, y13), (14, y14)] =
  optK (nil2 y3) fun v37n32 =>
  optK (evFieldAddr Try.prog 46 v37n32 2) fun v38n33 =>
  (inside (evLoad Try.prog 22 v38n33)).bind fun v39n34 =>
  (inside (evCall2 Try.prog gt lf d 33 #[v39n34, (Value.func (Go.Fn.func 34) #[] #[y1])])).bind fun v41n35 =>
  outK [y3] := by kernel_rfl

/- lens_trees_least -/
noncomputable def b_lens_trees_least (lf d : Nat) (a0 : Value) : M Value :=
  optK (nil2 a0) fun v5n1 =>
  optK (evFieldAddr Try.prog 46 v5n1 3) fun v6n2 =>
  (inside (evLoad Try.prog 3 v6n2)).bind fun v7n3 =>
  optK (nil2 a0) fun v9n4 =>
  optK (evFieldAddr Try.prog 46 v9n4 0) fun v10n5 =>
  (inside (evLoad Try.prog 22 v10n5)).bind fun v11n6 =>
  optK (len2 Try.prog #[22] [v11n6]) fun v12n7 =>
  optK (bin2 Try.prog .eql 3 v7n3 v12n7) fun v13n8 =>
  ifV v13n8 (
    optK (nil2 a0) fun v48n9 =>
    optK (evFieldAddr Try.prog 46 v48n9 2) fun v49n10 =>
    (inside (evLoad Try.prog 22 v49n10)).bind fun v50n11 =>
    optK (evIndexAddr Try.prog 22 v50n11 (Value.int .i64 0)) fun v51n12 =>
    (inside (evLoad Try.prog 3 v51n12)).bind fun v52n13 =>
    optK (nil2 a0) fun v55n14 =>
    optK (evFieldAddr Try.prog 46 v55n14 2) fun v56n15 =>
    (inside (evLoad Try.prog 22 v56n15)).bind fun v57n16 =>
    slice2 Try.prog 22 v57n16 (some (Value.int .i64 1)) none none fun v58n17 =>
    optK (nil2 a0) fun v59n18 =>
    optK (evFieldAddr Try.prog 46 v59n18 2) fun v60n19 =>
    (inside (evStore Try.prog 22 v60n19 v58n17)).bind fun u20 =>
    outK [v52n13]) (
    optK (nil2 a0) fun v16n21 =>
    optK (evFieldAddr Try.prog 46 v16n21 2) fun v17n22 =>
    (inside (evLoad Try.prog 22 v17n22)).bind fun v18n23 =>
    optK (len2 Try.prog #[22] [v18n23]) fun v19n24 =>
    optK (bin2 Try.prog .gtr 3 v19n24 (Value.int .i64 0)) fun v20n25 =>
    ifV v20n25 (
      optK (nil2 a0) fun v23n26 =>
      optK (evFieldAddr Try.prog 46 v23n26 0) fun v24n27 =>
      (inside (evLoad Try.prog 22 v24n27)).bind fun v25n28 =>
      optK (nil2 a0) fun v27n29 =>
      optK (evFieldAddr Try.prog 46 v27n29 2) fun v28n30 =>
      (inside (evLoad Try.prog 22 v28n30)).bind fun v29n31 =>
      optK (evIndexAddr Try.prog 22 v29n31 (Value.int .i64 0)) fun v30n32 =>
      (inside (evLoad Try.prog 3 v30n32)).bind fun v31n33 =>
      optK (evIndexAddr Try.prog 22 v25n28 v31n33) fun v32n34 =>
      (inside (evLoad Try.prog 3 v32n34)).bind fun v33n35 =>
      optK (nil2 a0) fun v35n36 =>
      optK (evFieldAddr Try.prog 46 v35n36 0) fun v36n37 =>
      (inside (evLoad Try.prog 22 v36n37)).bind fun v37n38 =>
      optK (nil2 a0) fun v39n39 =>
      optK (evFieldAddr Try.prog 46 v39n39 3) fun v40n40 =>
      (inside (evLoad Try.prog 3 v40n40)).bind fun v41n41 =>
      optK (evIndexAddr Try.prog 22 v37n38 v41n41) fun v42n42 =>
      (inside (evLoad Try.prog 3 v42n42)).bind fun v43n43 =>
      optK (bin2 Try.prog .leq 3 v33n35 v43n43) fun v44n44 =>
      ifV v44n44 (
        optK (nil2 a0) fun v48n45 =>
        optK (evFieldAddr Try.prog 46 v48n45 2) fun v49n46 =>
        (inside (evLoad Try.prog 22 v49n46)).bind fun v50n47 =>
        optK (evIndexAddr Try.prog 22 v50n47 (Value.int .i64 0)) fun v51n48 =>
        (inside (evLoad Try.prog 3 v51n48)).bind fun v52n49 =>
        optK (nil2 a0) fun v55n50 =>
        optK (evFieldAddr Try.prog 46 v55n50 2) fun v56n51 =>
        (inside (evLoad Try.prog 22 v56n51)).bind fun v57n52 =>
        slice2 Try.prog 22 v57n52 (some (Value.int .i64 1)) none none fun v58n53 =>
        optK (nil2 a0) fun v59n54 =>
        optK (evFieldAddr Try.prog 46 v59n54 2) fun v60n55 =>
        (inside (evStore Try.prog 22 v60n55 v58n53)).bind fun u56 =>
        outK [v52n49]) (
        optK (nil2 a0) fun v63n57 =>
        optK (evFieldAddr Try.prog 46 v63n57 3) fun v64n58 =>
        (inside (evLoad Try.prog 3 v64n58)).bind fun v65n59 =>
        optK (bin2 Try.prog .add 3 v65n59 (Value.int .i64 1)) fun v66n60 =>
        optK (nil2 a0) fun v67n61 =>
        optK (evFieldAddr Try.prog 46 v67n61 3) fun v68n62 =>
        (inside (evStore Try.prog 3 v68n62 v66n60)).bind fun u63 =>
        optK (nil2 a0) fun v70n64 =>
        optK (evFieldAddr Try.prog 46 v70n64 3) fun v71n65 =>
        (inside (evLoad Try.prog 3 v71n65)).bind fun v72n66 =>
        optK (bin2 Try.prog .sub 3 v72n66 (Value.int .i64 1)) fun v73n67 =>
        outK [v73n67])) (
      optK (nil2 a0) fun v63n68 =>
      optK (evFieldAddr Try.prog 46 v63n68 3) fun v64n69 =>
      (inside (evLoad Try.prog 3 v64n69)).bind fun v65n70 =>
      optK (bin2 Try.prog .add 3 v65n70 (Value.int .i64 1)) fun v66n71 =>
      optK (nil2 a0) fun v67n72 =>
      optK (evFieldAddr Try.prog 46 v67n72 3) fun v68n73 =>
      (inside (evStore Try.prog 3 v68n73 v66n71)).bind fun u74 =>
      optK (nil2 a0) fun v70n75 =>
      optK (evFieldAddr Try.prog 46 v70n75 3) fun v71n76 =>
      (inside (evLoad Try.prog 3 v71n76)).bind fun v72n77 =>
      optK (bin2 Try.prog .sub 3 v72n77 (Value.int .i64 1)) fun v73n78 =>
      outK [v73n78]))
theorem sh_lens_trees_least (lf d : Nat) (a0 : Value) : evCall2 Try.prog gt lf (d + 1) 29 #[a0] = inside (b_lens_trees_least lf d a0) := by kernel_rfl

/- lens_trees_join -/
noncomputable def b_lens_trees_join (lf d : Nat) (a0 : Value) (a1 : Value) (a2 : Value) : M Value :=
  optK (nil2 a0) fun v7n1 =>
  optK (evFieldAddr Try.prog 46 v7n1 1) fun v8n2 =>
  (inside (evLoad Try.prog 22 v8n2)).bind fun v9n3 =>
  optK (nil2 a0) fun v12n4 =>
  optK (evFieldAddr Try.prog 46 v12n4 0) fun v13n5 =>
  (inside (evLoad Try.prog 22 v13n5)).bind fun v14n6 =>
  optK (len2 Try.prog #[22] [v14n6]) fun v15n7 =>
  optK (evIndexAddr Try.prog 22 v9n3 a1) fun v16n8 =>
  (inside (evStore Try.prog 3 v16n8 v15n7)).bind fun u9 =>
  optK (nil2 a0) fun v18n10 =>
  optK (evFieldAddr Try.prog 46 v18n10 1) fun v19n11 =>
  (inside (evLoad Try.prog 22 v19n11)).bind fun v20n12 =>
  optK (nil2 a0) fun v23n13 =>
  optK (evFieldAddr Try.prog 46 v23n13 0) fun v24n14 =>
  (inside (evLoad Try.prog 22 v24n14)).bind fun v25n15 =>
  optK (len2 Try.prog #[22] [v25n15]) fun v26n16 =>
  optK (evIndexAddr Try.prog 22 v20n12 a2) fun v27n17 =>
  (inside (evStore Try.prog 3 v27n17 v26n16)).bind fun u18 =>
  optK (nil2 a0) fun v30n19 =>
  optK (evFieldAddr Try.prog 46 v30n19 0) fun v31n20 =>
  (inside (evLoad Try.prog 22 v31n20)).bind fun v32n21 =>
  optK (nil2 a0) fun v34n22 =>
  optK (evFieldAddr Try.prog 46 v34n22 0) fun v35n23 =>
  (inside (evLoad Try.prog 22 v35n23)).bind fun v36n24 =>
  optK (evIndexAddr Try.prog 22 v36n24 a1) fun v38n25 =>
  (inside (evLoad Try.prog 3 v38n25)).bind fun v39n26 =>
  optK (nil2 a0) fun v41n27 =>
  optK (evFieldAddr Try.prog 46 v41n27 0) fun v42n28 =>
  (inside (evLoad Try.prog 22 v42n28)).bind fun v43n29 =>
  optK (evIndexAddr Try.prog 22 v43n29 a2) fun v45n30 =>
  (inside (evLoad Try.prog 3 v45n30)).bind fun v46n31 =>
  optK (bin2 Try.prog .add 3 v39n26 v46n31) fun v47n32 =>
  (inside (evBuildSlice Try.prog 22 1 [(0, v47n32)])).bind fun v48n33 =>
  (inside (evAppend Try.prog 22 v32n21 v48n33)).bind fun v49n34 =>
  optK (nil2 a0) fun v50n35 =>
  optK (evFieldAddr Try.prog 46 v50n35 0) fun v51n36 =>
  (inside (evStore Try.prog 22 v51n36 v49n34)).bind fun u37 =>
  optK (nil2 a0) fun v54n38 =>
  optK (evFieldAddr Try.prog 46 v54n38 1) fun v55n39 =>
  (inside (evLoad Try.prog 22 v55n39)).bind fun v56n40 =>
  (inside (evBuildSlice Try.prog 22 1 [(0, (Value.int .i64 (-1)))])).bind fun v57n41 =>
  (inside (evAppend Try.prog 22 v56n40 v57n41)).bind fun v58n42 =>
  optK (nil2 a0) fun v59n43 =>
  optK (evFieldAddr Try.prog 46 v59n43 1) fun v60n44 =>
  (inside (evStore Try.prog 22 v60n44 v58n42)).bind fun u45 =>
  outK []
theorem sh_lens_trees_join (lf d : Nat) (a0 : Value) (a1 : Value) (a2 : Value) : evCall2 Try.prog gt lf (d + 1) 30 #[a0, a1, a2] = inside (b_lens_trees_join lf d a0 a1 a2) := by kernel_rfl

/- balerref09_less -/
noncomputable def b_balerref09_less (lf d : Nat) (a0 : Value) (a1 : Value) : M Value :=
  (inside (evBox Try.prog 36 a0)).bind fun v2n1 =>
  (inside (evBox Try.prog 36 a1)).bind fun v3n2 =>
  optK (evFieldAddr Try.prog 36 v2n1 0) fun v5n3 =>
  (inside (evLoad Try.prog 3 v5n3)).bind fun v6n4 =>
  optK (evFieldAddr Try.prog 36 v3n2 0) fun v7n5 =>
  (inside (evLoad Try.prog 3 v7n5)).bind fun v8n6 =>
  optK (bin2 Try.prog .lss 3 v6n4 v8n6) fun v9n7 =>
  ifV v9n7 (
    outK [(Value.bool true)]) (
    optK (evFieldAddr Try.prog 36 v2n1 0) fun v11n8 =>
    (inside (evLoad Try.prog 3 v11n8)).bind fun v12n9 =>
    optK (evFieldAddr Try.prog 36 v3n2 0) fun v13n10 =>
    (inside (evLoad Try.prog 3 v13n10)).bind fun v14n11 =>
    optK (bin2 Try.prog .eql 3 v12n9 v14n11) fun v15n12 =>
    ifV v15n12 (
      optK (evFieldAddr Try.prog 36 v2n1 1) fun v17n13 =>
      (inside (evLoad Try.prog 3 v17n13)).bind fun v18n14 =>
      optK (evFieldAddr Try.prog 36 v3n2 1) fun v19n15 =>
      (inside (evLoad Try.prog 3 v19n15)).bind fun v20n16 =>
      optK (bin2 Try.prog .lss 3 v18n14 v20n16) fun v21n17 =>
      outK [v21n17]) (
      outK [(Value.bool false)]))
theorem sh_balerref09_less (lf d : Nat) (a0 : Value) (a1 : Value) : evCall2 Try.prog gt lf (d + 1) 31 #[a0, a1] = inside (b_balerref09_less lf d a0 a1) := by kernel_rfl

/- slices_IndexFunc_int_int -/
noncomputable def lpA_slices_IndexFunc_int_int (lf d fu : Nat) (k : Ex → Fr → M Value) (x0 : Value) (x1 : Value) (x4 : Value) (x7 : Value) (x8 : Value) : M Value := loopK (fun s1 k1 => codeK Try.prog (evCall2 Try.prog gt lf d) (gt 32) lf (codeAt (bodyOf Try.prog 32) [true, false, true, false, false]) s1 k1) [0, 1, 4, 7, 8] fu [(0, x0), (1, x1), (4, x4), (7, x7), (8, x8)] k
noncomputable def kcA_slices_IndexFunc_int_int (lf d : Nat) : Ex → Fr → M Value := contAt Try.prog (evCall2 Try.prog gt lf d) (gt 32) lf (bodyOf Try.prog 32) [true, false, true, false] (endK Try.prog (resOf Try.prog 32))
noncomputable def b_slices_IndexFunc_int_int (lf d : Nat) (a0 : Value) (a1 : Value) : M Value :=
  optK (len2 Try.prog #[22] [a0]) fun v7n1 =>
  lpA_slices_IndexFunc_int_int lf d lf (kcA_slices_IndexFunc_int_int lf d) a0 a1 (Value.int .i64 0) v7n1 (Value.int .i64 0)
theorem sh_slices_IndexFunc_int_int (lf d : Nat) (a0 : Value) (a1 : Value) : evCall2 Try.prog gt lf (d + 1) 32 #[a0, a1] = inside (b_slices_IndexFunc_int_int lf d a0 a1) := by kernel_rfl
theorem zeroA_slices_IndexFunc_int_int (lf d : Nat) (k : Ex → Fr → M Value) (x0 : Value) (x1 : Value) (x4 : Value) (x7 : Value) (x8 : Value) : lpA_slices_IndexFunc_int_int lf d 0 k x0 x1 x4 x7 x8 = M.fail := rfl
theorem succA_slices_IndexFunc_int_int (lf d fu : Nat) (k : Ex → Fr → M Value) (x0 : Value) (x1 : Value) (x4 : Value) (x7 : Value) (x8 : Value) : lpA_slices_IndexFunc_int_int lf d (fu + 1) k x0 x1 x4 x7 x8 =
  optK (bin2 Try.prog .lss 3 x8 x7) fun v9n2 =>
  ifV v9n2 (
    optK (evIndexAddr Try.prog 22 x0 x8) fun v14n3 =>
    (inside (evLoad Try.prog 3 v14n3)).bind fun v15n4 =>
    callV Try.prog (evCall2 Try.prog gt lf d) x1 [v15n4] fun v16n5 =>
    ifV v16n5 (
      k Ex.ret [(0, x0), (1, x1), (4, x8), (5, x8), (7, x7), (8, x8), (9, v9n2), (16, v16n5)]) (
      optK (bin2 Try.prog .add 3 x8 (Value.int .i64 1)) fun v18n6 =>
      lpA_slices_IndexFunc_int_int lf d fu k x0 x1 x4 x7 v18n6)) (
    k (Ex.exit 0) [(0, x0), (1, x1), (4, x4), (7, x7), (8, x8), (9, v9n2)]) := by kernel_rfl
theorem kcAa_slices_IndexFunc_int_int (lf d : Nat) (y0 : Value) (y1 : Value) (y4 : Value) (y5 : Value) (y7 : Value) (y8 : Value) (y9 : Value) (y16 : Value) : kcA_slices_IndexFunc_int_int lf d Ex.ret [(0, y0), (1, y1), (4, y4), (5, y5), (7, y7), (8, y8), (9, y9), (16, y16)] =
  outK [y4] := by kernel_rfl
theorem kcAb_slices_IndexFunc_int_int (lf d : Nat) (y0 : Value) (y1 : Value) (y4 : Value) (y7 : Value) (y8 : Value) (y9 : Value) : kcA_slices_IndexFunc_int_int lf d (Ex.exit 0) [(0, y0), (1, y1), (4, y4), (7, y7), (8, y8), (9, y9)] =
  outK [(Value.int .i64 (-1))] := by kernel_rfl

/- slices_SortStableFunc_int_int -/
noncomputable def b_slices_SortStableFunc_int_int (lf d : Nat) (a0 : Value) (a1 : Value) : M Value :=
  optK (len2 Try.prog #[22] [a0]) fun v6n1 =>
  (inside (evCall2 Try.prog gt lf d 36 #[a0, v6n1, a1])).bind fun v8n2 =>
  outK []
theorem sh_slices_SortStableFunc_int_int (lf d : Nat) (a0 : Value) (a1 : Value) : evCall2 Try.prog gt lf (d + 1) 33 #[a0, a1] = inside (b_slices_SortStableFunc_int_int lf d a0 a1) := by kernel_rfl

/- lens_treesOf_1 -/
noncomputable def b_lens_treesOf_1 (lf d : Nat) (a0 : Value) (a1 : Value) (a2 : Value) : M Value :=
  (inside (evLoad Try.prog 22 a2)).bind fun v6n1 =>
  optK (evIndexAddr Try.prog 22 v6n1 a0) fun v8n2 =>
  (inside (evLoad Try.prog 3 v8n2)).bind fun v9n3 =>
  (inside (evLoad Try.prog 22 a2)).bind fun v10n4 =>
  optK (evIndexAddr Try.prog 22 v10n4 a1) fun v12n5 =>
  (inside (evLoad Try.prog 3 v12n5)).bind fun v13n6 =>
  (inside (evCall2 Try.prog gt lf d 35 #[v9n3, v13n6])).bind fun v14n7 =>
  outK [v14n7]
theorem sh_lens_treesOf_1 (lf d : Nat) (a0 : Value) (a1 : Value) (a2 : Value) : evCall2 Try.prog gt lf (d + 1) 34 #[a0, a1, a2] = inside (b_lens_treesOf_1 lf d a0 a1 a2) := by kernel_rfl

/- cmp_Compare_int -/
noncomputable def b_cmp_Compare_int (lf d : Nat) (a0 : Value) (a1 : Value) : M Value :=
  (inside (evCall2 Try.prog gt lf d 37 #[a0])).bind fun v8n1 =>
  (inside (evCall2 Try.prog gt lf d 37 #[a1])).bind fun v10n2 =>
  ifV v8n1 (
    ifV v10n2 (
      outK [(Value.int .i64 0)]) (
      outK [(Value.int .i64 (-1))])) (
    ifV v10n2 (
      outK [(Value.int .i64 1)]) (
      optK (bin2 Try.prog .lss 3 a0 a1) fun v16n3 =>
      ifV v16n3 (
        outK [(Value.int .i64 (-1))]) (
        optK (bin2 Try.prog .gtr 3 a0 a1) fun v19n4 =>
        ifV v19n4 (
          outK [(Value.int .i64 1)]) (
          outK [(Value.int .i64 0)]))))
theorem sh_cmp_Compare_int (lf d : Nat) (a0 : Value) (a1 : Value) : evCall2 Try.prog gt lf (d + 1) 35 #[a0, a1] = inside (b_cmp_Compare_int lf d a0 a1) := by kernel_rfl

/- slices_stableCmpFunc_int -/
noncomputable def lpA_slices_stableCmpFunc_int (lf d fu : Nat) (k : Ex → Fr → M Value) (x0 : Value) (x1 : Value) (x2 : Value) (x6 : Value) (x7 : Value) (x8 : Value) : M Value := loopK (fun s1 k1 => codeK Try.prog (evCall2 Try.prog gt lf d) (gt 36) lf (codeAt (bodyOf Try.prog 36) [true, true, false, false, false]) s1 k1) [0, 1, 2, 6, 7, 8] fu [(0, x0), (1, x1), (2, x2), (6, x6), (7, x7), (8, x8)] k
noncomputable def kcA_slices_stableCmpFunc_int (lf d : Nat) : Ex → Fr → M Value := contAt Try.prog (evCall2 Try.prog gt lf d) (gt 36) lf (bodyOf Try.prog 36) [true, true, false, false] (endK Try.prog (resOf Try.prog 36))
noncomputable def lpB_slices_stableCmpFunc_int (lf d fu : Nat) (k : Ex → Fr → M Value) (x0 : Value) (x1 : Value) (x2 : Value) (x6 : Value) (x7 : Value) (x8 : Value) (x13 : Value) : M Value := loopK (fun s1 k1 => codeK Try.prog (evCall2 Try.prog gt lf d) (gt 36) lf (codeAt (bodyOf Try.prog 36) [true, true, true, true, false, false]) s1 k1) [0, 1, 2, 6, 7, 8, 13] fu [(0, x0), (1, x1), (2, x2), (6, x6), (7, x7), (8, x8), (13, x13)] k
noncomputable def kcB_slices_stableCmpFunc_int (lf d : Nat) : Ex → Fr → M Value := contAt Try.prog (evCall2 Try.prog gt lf d) (gt 36) lf (bodyOf Try.prog 36) [true, true, true, true, false] (endK Try.prog (resOf Try.prog 36))
noncomputable def lpC_slices_stableCmpFunc_int (lf d fu : Nat) (k : Ex → Fr → M Value) (x0 : Value) (x1 : Value) (x2 : Value) (x6 : Value) (x7 : Value) (x8 : Value) (x13 : Value) (x30 : Value) : M Value := loopK (fun s1 k1 => codeK Try.prog (evCall2 Try.prog gt lf d) (gt 36) lf (codeAt (bodyOf Try.prog 36) [true, true, true, true, false, false, true, false, true, false, false, false]) s1 k1) [0, 1, 2, 6, 7, 8, 13, 30] fu [(0, x0), (1, x1), (2, x2), (6, x6), (7, x7), (8, x8), (13, x13), (30, x30)] k
noncomputable def kcC_slices_stableCmpFunc_int (lf d fu : Nat) (k : Ex → Fr → M Value) : Ex → Fr → M Value := contAt Try.prog (evCall2 Try.prog gt lf d) (gt 36) lf (codeAt (bodyOf Try.prog 36) [true, true, true, true, false, false]) [true, false, true, false, false] (againK (fun s1 => loopK (fun s1 k1 => codeK Try.prog (evCall2 Try.prog gt lf d) (gt 36) lf (codeAt (bodyOf Try.prog 36) [true, true, true, true, false, false]) s1 k1) [0, 1, 2, 6, 7, 8, 13] fu (s1.keep [0, 1, 2, 6, 7, 8, 13]) k) k)
noncomputable def b_slices_stableCmpFunc_int (lf d : Nat) (a0 : Value) (a1 : Value) (a2 : Value) : M Value :=
  lpA_slices_stableCmpFunc_int lf d lf (kcA_slices_stableCmpFunc_int lf d) a0 a1 a2 (Value.int .i64 20) (Value.int .i64 0) (Value.int .i64 20)
theorem sh_slices_stableCmpFunc_int (lf d : Nat) (a0 : Value) (a1 : Value) (a2 : Value) : evCall2 Try.prog gt lf (d + 1) 36 #[a0, a1, a2] = inside (b_slices_stableCmpFunc_int lf d a0 a1 a2) := by kernel_rfl
theorem zeroA_slices_stableCmpFunc_int (lf d : Nat) (k : Ex → Fr → M Value) (x0 : Value) (x1 : Value) (x2 : Value) (x6 : Value) (x7 : Value) (x8 : Value) : lpA_slices_stableCmpFunc_int lf d 0 k x0 x1 x2 x6 x7 x8 = M.fail := rfl
theorem succA_slices_stableCmpFunc_int (lf d fu : Nat) (k : Ex → Fr → M Value) (x0 : Value) (x1 : Value) (x2 : Value) (x6 : Value) (x7 : Value) (x8 : Value) : lpA_slices_stableCmpFunc_int lf d (fu + 1) k x0 x1 x2 x6 x7 x8 =
  optK (bin2 Try.prog .leq 3 x8 x1) fun v13n1 =>
  ifV v13n1 (
    (inside (evCall2 Try.prog gt lf d 38 #[x0, x7, x8, x2])).bind fun v18n2 =>
    optK (bin2 Try.prog .add 3 x8 x6) fun v22n3 =>
    lpA_slices_stableCmpFunc_int lf d fu k x0 x1 x2 x6 x8 v22n3) (
    k (Ex.exit 0) [(0, x0), (1, x1), (2, x2), (6, x6), (7, x7), (8, x8), (13, v13n1)]) := by kernel_rfl
theorem kcAa_slices_stableCmpFunc_int (lf d : Nat) (y0 : Value) (y1 : Value) (y2 : Value) (y6 : Value) (y7 : Value) (y8 : Value) (y13 : Value) : kcA_slices_stableCmpFunc_int lf d (Ex.exit 0) [(0, y0), (1, y1), (2, y2), (6, y6), (7, y7), (8, y8), (13, y13)] =
  (inside (evCall2 Try.prog gt lf d 38 #[y0, y7, y1, y2])).bind fun v27n4 =>
  lpB_slices_stableCmpFunc_int lf d lf (kcB_slices_stableCmpFunc_int lf d) y0 y1 y2 y6 y7 y8 y13 := by kernel_rfl
theorem zeroB_slices_stableCmpFunc_int (lf d : Nat) (k : Ex → Fr → M Value) (x0 : Value) (x1 : Value) (x2 : Value) (x6 : Value) (x7 : Value) (x8 : Value) (x13 : Value) : lpB_slices_stableCmpFunc_int lf d 0 k x0 x1 x2 x6 x7 x8 x13 = M.fail := rfl
theorem succB_slices_stableCmpFunc_int (lf d fu : Nat) (k : Ex → Fr → M Value) (x0 : Value) (x1 : Value) (x2 : Value) (x6 : Value) (x7 : Value) (x8 : Value) (x13 : Value) : lpB_slices_stableCmpFunc_int lf d (fu + 1) k x0 x1 x2 x6 x7 x8 x13 =
  optK (bin2 Try.prog .lss 3 x6 x1) fun v30n5 =>
  ifV v30n5 (
    optK (bin2 Try.prog .mul 3 (Value.int .i64 2) x6) fun v32n6 =>
    lpC_slices_stableCmpFunc_int lf d lf (kcC_slices_stableCmpFunc_int lf d fu k) x0 x1 x2 x6 (Value.int .i64 0) v32n6 x13 v30n5) (
    k (Ex.exit 2) [(0, x0), (1, x1), (2, x2), (6, x6), (7, x7), (8, x8), (13, x13), (30, v30n5)]) := by kernel_rfl
theorem kcBa_slices_stableCmpFunc_int (lf d : Nat) (y0 : Value) (y1 : Value) (y2 : Value) (y6 : Value) (y7 : Value) (y8 : Value) (y13 : Value) (y30 : Value) : kcB_slices_stableCmpFunc_int lf d (Ex.exit 2) [(0, y0), (1, y1), (2, y2), (6, y6), (7, y7), (8, y8), (13, y13), (30, y30)] =
  outK [] := by kernel_rfl
theorem zeroC_slices_stableCmpFunc_int (lf d : Nat) (k : Ex → Fr → M Value) (x0 : Value) (x1 : Value) (x2 : Value) (x6 : Value) (x7 : Value) (x8 : Value) (x13 : Value) (x30 : Value) : lpC_slices_stableCmpFunc_int lf d 0 k x0 x1 x2 x6 x7 x8 x13 x30 = M.fail := rfl
theorem succC_slices_stableCmpFunc_int (lf d fu : Nat) (k : Ex → Fr → M Value) (x0 : Value) (x1 : Value) (x2 : Value) (x6 : Value) (x7 : Value) (x8 : Value) (x13 : Value) (x30 : Value) : lpC_slices_stableCmpFunc_int lf d (fu + 1) k x0 x1 x2 x6 x7 x8 x13 x30 =
  optK (bin2 Try.prog .leq 3 x8 x1) fun v35n7 =>
  ifV v35n7 (
    optK (bin2 Try.prog .add 3 x7 x6) fun v40n8 =>
    (inside (evCall2 Try.prog gt lf d 39 #[x0, x7, v40n8, x8, x2])).bind fun v43n9 =>
    optK (bin2 Try.prog .mul 3 (Value.int .i64 2) x6) fun v47n10 =>
    optK (bin2 Try.prog .add 3 x8 v47n10) fun v48n11 =>
    lpC_slices_stableCmpFunc_int lf d fu k x0 x1 x2 x6 x8 v48n11 x13 x30) (
    k (Ex.exit 4) [(0, x0), (1, x1), (2, x2), (6, x6), (7, x7), (8, x8), (13, x13), (30, x30), (35, v35n7)]) := by kernel_rfl
theorem kcCa_slices_stableCmpFunc_int (lf d fu : Nat) (k : Ex → Fr → M Value) (y0 : Value) (y1 : Value) (y2 : Value) (y6 : Value) (y7 : Value) (y8 : Value) (y13 : Value) (y30 : Value) (y35 : Value) : kcC_slices_stableCmpFunc_int lf d fu k (Ex.exit 4) [(0, y0), (1, y1), (2, y2), (6, y6), (7, y7), (8, y8), (13, y13), (30, y30), (35, y35)] =
  optK (bin2 Try.prog .add 3 y7 y6) fun v51n12 =>
  optK (bin2 Try.prog .lss 3 v51n12 y1) fun v54n13 =>
  ifV v54n13 (
    (inside (evCall2 Try.prog gt lf d 39 #[y0, y7, v51n12, y1, y2])).bind fun v60n14 =>
    optK (bin2 Try.prog .mul 3 y6 (Value.int .i64 2)) fun v62n15 =>
    lpB_slices_stableCmpFunc_int lf d fu k y0 y1 y2 v62n15 y7 y8 y13) (
    optK (bin2 Try.prog .mul 3 y6 (Value.int .i64 2)) fun v62n16 =>
    lpB_slices_stableCmpFunc_int lf d fu k y0 y1 y2 v62n16 y7 y8 y13) := by kernel_rfl

/- cmp_isNaN_int -/
noncomputable def b_cmp_isNaN_int (lf d : Nat) (a0 : Value) : M Value :=
  optK (bin2 Try.prog .neq 3 a0 a0) fun v5n1 =>
  outK [v5n1]
theorem sh_cmp_isNaN_int (lf d : Nat) (a0 : Value) : evCall2 Try.prog gt lf (d + 1) 37 #[a0] = inside (b_cmp_isNaN_int lf d a0) := by kernel_rfl

/- slices_insertionSortCmpFunc_int -/
noncomputable def lpA_slices_insertionSortCmpFunc_int (lf d fu : Nat) (k : Ex → Fr → M Value) (x0 : Value) (x1 : Value) (x2 : Value) (x3 : Value) (x8 : Value) : M Value := loopK (fun s1 k1 => codeK Try.prog (evCall2 Try.prog gt lf d) (gt 38) lf (codeAt (bodyOf Try.prog 38) [true, false, false]) s1 k1) [0, 1, 2, 3, 8] fu [(0, x0), (1, x1), (2, x2), (3, x3), (8, x8)] k
noncomputable def kcA_slices_insertionSortCmpFunc_int (lf d : Nat) : Ex → Fr → M Value := contAt Try.prog (evCall2 Try.prog gt lf d) (gt 38) lf (bodyOf Try.prog 38) [true, false] (endK Try.prog (resOf Try.prog 38))
noncomputable def lpB_slices_insertionSortCmpFunc_int (lf d fu : Nat) (k : Ex → Fr → M Value) (x0 : Value) (x1 : Value) (x2 : Value) (x3 : Value) (x8 : Value) (x9 : Value) (x14 : Value) : M Value := loopK (fun s1 k1 => codeK Try.prog (evCall2 Try.prog gt lf d) (gt 38) lf (codeAt (bodyOf Try.prog 38) [true, false, false, true, false, false, true, false, false]) s1 k1) [0, 1, 2, 3, 8, 9, 14] fu [(0, x0), (1, x1), (2, x2), (3, x3), (8, x8), (9, x9), (14, x14)] k
noncomputable def kcB_slices_insertionSortCmpFunc_int (lf d fu : Nat) (k : Ex → Fr → M Value) : Ex → Fr → M Value := contAt Try.prog (evCall2 Try.prog gt lf d) (gt 38) lf (codeAt (bodyOf Try.prog 38) [true, false, false]) [true, false, false, true, false] (againK (fun s1 => loopK (fun s1 k1 => codeK Try.prog (evCall2 Try.prog gt lf d) (gt 38) lf (codeAt (bodyOf Try.prog 38) [true, false, false]) s1 k1) [0, 1, 2, 3, 8] fu (s1.keep [0, 1, 2, 3, 8]) k) k)
noncomputable def b_slices_insertionSortCmpFunc_int (lf d : Nat) (a0 : Value) (a1 : Value) (a2 : Value) (a3 : Value) : M Value :=
  optK (bin2 Try.prog .add 3 a1 (Value.int .i64 1)) fun v11n1 =>
  lpA_slices_insertionSortCmpFunc_int lf d lf (kcA_slices_insertionSortCmpFunc_int lf d) a0 a1 a2 a3 v11n1
theorem sh_slices_insertionSortCmpFunc_int (lf d : Nat) (a0 : Value) (a1 : Value) (a2 : Value) (a3 : Value) : evCall2 Try.prog gt lf (d + 1) 38 #[a0, a1, a2, a3] = inside (b_slices_insertionSortCmpFunc_int lf d a0 a1 a2 a3) := by kernel_rfl
theorem zeroA_slices_insertionSortCmpFunc_int (lf d : Nat) (k : Ex → Fr → M Value) (x0 : Value) (x1 : Value) (x2 : Value) (x3 : Value) (x8 : Value) : lpA_slices_insertionSortCmpFunc_int lf d 0 k x0 x1 x2 x3 x8 = M.fail := rfl
theorem succA_slices_insertionSortCmpFunc_int (lf d fu : Nat) (k : Ex → Fr → M Value) (x0 : Value) (x1 : Value) (x2 : Value) (x3 : Value) (x8 : Value) : lpA_slices_insertionSortCmpFunc_int lf d (fu + 1) k x0 x1 x2 x3 x8 =
  optK (bin2 Try.prog .lss 3 x8 x2) fun v14n2 =>
  ifV v14n2 (
    lpB_slices_insertionSortCmpFunc_int lf d lf (kcB_slices_insertionSortCmpFunc_int lf d fu k) x0 x1 x2 x3 x8 x8 v14n2) (
    k (Ex.exit 0) [(0, x0), (1, x1), (2, x2), (3, x3), (8, x8), (14, v14n2)]) := by kernel_rfl
theorem kcAa_slices_insertionSortCmpFunc_int (lf d : Nat) (y0 : Value) (y1 : Value) (y2 : Value) (y3 : Value) (y8 : Value) (y14 : Value) : kcA_slices_insertionSortCmpFunc_int lf d (Ex.exit 0) [(0, y0), (1, y1), (2, y2), (3, y3), (8, y8), (14, y14)] =
  outK [] := by kernel_rfl
theorem zeroB_slices_insertionSortCmpFunc_int (lf d : Nat) (k : Ex → Fr → M Value) (x0 : Value) (x1 : Value) (x2 : Value) (x3 : Value) (x8 : Value) (x9 : Value) (x14 : Value) : lpB_slices_insertionSortCmpFunc_int lf d 0 k x0 x1 x2 x3 x8 x9 x14 = M.fail := rfl
theorem succB_slices_insertionSortCmpFunc_int (lf d fu : Nat) (k : Ex → Fr → M Value) (x0 : Value) (x1 : Value) (x2 : Value) (x3 : Value) (x8 : Value) (x9 : Value) (x14 : Value) : lpB_slices_insertionSortCmpFunc_int lf d (fu + 1) k x0 x1 x2 x3 x8 x9 x14 =
  optK (bin2 Try.prog .gtr 3 x9 x1) fun v20n3 =>
  ifV v20n3 (
    optK (evIndexAddr Try.prog 22 x0 x9) fun v25n4 =>
    (inside (evLoad Try.prog 3 v25n4)).bind fun v26n5 =>
    optK (bin2 Try.prog .sub 3 x9 (Value.int .i64 1)) fun v29n6 =>
    optK (evIndexAddr Try.prog 22 x0 v29n6) fun v30n7 =>
    (inside (evLoad Try.prog 3 v30n7)).bind fun v31n8 =>
    callV Try.prog (evCall2 Try.prog gt lf d) x3 [v26n5, v31n8] fun v32n9 =>
    optK (bin2 Try.prog .lss 3 v32n9 (Value.int .i64 0)) fun v33n10 =>
    ifV v33n10 (
      optK (bin2 Try.prog .sub 3 x9 (Value.int .i64 1)) fun v41n11 =>
      optK (bin2 Try.prog .sub 3 x9 (Value.int .i64 1)) fun v44n12 =>
      optK (evIndexAddr Try.prog 22 x0 v44n12) fun v45n13 =>
      (inside (evLoad Try.prog 3 v45n13)).bind fun v46n14 =>
      optK (evIndexAddr Try.prog 22 x0 x9) fun v49n15 =>
      (inside (evLoad Try.prog 3 v49n15)).bind fun v50n16 =>
      optK (evIndexAddr Try.prog 22 x0 x9) fun v51n17 =>
      (inside (evStore Try.prog 3 v51n17 v46n14)).bind fun u18 =>
      optK (evIndexAddr Try.prog 22 x0 v41n11) fun v52n19 =>
      (inside (evStore Try.prog 3 v52n19 v50n16)).bind fun u20 =>
      optK (bin2 Try.prog .sub 3 x9 (Value.int .i64 1)) fun v36n21 =>
      lpB_slices_insertionSortCmpFunc_int lf d fu k x0 x1 x2 x3 x8 v36n21 x14) (
      k (Ex.exit 2) [(0, x0), (1, x1), (2, x2), (3, x3), (8, x8), (9, x9), (14, x14), (34, v33n10)])) (
    k (Ex.exit 2) [(0, x0), (1, x1), (2, x2), (3, x3), (8, x8), (9, x9), (14, x14), (34, (Value.bool false))]) := by kernel_rfl
theorem kcBa_slices_insertionSortCmpFunc_int (lf d fu : Nat) (k : Ex → Fr → M Value) (y0 : Value) (y1 : Value) (y2 : Value) (y3 : Value) (y8 : Value) (y9 : Value) (y14 : Value) (y34 : Value) : kcB_slices_insertionSortCmpFunc_int lf d fu k (Ex.exit 2) [(0, y0), (1, y1), (2, y2), (3, y3), (8, y8), (9, y9), (14, y14), (34, y34)] =
  optK (bin2 Try.prog .add 3 y8 (Value.int .i64 1)) fun v16n22 =>
  lpA_slices_insertionSortCmpFunc_int lf d fu k y0 y1 y2 y3 v16n22 := by kernel_rfl

/- slices_symMergeCmpFunc_int -/
noncomputable def lpA_slices_symMergeCmpFunc_int (lf d fu : Nat) (k : Ex → Fr → M Value) (x0 : Value) (x1 : Value) (x2 : Value) (x3 : Value) (x4 : Value) (x10 : Value) (x11 : Value) (x28 : Value) : M Value := loopK (fun s1 k1 => codeK Try.prog (evCall2 Try.prog gt lf d) (gt 39) lf (codeAt (bodyOf Try.prog 39) [false, true, false, true, true, false, false, false]) s1 k1) [0, 1, 2, 3, 4, 10, 11, 28] fu [(0, x0), (1, x1), (2, x2), (3, x3), (4, x4), (10, x10), (11, x11), (28, x28)] k
noncomputable def kcA_slices_symMergeCmpFunc_int (lf d : Nat) : Ex → Fr → M Value := contAt Try.prog (evCall2 Try.prog gt lf d) (gt 39) lf (bodyOf Try.prog 39) [false, true, false, true, true, false, false] (endK Try.prog (resOf Try.prog 39))
noncomputable def lpB_slices_symMergeCmpFunc_int (lf d fu : Nat) (k : Ex → Fr → M Value) (x0 : Value) (x1 : Value) (x2 : Value) (x3 : Value) (x4 : Value) (x14 : Value) (x15 : Value) (x28 : Value) (x80 : Value) : M Value := loopK (fun s1 k1 => codeK Try.prog (evCall2 Try.prog gt lf d) (gt 39) lf (codeAt (bodyOf Try.prog 39) [true, false, true, false, true, true, false, false, false]) s1 k1) [0, 1, 2, 3, 4, 14, 15, 28, 80] fu [(0, x0), (1, x1), (2, x2), (3, x3), (4, x4), (14, x14), (15, x15), (28, x28), (80, x80)] k
noncomputable def kcB_slices_symMergeCmpFunc_int (lf d : Nat) : Ex → Fr → M Value := contAt Try.prog (evCall2 Try.prog gt lf d) (gt 39) lf (bodyOf Try.prog 39) [true, false, true, false, true, true, false, false] (endK Try.prog (resOf Try.prog 39))
noncomputable def lpC_slices_symMergeCmpFunc_int (lf d fu : Nat) (k : Ex → Fr → M Value) (x0 : Value) (x1 : Value) (x2 : Value) (x3 : Value) (x4 : Value) (x18 : Value) (x19 : Value) (x20 : Value) (x21 : Value) (x22 : Value) (x28 : Value) (x80 : Value) (x140 : Value) : M Value := loopK (fun s1 k1 => codeK Try.prog (evCall2 Try.prog gt lf d) (gt 39) lf (codeAt (bodyOf Try.prog 39) [true, true, true, true, true, true, true, false, false, false]) s1 k1) [0, 1, 2, 3, 4, 18, 19, 20, 21, 22, 28, 80, 140] fu [(0, x0), (1, x1), (2, x2), (3, x3), (4, x4), (18, x18), (19, x19), (20, x20), (21, x21), (22, x22), (28, x28), (80, x80), (140, x140)] k
noncomputable def kcC_slices_symMergeCmpFunc_int (lf d : Nat) : Ex → Fr → M Value := contAt Try.prog (evCall2 Try.prog gt lf d) (gt 39) lf (bodyOf Try.prog 39) [true, true, true, true, true, true, true, false, false] (endK Try.prog (resOf Try.prog 39))
noncomputable def lpD_slices_symMergeCmpFunc_int (lf d fu : Nat) (k : Ex → Fr → M Value) (x0 : Value) (x1 : Value) (x2 : Value) (x3 : Value) (x4 : Value) (x10 : Value) (x11 : Value) (x13 : Value) (x28 : Value) (x33 : Value) : M Value := loopK (fun s1 k1 => codeK Try.prog (evCall2 Try.prog gt lf d) (gt 39) lf (codeAt (bodyOf Try.prog 39) [false, true, false, true, true, true, false, true, false, false]) s1 k1) [0, 1, 2, 3, 4, 10, 11, 13, 28, 33] fu [(0, x0), (1, x1), (2, x2), (3, x3), (4, x4), (10, x10), (11, x11), (13, x13), (28, x28), (33, x33)] k
noncomputable def kcD_slices_symMergeCmpFunc_int (lf d : Nat) : Ex → Fr → M Value := contAt Try.prog (evCall2 Try.prog gt lf d) (gt 39) lf (bodyOf Try.prog 39) [false, true, false, true, true, true, false, true, false] (endK Try.prog (resOf Try.prog 39))
noncomputable def lpE_slices_symMergeCmpFunc_int (lf d fu : Nat) (k : Ex → Fr → M Value) (x0 : Value) (x1 : Value) (x2 : Value) (x3 : Value) (x4 : Value) (x14 : Value) (x15 : Value) (x17 : Value) (x28 : Value) (x80 : Value) (x85 : Value) : M Value := loopK (fun s1 k1 => codeK Try.prog (evCall2 Try.prog gt lf d) (gt 39) lf (codeAt (bodyOf Try.prog 39) [true, false, true, false, true, true, true, false, true, false, false]) s1 k1) [0, 1, 2, 3, 4, 14, 15, 17, 28, 80, 85] fu [(0, x0), (1, x1), (2, x2), (3, x3), (4, x4), (14, x14), (15, x15), (17, x17), (28, x28), (80, x80), (85, x85)] k
noncomputable def kcE_slices_symMergeCmpFunc_int (lf d : Nat) : Ex → Fr → M Value := contAt Try.prog (evCall2 Try.prog gt lf d) (gt 39) lf (bodyOf Try.prog 39) [true, false, true, false, true, true, true, false, true, false] (endK Try.prog (resOf Try.prog 39))
noncomputable def b_slices_symMergeCmpFunc_int (lf d : Nat) (a0 : Value) (a1 : Value) (a2 : Value) (a3 : Value) (a4 : Value) : M Value :=
  optK (bin2 Try.prog .sub 3 a2 a1) fun v27n1 =>
  optK (bin2 Try.prog .eql 3 v27n1 (Value.int .i64 1)) fun v28n2 =>
  ifV v28n2 (
    lpA_slices_symMergeCmpFunc_int lf d lf (kcA_slices_symMergeCmpFunc_int lf d) a0 a1 a2 a3 a4 a2 a3 v28n2) (
    optK (bin2 Try.prog .sub 3 a3 a2) fun v79n3 =>
    optK (bin2 Try.prog .eql 3 v79n3 (Value.int .i64 1)) fun v80n4 =>
    ifV v80n4 (
      lpB_slices_symMergeCmpFunc_int lf d lf (kcB_slices_symMergeCmpFunc_int lf d) a0 a1 a2 a3 a4 a1 a2 v28n2 v80n4) (
      optK (bin2 Try.prog .add 3 a1 a3) fun v131n5 =>
      conv2 Try.prog 3 54 v131n5 fun v132n6 =>
      optK (bin2 Try.prog .shr 54 v132n6 (Value.int .u64 1)) fun v133n7 =>
      conv2 Try.prog 54 3 v133n7 fun v134n8 =>
      optK (bin2 Try.prog .add 3 v134n8 a2) fun v137n9 =>
      optK (bin2 Try.prog .gtr 3 a2 v134n8) fun v140n10 =>
      ifV v140n10 (
        optK (bin2 Try.prog .sub 3 v137n9 a3) fun v143n11 =>
        optK (bin2 Try.prog .sub 3 v137n9 (Value.int .i64 1)) fun v148n12 =>
        lpC_slices_symMergeCmpFunc_int lf d lf (kcC_slices_symMergeCmpFunc_int lf d) a0 a1 a2 a3 a4 v134n8 v137n9 v143n11 v134n8 v148n12 v28n2 v80n4 v140n10) (
        optK (bin2 Try.prog .sub 3 v137n9 (Value.int .i64 1)) fun v148n13 =>
        lpC_slices_symMergeCmpFunc_int lf d lf (kcC_slices_symMergeCmpFunc_int lf d) a0 a1 a2 a3 a4 v134n8 v137n9 a1 a2 v148n13 v28n2 v80n4 v140n10)))
theorem sh_slices_symMergeCmpFunc_int (lf d : Nat) (a0 : Value) (a1 : Value) (a2 : Value) (a3 : Value) (a4 : Value) : evCall2 Try.prog gt lf (d + 1) 39 #[a0, a1, a2, a3, a4] = inside (b_slices_symMergeCmpFunc_int lf d a0 a1 a2 a3 a4) := by kernel_rfl
theorem zeroA_slices_symMergeCmpFunc_int (lf d : Nat) (k : Ex → Fr → M Value) (x0 : Value) (x1 : Value) (x2 : Value) (x3 : Value) (x4 : Value) (x10 : Value) (x11 : Value) (x28 : Value) : lpA_slices_symMergeCmpFunc_int lf d 0 k x0 x1 x2 x3 x4 x10 x11 x28 = M.fail := rfl
theorem succA_slices_symMergeCmpFunc_int (lf d fu : Nat) (k : Ex → Fr → M Value) (x0 : Value) (x1 : Value) (x2 : Value) (x3 : Value) (x4 : Value) (x10 : Value) (x11 : Value) (x28 : Value) : lpA_slices_symMergeCmpFunc_int lf d (fu + 1) k x0 x1 x2 x3 x4 x10 x11 x28 =
  optK (bin2 Try.prog .lss 3 x10 x11) fun v33n14 =>
  ifV v33n14 (
    optK (bin2 Try.prog .add 3 x10 x11) fun v36n15 =>
    conv2 Try.prog 3 54 v36n15 fun v37n16 =>
    optK (bin2 Try.prog .shr 54 v37n16 (Value.int .u64 1)) fun v38n17 =>
    conv2 Try.prog 54 3 v38n17 fun v39n18 =>
    optK (evIndexAddr Try.prog 22 x0 v39n18) fun v43n19 =>
    (inside (evLoad Try.prog 3 v43n19)).bind fun v44n20 =>
    optK (evIndexAddr Try.prog 22 x0 x1) fun v47n21 =>
    (inside (evLoad Try.prog 3 v47n21)).bind fun v48n22 =>
    callV Try.prog (evCall2 Try.prog gt lf d) x4 [v44n20, v48n22] fun v49n23 =>
    optK (bin2 Try.prog .lss 3 v49n23 (Value.int .i64 0)) fun v50n24 =>
    ifV v50n24 (
      optK (bin2 Try.prog .add 3 v39n18 (Value.int .i64 1)) fun v52n25 =>
      lpA_slices_symMergeCmpFunc_int lf d fu k x0 x1 x2 x3 x4 v52n25 x11 x28) (
      lpA_slices_symMergeCmpFunc_int lf d fu k x0 x1 x2 x3 x4 x10 v39n18 x28)) (
    k (Ex.exit 0) [(0, x0), (1, x1), (2, x2), (3, x3), (4, x4), (10, x10), (11, x11), (28, x28), (33, v33n14)]) := by kernel_rfl
theorem kcAa_slices_symMergeCmpFunc_int (lf d : Nat) (y0 : Value) (y1 : Value) (y2 : Value) (y3 : Value) (y4 : Value) (y10 : Value) (y11 : Value) (y28 : Value) (y33 : Value) : kcA_slices_symMergeCmpFunc_int lf d (Ex.exit 0) [(0, y0), (1, y1), (2, y2), (3, y3), (4, y4), (10, y10), (11, y11), (28, y28), (33, y33)] =
  lpD_slices_symMergeCmpFunc_int lf d lf (kcD_slices_symMergeCmpFunc_int lf d) y0 y1 y2 y3 y4 y10 y11 y1 y28 y33 := by kernel_rfl
theorem zeroB_slices_symMergeCmpFunc_int (lf d : Nat) (k : Ex → Fr → M Value) (x0 : Value) (x1 : Value) (x2 : Value) (x3 : Value) (x4 : Value) (x14 : Value) (x15 : Value) (x28 : Value) (x80 : Value) : lpB_slices_symMergeCmpFunc_int lf d 0 k x0 x1 x2 x3 x4 x14 x15 x28 x80 = M.fail := rfl
theorem succB_slices_symMergeCmpFunc_int (lf d fu : Nat) (k : Ex → Fr → M Value) (x0 : Value) (x1 : Value) (x2 : Value) (x3 : Value) (x4 : Value) (x14 : Value) (x15 : Value) (x28 : Value) (x80 : Value) : lpB_slices_symMergeCmpFunc_int lf d (fu + 1) k x0 x1 x2 x3 x4 x14 x15 x28 x80 =
  optK (bin2 Try.prog .lss 3 x14 x15) fun v85n26 =>
  ifV v85n26 (
    optK (bin2 Try.prog .add 3 x14 x15) fun v88n27 =>
    conv2 Try.prog 3 54 v88n27 fun v89n28 =>
    optK (bin2 Try.prog .shr 54 v89n28 (Value.int .u64 1)) fun v90n29 =>
    conv2 Try.prog 54 3 v90n29 fun v91n30 =>
    optK (evIndexAddr Try.prog 22 x0 x2) fun v95n31 =>
    (inside (evLoad Try.prog 3 v95n31)).bind fun v96n32 =>
    optK (evIndexAddr Try.prog 22 x0 v91n30) fun v99n33 =>
    (inside (evLoad Try.prog 3 v99n33)).bind fun v100n34 =>
    callV Try.prog (evCall2 Try.prog gt lf d) x4 [v96n32, v100n34] fun v101n35 =>
    optK (bin2 Try.prog .lss 3 v101n35 (Value.int .i64 0)) fun v102n36 =>
    optK (un2 Try.prog .not v102n36) fun v103n37 =>
    ifV v103n37 (
      optK (bin2 Try.prog .add 3 v91n30 (Value.int .i64 1)) fun v105n38 =>
      lpB_slices_symMergeCmpFunc_int lf d fu k x0 x1 x2 x3 x4 v105n38 x15 x28 x80) (
      lpB_slices_symMergeCmpFunc_int lf d fu k x0 x1 x2 x3 x4 x14 v91n30 x28 x80)) (
    k (Ex.exit 4) [(0, x0), (1, x1), (2, x2), (3, x3), (4, x4), (14, x14), (15, x15), (28, x28), (80, x80), (85, v85n26)]) := by kernel_rfl
theorem kcBa_slices_symMergeCmpFunc_int (lf d : Nat) (y0 : Value) (y1 : Value) (y2 : Value) (y3 : Value) (y4 : Value) (y14 : Value) (y15 : Value) (y28 : Value) (y80 : Value) (y85 : Value) : kcB_slices_symMergeCmpFunc_int lf d (Ex.exit 4) [(0, y0), (1, y1), (2, y2), (3, y3), (4, y4), (14, y14), (15, y15), (28, y28), (80, y80), (85, y85)] =
  lpE_slices_symMergeCmpFunc_int lf d lf (kcE_slices_symMergeCmpFunc_int lf d) y0 y1 y2 y3 y4 y14 y15 y2 y28 y80 y85 := by kernel_rfl
theorem zeroC_slices_symMergeCmpFunc_int (lf d : Nat) (k : Ex → Fr → M Value) (x0 : Value) (x1 : Value) (x2 : Value) (x3 : Value) (x4 : Value) (x18 : Value) (x19 : Value) (x20 : Value) (x21 : Value) (x22 : Value) (x28 : Value) (x80 : Value) (x140 : Value) : lpC_slices_symMergeCmpFunc_int lf d 0 k x0 x1 x2 x3 x4 x18 x19 x20 x21 x22 x28 x80 x140 = M.fail := rfl
theorem succC_slices_symMergeCmpFunc_int (lf d fu : Nat) (k : Ex → Fr → M Value) (x0 : Value) (x1 : Value) (x2 : Value) (x3 : Value) (x4 : Value) (x18 : Value) (x19 : Value) (x20 : Value) (x21 : Value) (x22 : Value) (x28 : Value) (x80 : Value) (x140 : Value) : lpC_slices_symMergeCmpFunc_int lf d (fu + 1) k x0 x1 x2 x3 x4 x18 x19 x20 x21 x22 x28 x80 x140 =
  optK (bin2 Try.prog .lss 3 x20 x21) fun v151n39 =>
  ifV v151n39 (
    optK (bin2 Try.prog .add 3 x20 x21) fun v154n40 =>
    conv2 Try.prog 3 54 v154n40 fun v155n41 =>
    optK (bin2 Try.prog .shr 54 v155n41 (Value.int .u64 1)) fun v156n42 =>
    conv2 Try.prog 54 3 v156n42 fun v157n43 =>
    optK (bin2 Try.prog .sub 3 x22 v157n43) fun v162n44 =>
    optK (evIndexAddr Try.prog 22 x0 v162n44) fun v163n45 =>
    (inside (evLoad Try.prog 3 v163n45)).bind fun v164n46 =>
    optK (evIndexAddr Try.prog 22 x0 v157n43) fun v167n47 =>
    (inside (evLoad Try.prog 3 v167n47)).bind fun v168n48 =>
    callV Try.prog (evCall2 Try.prog gt lf d) x4 [v164n46, v168n48] fun v169n49 =>
    optK (bin2 Try.prog .lss 3 v169n49 (Value.int .i64 0)) fun v170n50 =>
    optK (un2 Try.prog .not v170n50) fun v171n51 =>
    ifV v171n51 (
      optK (bin2 Try.prog .add 3 v157n43 (Value.int .i64 1)) fun v173n52 =>
      lpC_slices_symMergeCmpFunc_int lf d fu k x0 x1 x2 x3 x4 x18 x19 v173n52 x21 x22 x28 x80 x140) (
      lpC_slices_symMergeCmpFunc_int lf d fu k x0 x1 x2 x3 x4 x18 x19 x20 v157n43 x22 x28 x80 x140)) (
    k (Ex.exit 8) [(0, x0), (1, x1), (2, x2), (3, x3), (4, x4), (18, x18), (19, x19), (20, x20), (21, x21), (22, x22), (28, x28), (80, x80), (140, x140), (151, v151n39)]) := by kernel_rfl
theorem kcCa_slices_symMergeCmpFunc_int (lf d : Nat) (y0 : Value) (y1 : Value) (y2 : Value) (y3 : Value) (y4 : Value) (y18 : Value) (y19 : Value) (y20 : Value) (y21 : Value) (y22 : Value) (y28 : Value) (y80 : Value) (y140 : Value) (y151 : Value) : kcC_slices_symMergeCmpFunc_int lf d (Ex.exit 8) [(0, y0), (1, y1), (2, y2), (3, y3), (4, y4), (18, y18), (19, y19), (20, y20), (21, y21), (22, y22), (28, y28), (80, y80), (140, y140), (151, y151)] =
  optK (bin2 Try.prog .sub 3 y19 y20) fun v177n53 =>
  optK (bin2 Try.prog .lss 3 y20 y2) fun v180n54 =>
  ifV v180n54 (
    optK (bin2 Try.prog .lss 3 y2 v177n53) fun v184n55 =>
    ifV v184n55 (
      (inside (evCall2 Try.prog gt lf d 40 #[y0, y20, y2, v177n53, y4])).bind fun v191n56 =>
      optK (bin2 Try.prog .lss 3 y1 y20) fun v194n57 =>
      ifV v194n57 (
        optK (bin2 Try.prog .lss 3 y20 y18) fun v198n58 =>
        ifV v198n58 (
          (inside (evCall2 Try.prog gt lf d 39 #[y0, y1, y20, y18, y4])).bind fun v205n59 =>
          optK (bin2 Try.prog .lss 3 y18 v177n53) fun v208n60 =>
          ifV v208n60 (
            optK (bin2 Try.prog .lss 3 v177n53 y3) fun v212n61 =>
            ifV v212n61 (
              (inside (evCall2 Try.prog gt lf d 39 #[y0, y18, v177n53, y3, y4])).bind fun v219n62 =>
              outK []) (
              outK [])) (
            outK [])) (
          optK (bin2 Try.prog .lss 3 y18 v177n53) fun v208n63 =>
          ifV v208n63 (
            optK (bin2 Try.prog .lss 3 v177n53 y3) fun v212n64 =>
            ifV v212n64 (
              (inside (evCall2 Try.prog gt lf d 39 #[y0, y18, v177n53, y3, y4])).bind fun v219n65 =>
              outK []) (
              outK [])) (
            outK []))) (
        optK (bin2 Try.prog .lss 3 y18 v177n53) fun v208n66 =>
        ifV v208n66 (
          optK (bin2 Try.prog .lss 3 v177n53 y3) fun v212n67 =>
          ifV v212n67 (
            (inside (evCall2 Try.prog gt lf d 39 #[y0, y18, v177n53, y3, y4])).bind fun v219n68 =>
            outK []) (
            outK [])) (
          outK []))) (
      optK (bin2 Try.prog .lss 3 y1 y20) fun v194n69 =>
      ifV v194n69 (
        optK (bin2 Try.prog .lss 3 y20 y18) fun v198n70 =>
        ifV v198n70 (
          (inside (evCall2 Try.prog gt lf d 39 #[y0, y1, y20, y18, y4])).bind fun v205n71 =>
          optK (bin2 Try.prog .lss 3 y18 v177n53) fun v208n72 =>
          ifV v208n72 (
            optK (bin2 Try.prog .lss 3 v177n53 y3) fun v212n73 =>
            ifV v212n73 (
              (inside (evCall2 Try.prog gt lf d 39 #[y0, y18, v177n53, y3, y4])).bind fun v219n74 =>
              outK []) (
              outK [])) (
            outK [])) (
          optK (bin2 Try.prog .lss 3 y18 v177n53) fun v208n75 =>
          ifV v208n75 (
            optK (bin2 Try.prog .lss 3 v177n53 y3) fun v212n76 =>
            ifV v212n76 (
              (inside (evCall2 Try.prog gt lf d 39 #[y0, y18, v177n53, y3, y4])).bind fun v219n77 =>
              outK []) (
              outK [])) (
            outK []))) (
        optK (bin2 Try.prog .lss 3 y18 v177n53) fun v208n78 =>
        ifV v208n78 (
          optK (bin2 Try.prog .lss 3 v177n53 y3) fun v212n79 =>
          ifV v212n79 (
            (inside (evCall2 Try.prog gt lf d 39 #[y0, y18, v177n53, y3, y4])).bind fun v219n80 =>
            outK []) (
            outK [])) (
          outK [])))) (
    optK (bin2 Try.prog .lss 3 y1 y20) fun v194n81 =>
    ifV v194n81 (
      optK (bin2 Try.prog .lss 3 y20 y18) fun v198n82 =>
      ifV v198n82 (
        (inside (evCall2 Try.prog gt lf d 39 #[y0, y1, y20, y18, y4])).bind fun v205n83 =>
        optK (bin2 Try.prog .lss 3 y18 v177n53) fun v208n84 =>
        ifV v208n84 (
          optK (bin2 Try.prog .lss 3 v177n53 y3) fun v212n85 =>
          ifV v212n85 (
            (inside (evCall2 Try.prog gt lf d 39 #[y0, y18, v177n53, y3, y4])).bind fun v219n86 =>
            outK []) (
            outK [])) (
          outK [])) (
        optK (bin2 Try.prog .lss 3 y18 v177n53) fun v208n87 =>
        ifV v208n87 (
          optK (bin2 Try.prog .lss 3 v177n53 y3) fun v212n88 =>
          ifV v212n88 (
            (inside (evCall2 Try.prog gt lf d 39 #[y0, y18, v177n53, y3, y4])).bind fun v219n89 =>
            outK []) (
            outK [])) (
          outK []))) (
      optK (bin2 Try.prog .lss 3 y18 v177n53) fun v208n90 =>
      ifV v208n90 (
        optK (bin2 Try.prog .lss 3 v177n53 y3) fun v212n91 =>
        ifV v212n91 (
          (inside (evCall2 Try.prog gt lf d 39 #[y0, y18, v177n53, y3, y4])).bind fun v219n92 =>
          outK []) (
          outK [])) (
        outK []))) := by kernel_rfl
theorem zeroD_slices_symMergeCmpFunc_int (lf d : Nat) (k : Ex → Fr → M Value) (x0 : Value) (x1 : Value) (x2 : Value) (x3 : Value) (x4 : Value) (x10 : Value) (x11 : Value) (x13 : Value) (x28 : Value) (x33 : Value) : lpD_slices_symMergeCmpFunc_int lf d 0 k x0 x1 x2 x3 x4 x10 x11 x13 x28 x33 = M.fail := rfl
theorem succD_slices_symMergeCmpFunc_int (lf d fu : Nat) (k : Ex → Fr → M Value) (x0 : Value) (x1 : Value) (x2 : Value) (x3 : Value) (x4 : Value) (x10 : Value) (x11 : Value) (x13 : Value) (x28 : Value) (x33 : Value) : lpD_slices_symMergeCmpFunc_int lf d (fu + 1) k x0 x1 x2 x3 x4 x10 x11 x13 x28 x33 =
  optK (bin2 Try.prog .sub 3 x10 (Value.int .i64 1)) fun v57n93 =>
  optK (bin2 Try.prog .lss 3 x13 v57n93) fun v58n94 =>
  ifV v58n94 (
    optK (bin2 Try.prog .add 3 x13 (Value.int .i64 1)) fun v65n95 =>
    optK (bin2 Try.prog .add 3 x13 (Value.int .i64 1)) fun v68n96 =>
    optK (evIndexAddr Try.prog 22 x0 v68n96) fun v69n97 =>
    (inside (evLoad Try.prog 3 v69n97)).bind fun v70n98 =>
    optK (evIndexAddr Try.prog 22 x0 x13) fun v73n99 =>
    (inside (evLoad Try.prog 3 v73n99)).bind fun v74n100 =>
    optK (evIndexAddr Try.prog 22 x0 x13) fun v75n101 =>
    (inside (evStore Try.prog 3 v75n101 v70n98)).bind fun u102 =>
    optK (evIndexAddr Try.prog 22 x0 v65n95) fun v76n103 =>
    (inside (evStore Try.prog 3 v76n103 v74n100)).bind fun u104 =>
    optK (bin2 Try.prog .add 3 x13 (Value.int .i64 1)) fun v60n105 =>
    lpD_slices_symMergeCmpFunc_int lf d fu k x0 x1 x2 x3 x4 x10 x11 v60n105 x28 x33) (
    k (Ex.exit 2) [(0, x0), (1, x1), (2, x2), (3, x3), (4, x4), (10, x10), (11, x11), (13, x13), (28, x28), (33, x33), (58, v58n94)]) := by kernel_rfl
theorem kcDa_slices_symMergeCmpFunc_int (lf d : Nat) (y0 : Value) (y1 : Value) (y2 : Value) (y3 : Value) (y4 : Value) (y10 : Value) (y11 : Value) (y13 : Value) (y28 : Value) (y33 : Value) (y58 : Value) : kcD_slices_symMergeCmpFunc_int lf d (Ex.exit 2) [(0, y0), (1, y1), (2, y2), (3, y3), (4, y4), (10, y10), (11, y11), (13, y13), (28, y28), (33, y33), (58, y58)] =
  outK [] := by kernel_rfl
theorem zeroE_slices_symMergeCmpFunc_int (lf d : Nat) (k : Ex → Fr → M Value) (x0 : Value) (x1 : Value) (x2 : Value) (x3 : Value) (x4 : Value) (x14 : Value) (x15 : Value) (x17 : Value) (x28 : Value) (x80 : Value) (x85 : Value) : lpE_slices_symMergeCmpFunc_int lf d 0 k x0 x1 x2 x3 x4 x14 x15 x17 x28 x80 x85 = M.fail := rfl
theorem succE_slices_symMergeCmpFunc_int (lf d fu : Nat) (k : Ex → Fr → M Value) (x0 : Value) (x1 : Value) (x2 : Value) (x3 : Value) (x4 : Value) (x14 : Value) (x15 : Value) (x17 : Value) (x28 : Value) (x80 : Value) (x85 : Value) : lpE_slices_symMergeCmpFunc_int lf d (fu + 1) k x0 x1 x2 x3 x4 x14 x15 x17 x28 x80 x85 =
  optK (bin2 Try.prog .gtr 3 x17 x14) fun v110n106 =>
  ifV v110n106 (
    optK (bin2 Try.prog .sub 3 x17 (Value.int .i64 1)) fun v117n107 =>
    optK (bin2 Try.prog .sub 3 x17 (Value.int .i64 1)) fun v120n108 =>
    optK (evIndexAddr Try.prog 22 x0 v120n108) fun v121n109 =>
    (inside (evLoad Try.prog 3 v121n109)).bind fun v122n110 =>
    optK (evIndexAddr Try.prog 22 x0 x17) fun v125n111 =>
    (inside (evLoad Try.prog 3 v125n111)).bind fun v126n112 =>
    optK (evIndexAddr Try.prog 22 x0 x17) fun v127n113 =>
    (inside (evStore Try.prog 3 v127n113 v122n110)).bind fun u114 =>
    optK (evIndexAddr Try.prog 22 x0 v117n107) fun v128n115 =>
    (inside (evStore Try.prog 3 v128n115 v126n112)).bind fun u116 =>
    optK (bin2 Try.prog .sub 3 x17 (Value.int .i64 1)) fun v112n117 =>
    lpE_slices_symMergeCmpFunc_int lf d fu k x0 x1 x2 x3 x4 x14 x15 v112n117 x28 x80 x85) (
    k (Ex.exit 6) [(0, x0), (1, x1), (2, x2), (3, x3), (4, x4), (14, x14), (15, x15), (17, x17), (28, x28), (80, x80), (85, x85), (110, v110n106)]) := by kernel_rfl
theorem kcEa_slices_symMergeCmpFunc_int (lf d : Nat) (y0 : Value) (y1 : Value) (y2 : Value) (y3 : Value) (y4 : Value) (y14 : Value) (y15 : Value) (y17 : Value) (y28 : Value) (y80 : Value) (y85 : Value) (y110 : Value) : kcE_slices_symMergeCmpFunc_int lf d (Ex.exit 6) [(0, y0), (1, y1), (2, y2), (3, y3), (4, y4), (14, y14), (15, y15), (17, y17), (28, y28), (80, y80), (85, y85), (110, y110)] =
  outK [] := by kernel_rfl

/- slices_rotateCmpFunc_int -/
noncomputable def lpA_slices_rotateCmpFunc_int (lf d fu : Nat) (k : Ex → Fr → M Value) (x0 : Value) (x1 : Value) (x2 : Value) (x3 : Value) (x4 : Value) (x10 : Value) (x11 : Value) : M Value := loopK (fun s1 k1 => codeK Try.prog (evCall2 Try.prog gt lf d) (gt 40) lf (codeAt (bodyOf Try.prog 40) [true, true, false, false, false]) s1 k1) [0, 1, 2, 3, 4, 10, 11] fu [(0, x0), (1, x1), (2, x2), (3, x3), (4, x4), (10, x10), (11, x11)] k
noncomputable def kcA_slices_rotateCmpFunc_int (lf d : Nat) : Ex → Fr → M Value := contAt Try.prog (evCall2 Try.prog gt lf d) (gt 40) lf (bodyOf Try.prog 40) [true, true, false, false] (endK Try.prog (resOf Try.prog 40))
noncomputable def b_slices_rotateCmpFunc_int (lf d : Nat) (a0 : Value) (a1 : Value) (a2 : Value) (a3 : Value) (a4 : Value) : M Value :=
  optK (bin2 Try.prog .sub 3 a2 a1) fun v14n1 =>
  optK (bin2 Try.prog .sub 3 a3 a2) fun v17n2 =>
  lpA_slices_rotateCmpFunc_int lf d lf (kcA_slices_rotateCmpFunc_int lf d) a0 a1 a2 a3 a4 v14n1 v17n2
theorem sh_slices_rotateCmpFunc_int (lf d : Nat) (a0 : Value) (a1 : Value) (a2 : Value) (a3 : Value) (a4 : Value) : evCall2 Try.prog gt lf (d + 1) 40 #[a0, a1, a2, a3, a4] = inside (b_slices_rotateCmpFunc_int lf d a0 a1 a2 a3 a4) := by kernel_rfl
theorem zeroA_slices_rotateCmpFunc_int (lf d : Nat) (k : Ex → Fr → M Value) (x0 : Value) (x1 : Value) (x2 : Value) (x3 : Value) (x4 : Value) (x10 : Value) (x11 : Value) : lpA_slices_rotateCmpFunc_int lf d 0 k x0 x1 x2 x3 x4 x10 x11 = M.fail := rfl
theorem succA_slices_rotateCmpFunc_int (lf d fu : Nat) (k : Ex → Fr → M Value) (x0 : Value) (x1 : Value) (x2 : Value) (x3 : Value) (x4 : Value) (x10 : Value) (x11 : Value) : lpA_slices_rotateCmpFunc_int lf d (fu + 1) k x0 x1 x2 x3 x4 x10 x11 =
  optK (bin2 Try.prog .neq 3 x10 x11) fun v20n3 =>
  ifV v20n3 (
    optK (bin2 Try.prog .gtr 3 x10 x11) fun v23n4 =>
    ifV v23n4 (
      optK (bin2 Try.prog .sub 3 x2 x10) fun v27n5 =>
      (inside (evCall2 Try.prog gt lf d 41 #[x0, v27n5, x2, x11, x4])).bind fun v31n6 =>
      optK (bin2 Try.prog .sub 3 x10 x11) fun v34n7 =>
      lpA_slices_rotateCmpFunc_int lf d fu k x0 x1 x2 x3 x4 v34n7 x11) (
      optK (bin2 Try.prog .sub 3 x2 x10) fun v38n8 =>
      optK (bin2 Try.prog .add 3 x2 x11) fun v41n9 =>
      optK (bin2 Try.prog .sub 3 v41n9 x10) fun v43n10 =>
      (inside (evCall2 Try.prog gt lf d 41 #[x0, v38n8, v43n10, x10, x4])).bind fun v46n11 =>
      optK (bin2 Try.prog .sub 3 x11 x10) fun v49n12 =>
      lpA_slices_rotateCmpFunc_int lf d fu k x0 x1 x2 x3 x4 x10 v49n12)) (
    k (Ex.exit 0) [(0, x0), (1, x1), (2, x2), (3, x3), (4, x4), (10, x10), (11, x11), (20, v20n3)]) := by kernel_rfl
theorem kcAa_slices_rotateCmpFunc_int (lf d : Nat) (y0 : Value) (y1 : Value) (y2 : Value) (y3 : Value) (y4 : Value) (y10 : Value) (y11 : Value) (y20 : Value) : kcA_slices_rotateCmpFunc_int lf d (Ex.exit 0) [(0, y0), (1, y1), (2, y2), (3, y3), (4, y4), (10, y10), (11, y11), (20, y20)] =
  optK (bin2 Try.prog .sub 3 y2 y10) fun v53n13 =>
  (inside (evCall2 Try.prog gt lf d 41 #[y0, v53n13, y2, y10, y4])).bind fun v57n14 =>
  outK [] := by kernel_rfl

/- slices_swapRangeCmpFunc_int -/
noncomputable def lpA_slices_swapRangeCmpFunc_int (lf d fu : Nat) (k : Ex → Fr → M Value) (x0 : Value) (x1 : Value) (x2 : Value) (x3 : Value) (x10 : Value) : M Value := loopK (fun s1 k1 => codeK Try.prog (evCall2 Try.prog gt lf d) (gt 41) lf (codeAt (bodyOf Try.prog 41) [true, false, false]) s1 k1) [0, 1, 2, 3, 10] fu [(0, x0), (1, x1), (2, x2), (3, x3), (10, x10)] k
noncomputable def kcA_slices_swapRangeCmpFunc_int (lf d : Nat) : Ex → Fr → M Value := contAt Try.prog (evCall2 Try.prog gt lf d) (gt 41) lf (bodyOf Try.prog 41) [true, false] (endK Try.prog (resOf Try.prog 41))
noncomputable def b_slices_swapRangeCmpFunc_int (lf d : Nat) (a0 : Value) (a1 : Value) (a2 : Value) (a3 : Value) (a4 : Value) : M Value :=
  lpA_slices_swapRangeCmpFunc_int lf d lf (kcA_slices_swapRangeCmpFunc_int lf d) a0 a1 a2 a3 (Value.int .i64 0)
theorem sh_slices_swapRangeCmpFunc_int (lf d : Nat) (a0 : Value) (a1 : Value) (a2 : Value) (a3 : Value) (a4 : Value) : evCall2 Try.prog gt lf (d + 1) 41 #[a0, a1, a2, a3, a4] = inside (b_slices_swapRangeCmpFunc_int lf d a0 a1 a2 a3 a4) := by kernel_rfl
theorem zeroA_slices_swapRangeCmpFunc_int (lf d : Nat) (k : Ex → Fr → M Value) (x0 : Value) (x1 : Value) (x2 : Value) (x3 : Value) (x10 : Value) : lpA_slices_swapRangeCmpFunc_int lf d 0 k x0 x1 x2 x3 x10 = M.fail := rfl
theorem succA_slices_swapRangeCmpFunc_int (lf d fu : Nat) (k : Ex → Fr → M Value) (x0 : Value) (x1 : Value) (x2 : Value) (x3 : Value) (x10 : Value) : lpA_slices_swapRangeCmpFunc_int lf d (fu + 1) k x0 x1 x2 x3 x10 =
  optK (bin2 Try.prog .lss 3 x10 x3) fun v13n1 =>
  ifV v13n1 (
    optK (bin2 Try.prog .add 3 x1 x10) fun v19n2 =>
    optK (bin2 Try.prog .add 3 x2 x10) fun v23n3 =>
    optK (bin2 Try.prog .add 3 x2 x10) fun v27n4 =>
    optK (evIndexAddr Try.prog 22 x0 v27n4) fun v28n5 =>
    (inside (evLoad Try.prog 3 v28n5)).bind fun v29n6 =>
    optK (bin2 Try.prog .add 3 x1 x10) fun v33n7 =>
    optK (evIndexAddr Try.prog 22 x0 v33n7) fun v34n8 =>
    (inside (evLoad Try.prog 3 v34n8)).bind fun v35n9 =>
    optK (evIndexAddr Try.prog 22 x0 v19n2) fun v36n10 =>
    (inside (evStore Try.prog 3 v36n10 v29n6)).bind fun u11 =>
    optK (evIndexAddr Try.prog 22 x0 v23n3) fun v37n12 =>
    (inside (evStore Try.prog 3 v37n12 v35n9)).bind fun u13 =>
    optK (bin2 Try.prog .add 3 x10 (Value.int .i64 1)) fun v15n14 =>
    lpA_slices_swapRangeCmpFunc_int lf d fu k x0 x1 x2 x3 v15n14) (
    k (Ex.exit 0) [(0, x0), (1, x1), (2, x2), (3, x3), (10, x10), (13, v13n1)]) := by kernel_rfl
theorem kcAa_slices_swapRangeCmpFunc_int (lf d : Nat) (y0 : Value) (y1 : Value) (y2 : Value) (y3 : Value) (y10 : Value) (y13 : Value) : kcA_slices_swapRangeCmpFunc_int lf d (Ex.exit 0) [(0, y0), (1, y1), (2, y2), (3, y3), (10, y10), (13, y13)] =
  outK [] := by kernel_rfl

end Go.Proofs.Ytapdcejhfooahaa
